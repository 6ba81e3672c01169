/- Operations that make or write blocks of the call's own. -/
import Derived.Test.YtcminfahdindnaaDoorGA4
namespace Go.GA
open Go Go.RowKit

/-! ### Freshness of a name -/
def memB (i : Nat) : List Nat → Bool
  | [] => false
  | j :: l => bif Nat.beq i j then true else memB i l
def freshB (id : Nat) (fr : Fr) (H : Hp) : Bool := !(memB id (Fr.ids fr)) && !(memB id (Hp.ids H))
theorem memB_false {i : Nat} : ∀ {l : List Nat}, memB i l = false → i ∉ l
  | [], _, h => by cases h
  | j :: l, hb, h => by
    unfold memB at hb
    cases e : Nat.beq i j with
    | true => rw [e] at hb; cases hb
    | false =>
      rw [e] at hb
      rcases List.mem_cons.1 h with h | h
      · exact Nat.ne_of_beq_eq_false e h
      · exact memB_false hb h
theorem freshB_fr {id : Nat} {fr : Fr} {H : Hp} (h : freshB id fr H = true) : id ∉ Fr.ids fr := by
  simp only [freshB, Bool.and_eq_true, Bool.not_eq_true'] at h; exact memB_false h.1
theorem freshB_H {id : Nat} {fr : Fr} {H : Hp} (h : freshB id fr H = true) : id ∉ Hp.ids H := by
  simp only [freshB, Bool.and_eq_true, Bool.not_eq_true'] at h; exact memB_false h.2
theorem get_ids : ∀ {fr : Fr} {t : Nat} {x : AV}, get fr t = some x → ∀ i ∈ x.ids, i ∈ Fr.ids fr
  | (j, a) :: l, t, x, h, i, hi => by
    unfold get at h
    cases e : Nat.beq j t with
    | true => rw [e] at h; simp only [cond_true, Option.some.injEq] at h; subst h; simp [Fr.ids, hi]
    | false => rw [e] at h; have := get_ids h i hi; simp only [Fr.ids, List.flatMap_cons, List.mem_append]; exact .inr this

def upd (ρ : Rho) (id : Nat) (p : Option (Nat × Nat × Nat)) : Rho := ⟨fun i => if i = id then p else ρ i, ρ.N⟩
theorem upd_same (ρ : Rho) (id : Nat) (p) : upd ρ id p id = p := by simp [upd]
theorem upd_other (ρ : Rho) {id i : Nat} (p) (h : i ≠ id) : upd ρ id p i = ρ i := by simp [upd, h]

def updL (ℓ : Nat → List Nat) (id : Nat) (x : List Nat) : Nat → List Nat := fun i => if i = id then x else ℓ i
theorem updL_same (ℓ : Nat → List Nat) (id : Nat) (x) : updL ℓ id x id = x := by simp [updL]
theorem updL_other (ℓ : Nat → List Nat) {id i : Nat} (x) (h : i ≠ id) : updL ℓ id x i = ℓ i := by simp [updL, h]

theorem hids_head {H : Hp} {e} (h : e ∈ H) : e.1 ∈ Hp.ids H := by
  simp only [Hp.ids, List.mem_flatMap]; exact ⟨e, h, by simp⟩

theorem RComps.there {ρ : Rho} {h : Hf} {M : Nat → Prop} : ∀ {cs : List Comp} {vs F}, RComps ρ h M cs vs F → ∀ b ∈ F, h b ≠ none
  | [], _, _, hr, b, hb => by rw [hr.2] at hb; cases hb
  | .cell a :: r, _, _, hr, b, hb => by
    obtain ⟨v, cs', e, h1, h2, h3⟩ := hr
    exact RComps.there h3 b hb
  | .arr t n xs :: r, _, _, hr, b, hb => by
    obtain ⟨c1, c2, F1, F2, e, eF, h1, h2⟩ := hr
    subst eF
    rcases List.mem_append.1 hb with h | h
    · exact h1.there _ b h
    · exact RComps.there h2 b h
theorem RBlk.there {ρ : Rho} {h : Hf} {M : Nat → Prop} {id : Nat} : ∀ {B : Blk} {L}, RBlk ρ h M id B L → ∀ b ∈ L, h b ≠ none
  | .var cs, _, hr, b, hb => by
    obtain ⟨b', k, c, T, F, h1, h2, h3, e⟩ := hr
    subst e
    rcases List.mem_cons.1 hb with e | hb
    · subst e; rw [h2]; simp
    · exact h3.there b hb
  | .row t xs, _, hr, b, hb => by
    obtain ⟨hl, ⟨h1, h2, e⟩ | ⟨b', cap, c, T, F, mid, post, h1, h2, h3, h4, e, h5⟩⟩ := hr
    · subst e; cases hb
    · subst e
      rcases List.mem_cons.1 hb with e | hb
      · subst e; rw [h2]; simp
      · exact RelL.mem (fun x c F hc => Rc.there t hc) h4 b hb
theorem HeapOK.there {ρ : Rho} {h : Hf} {H : Hp} {ℓ : Nat → List Nat} (hk : HeapOK ρ h H ℓ) {e} (he : e ∈ H) : ∀ b ∈ ℓ e.1, h b ≠ none := (hk.blk e he).there
theorem mem_hids {H : Hp} {e} (he : e ∈ H) {i : Nat} (h : i = e.1 ∨ i ∈ e.2.ids) : i ∈ Hp.ids H := by
  simp only [Hp.ids, List.mem_flatMap]; exact ⟨e, he, by rcases h with h | h <;> simp [h]⟩
theorem hf_lt {w : World} {b : Nat} (h : World.hf w b ≠ none) : b < w.heap.size := by
  rcases Nat.lt_or_ge b w.heap.size with h' | h'
  · exact h'
  · exact absurd (Array.getElem?_eq_none h') h
theorem heap_alloc_lt (w : World) (o : Obj) (i : Nat) (h : i < w.heap.size) : (w.alloc o).heap[i]? = w.heap[i]? := by
  show (w.heap.push o)[i]? = w.heap[i]?
  rw [Array.getElem?_push, if_neg (Nat.ne_of_lt h)]
theorem hf_alloc_old {w : World} {o : Obj} {b : Nat} (h : b < w.heap.size) : World.hf (w.alloc o) b = World.hf w b := heap_alloc_lt w o b h
theorem hf_alloc_new {w : World} {o : Obj} : World.hf (w.alloc o) w.heap.size = some o := heap_alloc_new w o

/-- own blocks and those behind them, with a new one -/
theorem SIM.alloc {Γ : Ctx} {n : Sz} {ρ : Rho} {w : World} {a : Act} {fr : Fr} {H : Hp} (s : SIM Γ n ρ w a fr H) {id : Nat} (hid : freshB id fr H = true) (hK : Nat.ble n.K id = true) {c : Array Value} {T : TypeId} {B : Blk} {p : Nat × Nat} {F : List Nat}
    (hB : ∀ ρ' h' M', (∀ i ∈ B.ids, ρ' i = ρ i) → ρ' id = some (w.heap.size, p) → h' w.heap.size = some (.cells c T) → (∀ b, ¬ ownB ρ H b → World.hf w b ≠ none → h' b = World.hf w b ∧ ¬ M' b) → (∀ b, World.hf w b ≠ none → h' b = World.hf w b) → RBlk ρ' h' M' id B (w.heap.size :: F))
    (hBi : memB id B.ids = false) (hF : ∀ b ∈ F, World.hf w b ≠ none ∧ Γ.W0.heap.size ≤ b) (hFL : ∀ ℓ, HeapOK ρ (World.hf w) H ℓ → ∀ e ∈ H, ∀ b ∈ ℓ e.1, b ∉ F) (hFn : F.Nodup) :
    SIM Γ n (upd ρ id (some (w.heap.size, p))) (w.alloc (.cells c T)) a fr ((id, B) :: H) := by
  have hin := freshB_H hid
  have hneq : ∀ e ∈ H, e.1 ≠ id := fun e he h => hin (h ▸ hids_head he)
  have hnam : ∀ b, namB (upd ρ id (some (w.heap.size, p))) ((id, B) :: H) b ↔ b = w.heap.size ∨ namB ρ H b := by
    intro b
    constructor
    · rintro ⟨e, he, k, hk⟩
      rcases List.mem_cons.1 he with rfl | he
      · rw [upd_same] at hk; simp at hk; exact .inl hk.1.symm
      · rw [upd_other _ _ (hneq e he)] at hk; exact .inr ⟨e, he, k, hk⟩
    · rintro (rfl | ⟨e, he, k, hk⟩)
      · exact ⟨(id, B), by simp, p, upd_same _ _ _⟩
      · exact ⟨e, List.mem_cons_of_mem _ he, k, by rw [upd_other _ _ (hneq e he)]; exact hk⟩
  have hown : ∀ b, ownB (upd ρ id (some (w.heap.size, p))) ((id, B) :: H) b ↔ b = w.heap.size ∨ ownB ρ H b := by
    intro b
    unfold ownB
    rw [hnam b]
    exact or_assoc
  have hold : ∀ b, World.hf w b ≠ none → World.hf (w.alloc (.cells c T)) b = World.hf w b := fun b hb => hf_alloc_old (hf_lt hb)
  have hm : ∀ b, ¬ ownB ρ H b → World.hf w b ≠ none → World.hf (w.alloc (.cells c T)) b = World.hf w b ∧ ¬ ownB (upd ρ id (some (w.heap.size, p))) ((id, B) :: H) b := fun b hb hb' =>
    ⟨hold b hb', fun h => by rcases (hown b).1 h with h | h; · have := hf_lt hb'; omega
                             · exact hb h⟩
  have hsz : Γ.W0.heap.size ≤ w.heap.size := s.ext.size
  refine ⟨s.defers, s.size, s.ext.trans ⟨rfl, rfl, rfl, by simp, fun k hk _ => heap_alloc_lt w _ k hk⟩, ?_, ?_, ?_, ?_⟩
  · intro i hi
    have : i ≠ id := fun h => by have := Nat.le_of_ble_eq_true hK; omega
    rw [upd_other _ _ this]; exact s.keep i hi
  · intro b hb
    rcases (hnam b).1 hb with rfl | h
    · exact .inr hsz
    · exact s.own b h
  · obtain ⟨ℓ, hL, hb⟩ := s.heap
    have hlt : ∀ e ∈ H, ∀ b ∈ ℓ e.1, b < w.heap.size := fun e he b h => hf_lt (hL.there he b h)
    have hℓ : ∀ e ∈ H, updL ℓ id (w.heap.size :: F) e.1 = ℓ e.1 := fun e he => updL_other _ _ (hneq e he)
    have hℓ0 : updL ℓ id (w.heap.size :: F) id = w.heap.size :: F := updL_same _ _ _
    refine ⟨updL ℓ id (w.heap.size :: F), ⟨?_, ?_, ?_, ?_⟩, ?_⟩
    · intro e he
      rcases List.mem_cons.1 he with rfl | he
      · rw [hℓ0]; exact hB _ _ _ (fun i hi => upd_other _ _ (fun h => memB_false hBi (by rw [← h]; exact hi))) (upd_same _ _ _) hf_alloc_new hm hold
      · rw [hℓ e he]
        exact (hL.blk e he).same (fun i hi => upd_other _ _ (fun h => hin (h ▸ mem_hids he hi))) hm (fun b h => hf_alloc_old (hlt e he b h))
    · intro e he
      rcases List.mem_cons.1 he with rfl | he
      · rw [hℓ0]
        exact List.nodup_cons.2 ⟨fun h => by have := hf_lt (hF _ h).1; omega, hFn⟩
      · rw [hℓ e he]; exact hL.nd e he
    · intro e he e' he' hne b hb'
      rcases List.mem_cons.1 he with rfl | he
      · rcases List.mem_cons.1 he' with rfl | he'
        · exact absurd rfl hne
        · rw [hℓ e' he']
          rw [hℓ0] at hb'
          rcases List.mem_cons.1 hb' with rfl | hb'
          · intro h; have := hlt e' he' _ h; omega
          · intro h; exact hFL ℓ hL e' he' b h hb'
      · rw [hℓ e he] at hb'
        rcases List.mem_cons.1 he' with rfl | he'
        · rw [hℓ0]
          intro h
          rcases List.mem_cons.1 h with rfl | h
          · have := hlt e he _ hb'; omega
          · exact hFL ℓ hL e he b hb' h
        · rw [hℓ e' he']; exact hL.dj e he e' he' hne b hb'
    · simp only [List.map_cons, List.nodup_cons, List.mem_map]
      exact ⟨fun ⟨e, he, h⟩ => hneq e he h, hL.ids⟩
    · intro e he b hb'
      rcases List.mem_cons.1 he with rfl | he
      · rw [hℓ0] at hb'
        rcases List.mem_cons.1 hb' with rfl | h
        · exact .inr hsz
        · exact .inr (hF b h).2
      · rw [hℓ e he] at hb'; exact hb e he b hb'
  · intro t x hx
    obtain ⟨h1, h2⟩ := s.fr t x hx
    exact ⟨h1, h2.same x (fun i hi => upd_other _ _ (fun h => freshB_fr hid (h ▸ get_ids hx i hi))) hm⟩

/-! ### Effects -/
/-- what an operation may do to the memory: it writes blocks whose names it takes away, and makes new ones -/
structure Grew (ρ ρ' : Rho) (w w' : World) (H H' : Hp) : Prop where
  os : w'.os = w.os
  tape : w'.tape = w.tape
  out : w'.output = w.output
  size : w.heap.size ≤ w'.heap.size
  blk : ∀ b, b < w.heap.size → (∀ e ∈ H, (∀ e' ∈ H', e'.1 ≠ e.1) → ∀ k, ρ e.1 ≠ some (b, k)) → w'.heap[b]? = w.heap[b]?
  own : ∀ e' ∈ H', ∀ b k, ρ' e'.1 = some (b, k) → (∃ e ∈ H, e.1 = e'.1 ∧ ρ e.1 = some (b, k)) ∨ (∃ e ∈ H, (∀ e' ∈ H', e'.1 ≠ e.1) ∧ ∃ k', ρ e.1 = some (b, k')) ∨ w.heap.size ≤ b
theorem grew_alloc {ρ : Rho} {w : World} {H : Hp} {id : Nat} {fr : Fr} (hid : freshB id fr H = true) {B : Blk} {o : Obj} {p : Nat × Nat} : Grew ρ (upd ρ id (some (w.heap.size, p))) w (w.alloc o) H ((id, B) :: H) := by
  refine ⟨rfl, rfl, rfl, by simp, fun b hb _ => heap_alloc_lt w o b hb, fun e' he' b k hb => ?_⟩
  rcases List.mem_cons.1 he' with rfl | he'
  · rw [upd_same] at hb
    simp only [Option.some.injEq, Prod.mk.injEq] at hb
    exact .inr (.inr (by omega))
  · have hne : e'.1 ≠ id := fun h => freshB_H hid (h ▸ hids_head he')
    rw [upd_other _ _ hne] at hb
    exact .inl ⟨e', he', rfl, hb⟩
def Eff (P : Program) (n : Sz) (o : Oper) (fr : Fr) (H : Hp) (x : AV) (fr' : Fr) (H' : Hp) : Prop :=
  ∀ Γ ρ w a, SIM Γ n ρ w a fr H → ∃ v w' ρ', (execOp a.eval o).run P w = .ok (.value v) w' ∧ (SIM Γ n ρ' w' a fr' H' ∧ Grew ρ ρ' w w' H H') ∧ RA ρ' (World.hf w') (ownB ρ' H') x v
def EffS (P : Program) (n : Sz) (o : Oper) (fr : Fr) (H : Hp) (fr' : Fr) (H' : Hp) : Prop :=
  ∀ Γ ρ w a, SIM Γ n ρ w a fr H → ∃ w' ρ', (execOp a.eval o).run P w = .ok .skip w' ∧ SIM Γ n ρ' w' a fr' H'
section
variable {P : Program} {Γ : Ctx} {n : Sz} {Q : Exit → Act → World → Prop} {fr fr' : Fr} {H H' : Hp} {all : Array Oper} {ops : List Oper} {ty : TypeId} {pos : String} {aft : Array Edge} {op : Op} {g : Option (Nat × Bool)}
theorem ao_eff {d : Nat} {x : AV} (hg : gOK all fr g) (he : Eff P n ⟨some d, op, ty, pos, aft, g⟩ fr H x fr' H') (hd : Nat.blt d n.n = true) (h : AO P Γ n all Q ops ((d, x) :: fr') H') :
    AO P Γ n all Q (⟨some d, op, ty, pos, aft, g⟩ :: ops) fr H := fun ρ w a s => by
  obtain ⟨v, w', ρ', hrun, ⟨s', _⟩, hv⟩ := he Γ ρ w a s
  refine wpList_go (s.wanted hg) fun K hK => ?_
  unfold Oper.wp
  rw [hrun]
  exact hK _ _ (h ρ' w' _ (s'.put hd hv))
theorem ao_effS (hg : gOK all fr g) (he : EffS P n ⟨none, op, ty, pos, aft, g⟩ fr H fr' H') (h : AO P Γ n all Q ops fr' H') :
    AO P Γ n all Q (⟨none, op, ty, pos, aft, g⟩ :: ops) fr H := fun ρ w a s => by
  obtain ⟨w', ρ', hrun, s'⟩ := he Γ ρ w a s
  refine wpList_go (s.wanted hg) fun K hK => ?_
  unfold Oper.wp
  rw [hrun]
  exact hK _ _ (h ρ' w' _ s')
end

/-! ### New variables -/
def tyComps : (t : Ty) → t.D → List Comp
  | .arr n t, xs => [.arr t n xs]
  | .pair a b, x => tyComps a x.1 ++ tyComps b x.2
  | .unit, _ => []
  | .int k, x => [.cell (.int k x)]
  | .bool, x => [.cell (.bool x)]
  | .str, x => [.cell (.str x)]
  | .slice t, x => [.cell (.v (.slice t) x)]
/-- arrays in it hold no slices -/
def Ty.flatArrs : Ty → Bool
  | .arr _ t => t.flat
  | .pair a b => a.flatArrs && b.flatArrs
  | _ => true
mutual
def toComps : AV → List Comp
  | .v t x => tyComps t x
  | .st xs => toCompsL xs
  | x => [.cell x]
def toCompsL : List AV → List Comp
  | [] => []
  | x :: xs => toComps x ++ toCompsL xs
end
mutual
def boxable : AV → Bool
  | .v t _ => t.flatArrs
  | .st xs => boxableL xs
  | x => x.one
def boxableL : List AV → Bool
  | [] => true
  | x :: xs => boxable x && boxableL xs
end
theorem RComps.append {ρ : Rho} {h : Hf} {M : Nat → Prop} : ∀ {cs ds : List Comp} {vs ws F G}, RComps ρ h M cs vs F → RComps ρ h M ds ws G → RComps ρ h M (cs ++ ds) (vs ++ ws) (F ++ G)
  | [], _, _, _, _, _, h1, h2 => by obtain ⟨rfl, rfl⟩ := h1; exact h2
  | .cell a :: r, _, _, _, _, _, h1, h2 => by
    obtain ⟨v, cs', e, h3, h4, h5⟩ := h1
    exact ⟨v, cs' ++ _, by rw [e]; rfl, h3, h4, RComps.append h5 h2⟩
  | .arr t n xs :: r, _, _, _, _, _, h1, h2 => by
    obtain ⟨c1, c2, F1, F2, e, eF, h3, h4⟩ := h1
    subst e; subst eF
    exact ⟨c1, c2 ++ _, F1, F2 ++ _, by simp, by simp, h3, RComps.append h4 h2⟩
theorem ty_comps {ρ : Rho} {h : Hf} {M : Nat → Prop} : ∀ (t : Ty) {x : t.D} {cs F}, Rc h t x cs F → t.flatArrs = true → (∀ b ∈ F, ¬ M b) → RComps ρ h M (tyComps t x) cs []
  | .arr n t, x, cs, F, hx, hf, _ => by
    have hF : F = [] := Rc.flat (.arr n t) hf hx
    subst hF
    exact ⟨cs, [], [], [], by simp, rfl, hx, rfl, rfl⟩
  | .pair a b, x, cs, F, hx, hf, hM => by
    simp only [Ty.flatArrs, Bool.and_eq_true] at hf
    obtain ⟨c1, c2, F1, F2, e, eF, h1, h2⟩ := hx
    subst e; subst eF
    exact RComps.append (F := []) (G := []) (ty_comps a h1 hf.1 (fun b hb => hM b (List.mem_append_left _ hb))) (ty_comps b h2 hf.2 (fun b hb => hM b (List.mem_append_right _ hb)))
  | .unit, _, _, _, hx, _, _ => ⟨hx.1, rfl⟩
  | .int k, x, _, _, hx, _, _ => ⟨_, _, hx.1, rfl, rfl, rfl, rfl⟩
  | .bool, x, _, _, hx, _, _ => ⟨_, _, hx.1, rfl, rfl, rfl, rfl⟩
  | .str, x, _, _, hx, _, _ => ⟨_, _, hx.1, rfl, rfl, rfl, rfl⟩
  | .slice t, x, cs, F, hx, _, hM => by
    obtain ⟨v, rfl⟩ := one_cell (t := .slice t) rfl hx
    exact ⟨v, [], rfl, rfl, ⟨F, ⟨[v], hx, rfl⟩, hM⟩, rfl, rfl⟩
theorem one_cells {ρ : Rho} {h : Hf} {M : Nat → Prop} {x : AV} {v : Value} (hx : RA ρ h M x v) (h1 : x.one = true) : v.cells = #[v] := by
  cases x with
  | v t y =>
    obtain ⟨F, ⟨cs, hc, e⟩, _⟩ := hx
    have ht : t.agg = false := by simpa [AV.one] using h1
    obtain ⟨u, rfl⟩ := one_cell ht hc
    subst e
    cases t <;> simp [Ty.agg] at ht
    · obtain ⟨e, _⟩ := hc; simp at e; subst e; rfl
    · obtain ⟨e, _⟩ := hc; simp at e; subst e; rfl
    · obtain ⟨e, _⟩ := hc; simp at e; subst e; rfl
    · obtain ⟨_, ⟨_, _, a, cap, e⟩ | ⟨b, off, cap, F', e, _⟩⟩ := hc <;> (simp at e; subst e; rfl)
  | int k m => simp only [RA] at hx; subst hx; rfl
  | bool b => simp only [RA] at hx; subst hx; rfl
  | str b => simp only [RA] at hx; subst hx; rfl
  | cptr t y => obtain ⟨b, off, F, c, T, z, pre, mid, post, e, _⟩ := hx; subst e; rfl
  | cav y => obtain ⟨b, off, c, T, z, pre, u, post, e, _⟩ := hx; subst e; rfl
  | ref id off => obtain ⟨b, k, _, e⟩ := hx; subst e; rfl
  | elem id off sz i => obtain ⟨b, k, _, e⟩ := hx; subst e; rfl
  | elem2 id off sz i sz2 j => obtain ⟨b, k, _, e⟩ := hx; subst e; rfl
  | os id => obtain ⟨_, e⟩ | ⟨b, cap, len, _, e⟩ := hx <;> (subst e; rfl)
  | view id off sz l len => obtain ⟨_, a, cap, e⟩ | ⟨b, k, cap, _, e⟩ := hx <;> (subst e; rfl)
  | ov id m => obtain ⟨_, _, e⟩ | ⟨b, cap, len, _, e⟩ := hx <;> (subst e; rfl)
  | yl l => simp only [RA] at hx; subst hx; rfl
  | nilsl => simp only [RA] at hx; subst hx; rfl
  | nilp => simp only [RA] at hx; subst hx; rfl
  | nilf => simp only [RA] at hx; subst hx; rfl
  | fn f caps => obtain ⟨vs, e, _⟩ := hx; subst e; rfl
  | tup xs => cases h1
  | st xs => cases h1
  | gd g x => cases h1
  | junk => cases h1
theorem one_ok {ρ : Rho} {h : Hf} {M : Nat → Prop} {x : AV} {v : Value} (hx : RA ρ h M x v) (h1 : x.one = true) : RComps ρ h M [.cell x] v.cells.toList [] := by
  rw [one_cells hx h1]; exact ⟨v, [], rfl, h1, hx, rfl, rfl⟩
mutual
theorem ra_comps {ρ : Rho} {h : Hf} {M : Nat → Prop} : ∀ (x : AV) {v : Value}, RA ρ h M x v → boxable x = true → RComps ρ h M (toComps x) v.cells.toList []
  | .v t x, v, hx, hb => by
    obtain ⟨F, ⟨cs, hc, e⟩, hM⟩ := hx
    have hcs : v.cells.toList = cs := by
      subst e
      cases ha : t.agg with
      | true => simp [mkV, ha, Value.cells]
      | false =>
        obtain ⟨u, rfl⟩ := one_cell ha hc
        have := one_cells (ρ := ρ) (M := M) (x := .v t x) (v := u) ⟨F, ⟨[u], hc, by simp [mkV, ha]⟩, hM⟩ (by simp [AV.one, ha])
        simp [mkV, ha, this]
    rw [hcs]
    exact ty_comps t hc hb hM
  | .st xs, v, hx, hb => by
    obtain ⟨vs, e, h1⟩ := hx
    subst e
    have := ras_comps xs h1 hb
    simpa only [Value.cells, toComps] using this
  | .int k n, v, hx, hb => one_ok hx hb
  | .bool b, v, hx, hb => one_ok hx hb
  | .str s, v, hx, hb => one_ok hx hb
  | .cptr t x, v, hx, hb => one_ok hx hb
  | .cav x, v, hx, hb => one_ok hx hb
  | .ref id o, v, hx, hb => one_ok hx hb
  | .elem id o s i, v, hx, hb => one_ok hx hb
  | .elem2 id o s i s2 j, v, hx, hb => one_ok hx hb
  | .os id, v, hx, hb => one_ok hx hb
  | .view id o z l m, v, hx, hb => one_ok hx hb
  | .nilsl, v, hx, hb => one_ok hx hb
  | .nilp, v, hx, hb => one_ok hx hb
  | .nilf, v, hx, hb => one_ok hx hb
  | .fn f c, v, hx, hb => one_ok hx hb
  | .tup _, _, _, hb => by cases hb
  | .gd _ _, _, _, hb => by cases hb
  | .junk, _, _, hb => by cases hb
  | .yl _, v, hx, hb => one_ok hx hb
  | .ov id m, v, hx, hb => one_ok hx hb
theorem ras_comps {ρ : Rho} {h : Hf} {M : Nat → Prop} : ∀ (xs : List AV) {vs : List Value}, RAs ρ h M xs vs → boxableL xs = true → RComps ρ h M (toCompsL xs) (cellsOf vs) []
  | [], vs, hx, _ => by simp only [RAs] at hx; subst hx; exact ⟨rfl, rfl⟩
  | x :: xs, vs, hx, hb => by
    obtain ⟨v, vs', e, h1, h2⟩ := hx
    subst e
    simp only [boxableL, Bool.and_eq_true] at hb
    have := RComps.append (F := []) (G := []) (ra_comps x h1 hb.1) (ras_comps xs h2 hb.2)
    simpa only [cellsOf, toCompsL, List.flatMap_cons, List.append_nil] using this
end

def compsIds (cs : List Comp) : List Nat := cs.flatMap Comp.ids

section
variable {P : Program} {n : Sz} {fr : Fr} {H : Hp} {dst : Option Nat} {ty : TypeId} {pos : String} {aft : Array Edge} {g : Option (Nat × Bool)}

theorem SIM.box {Γ : Ctx} {ρ : Rho} {w : World} {a : Act} (s : SIM Γ n ρ w a fr H) {id : Nat} (hid : freshB id fr H = true) (hK : Nat.ble n.K id = true) {cs : List Comp} {c : Array Value} {T : TypeId} (hi : memB id (compsIds cs) = false)
    (hc : RComps ρ (World.hf w) (ownB ρ H) cs c.toList []) : SIM Γ n (upd ρ id (some (w.heap.size, 0, 0))) (w.alloc (.cells c T)) a fr ((id, .var cs) :: H) ∧ Grew ρ (upd ρ id (some (w.heap.size, 0, 0))) w (w.alloc (.cells c T)) H ((id, .var cs) :: H) := And.intro
  (s.alloc (F := []) hid hK (fun ρ' h' M' hρ hid' hh hm _ => ⟨_, _, c, T, [], hid', hh, hc.same (fun i hi => hρ i hi) hm (by simp), rfl⟩) hi (by simp) (by simp) List.nodup_nil) (grew_alloc hid)

theorem e_box {T : TypeId} {x : Operand} {y : AV} (id : Nat) {cs : List Comp} (hx : evO fr x = some y) (hb : boxable y = true) (hcs : toComps y = cs) (hid : freshB id fr H = true) (hK : Nat.ble n.K id = true) (hi : memB id (compsIds cs) = false) :
    Eff P n ⟨dst, .box T x, ty, pos, aft, g⟩ fr H (.ref id 0) fr ((id, .var cs) :: H) := fun Γ ρ w a s => by
  subst hcs
  have h1 := s.ev hx
  refine ⟨.pointer (some ⟨w.heap.size, 0, none⟩), w.alloc (.cells (a.eval x).cells T), _, ?_, s.box hid hK hi (ra_comps y h1 hb), ⟨_, _, upd_same _ _ _, rfl⟩⟩
  simp [execOp, Instr.box, newVar, newRow, newObj, Sem.run]

/-- 'alloc': a new variable at its zero value -/
theorem e_alloc {T : TypeId} (id : Nat) {z : Value} {y : AV} {cs : List Comp} (hz : ∀ w, (zeroValue T).run P w = .ok z w) (hy : ∀ ρ h M, RA ρ h M y z) (hb : boxable y = true) (hcs : toComps y = cs) (hid : freshB id fr H = true) (hK : Nat.ble n.K id = true) (hi : memB id (compsIds cs) = false) :
    Eff P n ⟨dst, .alloc T, ty, pos, aft, g⟩ fr H (.ref id 0) fr ((id, .var cs) :: H) := fun Γ ρ w a s => by
  subst hcs
  refine ⟨.pointer (some ⟨w.heap.size, 0, none⟩), w.alloc (.cells z.cells T), _, ?_, s.box hid hK hi (ra_comps y (hy _ _ _) hb), ⟨_, _, upd_same _ _ _, rfl⟩⟩
  simp [execOp, Instr.alloc, hz, newVar, newRow, newObj, Sem.run_bind, Sem.run]
end
end Go.GA
