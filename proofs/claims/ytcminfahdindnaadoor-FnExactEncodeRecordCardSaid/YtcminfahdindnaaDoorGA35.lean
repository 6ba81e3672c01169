/- Open regions gone through order by order, each operation as in a line; what hangs on no memory is done first. -/
import Derived.Test.YtcminfahdindnaaDoorGA34
namespace Go.GA
open Go Go.RowKit
section
variable {P : Program} {Γ : Ctx} {n : Sz} {Q : Exit → Act → World → Prop} {fr fr' : Fr} {H H' : Hp} {all : Array Oper} {ty : TypeId} {pos : String} {aft : Array Edge} {op : Op}
theorem wp_then {o : Oper} {K : Act → World → Prop} {a : Act} {w : World} (h : o.wp P a w K (Exit.then K Q)) : o.wp P a w K Q := by
  unfold Oper.wp at *
  generalize (execOp a.eval o).run P w = r at *
  cases r with
  | ok nx w' =>
    cases nx <;> simp only [Oper.upon] at h ⊢ <;> first
      | exact h
      | exact Calls.mono h (fun e w'' he => by cases e <;> first | exact he | (obtain ⟨a1, w1, hq⟩ := he; exact ⟨a1, w1, hq⟩))
  | halt x w' => cases x <;> simp only [Oper.upon] at h ⊢ <;> exact h
theorem wpOp_of_list {i : Nat} {o : Oper} {K : Act → World → Prop} {a : Act} {w : World} (hi : all[i]? = some o) (h : wpList P all (Exit.then K Q) [o] a w) : wpOp P all Q i K a w := by
  unfold wpOp
  simp only [hi]
  unfold wpList at h
  split
  · rename_i hw
    rw [if_pos hw] at h
    rcases h with h | ⟨h1, a1, w1, hq⟩
    · refine .inl ?_
      have : o.wp P a w (wpList P all (Exit.then K Q) []) (Exit.then K Q) := h
      have e : wpList P all (Exit.then K Q) [] = K := rfl
      rw [e] at this
      exact wp_then this
    · exact .inr ⟨h1, a1, w1, hq⟩
  · rename_i hw
    rw [if_neg hw] at h
    exact h
def APO (P : Program) (Γ : Ctx) (n : Sz) (all : Array Oper) (Q : Exit → Act → World → Prop) (g : Nat) (listed : Array Bool) (fr : Fr) (H : Hp) (i : Nat) : Prop :=
  ∀ ρ w a, SIM Γ n ρ w a fr H → wpOp P all Q i (wpAny P .any all Q g (listed.setIfInBounds i true)) a w
def APL (P : Program) (Γ : Ctx) (n : Sz) (all : Array Oper) (Q : Exit → Act → World → Prop) (g : Nat) (listed : Array Bool) (fr : Fr) (H : Hp) : List Nat → Prop
  | [] => True
  | i :: l => APO P Γ n all Q g listed fr H i ∧ APL P Γ n all Q g listed fr H l
variable {g : Nat} {listed : Array Bool}
theorem apl_mem : ∀ {l : List Nat} {i : Nat}, APL P Γ n all Q g listed fr H l → i ∈ l → APO P Γ n all Q g listed fr H i
  | j :: l, i, h, hi => by
    rcases List.mem_cons.1 hi with rfl | hi
    · exact h.1
    · exact apl_mem h.2 hi
/-- the operations that may come next -/
def nextEqB (all : Array Oper) (listed : Array Bool) (l : List Nat) : Bool := (Region.ready .any all listed == l) && !l.isEmpty
theorem ap_all (l : List Nat) (hl : nextEqB all listed l = true) (h : APL P Γ n all Q g listed fr H l) : AP P Γ n all Q (g + 1) listed fr H := fun ρ w a s => by
  simp only [nextEqB, Bool.and_eq_true, beq_iff_eq] at hl
  refine ⟨fun h0 => ?_, fun i hi => apl_mem h (hl.1 ▸ hi) ρ w a s⟩
  rw [hl.1] at h0
  subst h0
  simp at hl
theorem ap_end (hl : (Region.ready .any all listed).isEmpty = true) (h : AQ Γ n (Q .normal) fr H) : AP P Γ n all Q g listed fr H := fun ρ w a s => by
  have h0 : Region.ready .any all listed = [] := by simpa using hl
  cases g with
  | zero => exact ⟨h0, h ρ w a s⟩
  | succ g => exact ⟨fun _ => h ρ w a s, fun i hi => by rw [h0] at hi; cases hi⟩
/-- one operation, as in a line -/
theorem apo_ao {i : Nat} {o : Oper} (hi : all[i]? = some o) (h : AO P Γ n all (Exit.then (wpAny P .any all Q g (listed.setIfInBounds i true)) Q) [o] fr H) : APO P Γ n all Q g listed fr H i := fun ρ w a s => wpOp_of_list hi (h ρ w a s)
theorem ap_in {listed : Array Bool} (h : AP P Γ n all Q g listed fr H) : AQ Γ n (Exit.then (wpAny P .any all Q g listed) Q .normal) fr H := h
/-- what hangs on no memory is done first -/
theorem ap_pure (i : Nat) {d : Nat} {x : AV} {gd : Option (Nat × Bool)} (hsel : Region.noSelect all = true) (hQ : ∀ c a w, Q (.panic c) a w → False) (hi : all[i]? = some ⟨some d, op, ty, pos, aft, gd⟩) (hn : readyB all listed i = true) (hg : gOK all fr gd)
    (hr : ReadsP P ⟨some d, op, ty, pos, aft, gd⟩ fr x) (hd : Nat.blt d n.n = true) (h : AP P Γ n all Q g (listed.setIfInBounds i true) ((d, x) :: fr) H) : AP P Γ n all Q (g + 1) listed fr H := fun ρ w a s => by
  simp only [readyB, Bool.and_eq_true] at hn
  obtain ⟨v, hv, hrun⟩ := hr ρ (World.hf w) (ownB ρ H) a.eval (fun o y h => s.ev h)
  refine wpAny_first (v := v) hi (fun j o cs b ho => Region.noSelect_spec hsel j o cs b ho) (fun c a w hq => (hQ _ _ _ hq).elim) g listed a w (Region.free_spec hi hn.2) (by simpa using hn.1) (.inl ⟨s.wanted (o := ⟨some d, op, ty, pos, aft, gd⟩) hg, hrun⟩) ?_
  exact h ρ w (a.put (some d) v) (s.put hd hv)
theorem ap_pureG (i : Nat) {d j s : Nat} {want gb : Bool} {x : AV} (hsel : Region.noSelect all = true) (hQ : ∀ c a w, Q (.panic c) a w → False) (hi : all[i]? = some ⟨some d, op, ty, pos, aft, some (j, want)⟩) (hn : readyB all listed i = true)
    (hj : (all[j]?).bind (·.dst) = some s) (hg : GV fr s want gb) (hr : gb = true → ReadsP P ⟨some d, op, ty, pos, aft, some (j, want)⟩ fr x) (hd : Nat.blt d n.n = true)
    (h : AP P Γ n all Q g (listed.setIfInBounds i true) ((d, .gd gb x) :: fr) H) : AP P Γ n all Q (g + 1) listed fr H := fun ρ w a sm => by
  simp only [readyB, Bool.and_eq_true] at hn
  have hw := sm.wantedG (o := ⟨some d, op, ty, pos, aft, some (j, want)⟩) rfl hj hg
  have key : ∃ v, RA ρ (World.hf w) (ownB ρ H) (.gd gb x) v ∧ Yields P all ⟨some d, op, ty, pos, aft, some (j, want)⟩ v a := by
    cases hgb : gb with
    | true =>
      obtain ⟨v, hv, hrun⟩ := hr hgb ρ (World.hf w) (ownB ρ H) a.eval (fun o y h => sm.ev h)
      exact ⟨v, by simpa [RA] using hv, .inl ⟨by rw [hw, hgb], hrun⟩⟩
    | false => exact ⟨undef, by simp [RA], .inr ⟨by rw [hw, hgb], rfl⟩⟩
  obtain ⟨v, hv, hy⟩ := key
  refine wpAny_first (v := v) hi (fun j o cs b ho => Region.noSelect_spec hsel j o cs b ho) (fun c a w hq => (hQ _ _ _ hq).elim) g listed a w (Region.free_spec hi hn.2) (by simpa using hn.1) hy ?_
  exact h ρ w (a.put (some d) v) (sm.put hd hv)
/-- the orders all lead to one state -/
theorem ap_to (fr' : Fr) (H' : Hp) (key : AQ Γ n (Q .normal) fr' H') (h : AQ Γ n (Q .normal) fr' H' → AP P Γ n all Q g listed fr H) : AP P Γ n all Q g listed fr H := h key
theorem rp_strip {o : Oper} {x y : AV} (t : Nat) {g : Bool} (ht : get fr t = some (.gd g y)) (hg : g = true) (h : ReadsP P o ((t, y) :: fr) x) : ReadsP P o fr x := fun ρ h' M ev hev => h ρ h' M ev (fun o z hz => by
  cases o with
  | tmp s =>
    by_cases hs : t = s
    · subst hs
      have e : evO ((t, y) :: fr) (.tmp t) = some y := by simp [evO, get]
      rw [e] at hz
      obtain rfl : y = z := Option.some.inj hz
      have := hev (.tmp t) (.gd g y) ht
      subst hg
      simpa [RA] using this
    · have e : evO ((t, y) :: fr) (.tmp s) = evO fr (.tmp s) := by
        show get _ _ = get _ _
        have hb : Nat.beq t s = false := by
          cases h : Nat.beq t s with
          | false => rfl
          | true => exact absurd (Nat.eq_of_beq_eq_true h) hs
        simp [get, hb]
      rw [e] at hz
      exact hev _ _ hz
  | _ => exact hev _ _ hz)
end
end Go.GA
namespace Go.GA
open Go Go.RowKit
section
variable {P : Program} {Γ : Ctx} {n : Sz} {Q : Exit → Act → World → Prop} {fr fr1 : Fr} {H H1 : Hp} {all : Array Oper} {g0 : Nat} {listed0 : Array Bool}
/-- a state that several orders come to -/
theorem ap_let {g : Nat} {listed : Array Bool} (fr' : Fr) (H' : Hp) (h : AP P Γ n all Q g listed fr' H') (k : AP P Γ n all Q g listed fr' H' → AP P Γ n all Q g0 listed0 fr H) : AP P Γ n all Q g0 listed0 fr H := k h
theorem ap_go {g : Nat} {listed listed' : Array Bool} {fr' : Fr} {H' : Hp} (he : listed = listed') (hs : Sub n fr H fr' H') (h : AP P Γ n all Q g listed' fr' H') : AP P Γ n all Q g listed fr H := fun ρ w a s => by
  subst he
  obtain ⟨ρ', s'⟩ := hs Γ ρ w a s
  exact h ρ' w a s'
end
end Go.GA
