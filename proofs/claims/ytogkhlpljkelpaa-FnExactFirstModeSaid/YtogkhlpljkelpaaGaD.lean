/- Structs with slices of their own: loaded, built, handed over; nil slices in variables. -/
import Derived.Test.YtogkhlpljkelpaaGaC
import Derived.Lib.ConvBytes
import Derived.Lib.Bytealg
import Derived.Laws.Externs
import Derived.Sort.Grow
import Derived.RangeFuncLeaves
import Derived.RangeFuncOwn
import Derived.OrdersIn
import Derived.TacticsIn
import Derived.ControlIn
import Derived.Laws.BytesString
import Derived.Laws.CopyRow
import Derived.Lib.SplitLaws
import Derived.Lib.Join
import Derived.Lib.AtoiAll
section
namespace Go.GA
open Go Go.RowKit
section
variable {P : Program} {Γ : Ctx} {n : Sz} {fr : Fr} {H H' : Hp} {dst : Option Nat} {ty : TypeId} {pos : String} {aft : Array Edge} {g : Option (Nat × Bool)}
/-! ### Zero values, literals -/
/-! ### A nil slice in a variable, as a row of the call's own -/
end
end Go.GA
end
section
namespace Go.GA
open Go Go.RowKit
section
variable {P : Program} {n : Sz} {fr : Fr} {H : Hp} {dst : Option Nat} {ty : TypeId} {pos : String} {aft : Array Edge} {g : Option (Nat × Bool)}
end
end Go.GA
end
section
namespace Go.GA
open Go Go.RowKit
/-- two strings are the same -/
def eqS (a b : ByteArray) : Bool := a.toList == b.toList
section
variable {P : Program} {n : Sz} {fr : Fr} {H : Hp} {dst : Option Nat} {ty : TypeId} {pos : String} {aft : Array Edge} {g : Option (Nat × Bool)}
/-! ### Bytes of a string -/
end
end Go.GA
end
section
namespace Go.GA
open Go Go.RowKit
section
variable {H : Hp}
end
section
variable {P : Program} {n : Sz} {fr : Fr} {H : Hp} {dst : Option Nat} {ty : TypeId} {pos : String} {aft : Array Edge} {g : Option (Nat × Bool)}
end
end Go.GA
end
section
namespace Go.GA
open Go Go.RowKit
section
variable {P : Program} {n : Sz} {fr : Fr} {H : Hp} {dst : Option Nat} {ty : TypeId} {pos : String} {aft : Array Edge} {g : Option (Nat × Bool)}
end
end Go.GA
end
section
namespace Go.GA
open Go Go.RowKit

section
variable {P : Program} {ops : Array Oper} {Q : Exit → Act → World → Prop}
end

section
variable {P : Program} {Γ : Ctx} {n : Sz} {Q : Exit → Act → World → Prop} {fr fr' : Fr} {H H' : Hp} {all : Array Oper} {ty : TypeId} {pos : String} {aft : Array Edge} {op : Op}
end
end Go.GA
end
section
namespace Go.GA
open Go Go.RowKit
section
variable {P : Program} {Γ : Ctx} {n : Sz} {Q : Exit → Act → World → Prop} {fr fr' : Fr} {H H' Hc : Hp} {all : Array Oper} {ops : List Oper} {ty : TypeId} {pos : String} {aft : Array Edge}
end
section
variable {P : Program} {Γ : Ctx} {n : Sz} {Q : Exit → Act → World → Prop} {fr fr' : Fr} {H H' : Hp} {all : Array Oper} {ty : TypeId} {pos : String} {aft : Array Edge} {op : Op}
variable {m f base : Nat} {T : Act → World → Prop} {listed : Array Bool}
end
end Go.GA
end
section
namespace Go.GA
open Go Go.RowKit
section
variable {P : Program} {n : Sz} {fr : Fr} {H : Hp} {dst : Option Nat} {ty : TypeId} {pos : String} {aft : Array Edge} {g : Option (Nat × Bool)}
end
end Go.GA
end
section
namespace Go.GA
open Go Go.RowKit
end Go.GA
end
section
namespace Go.GA
open Go Go.RowKit
section
variable {P : Program} {Γ : Ctx} {n : Sz} {Q : Exit → Act → World → Prop} {fr fr' : Fr} {H H' : Hp} {dst : Option Nat} {ty : TypeId} {pos : String} {aft : Array Edge} {g : Option (Nat × Bool)} {all : Array Oper}
variable {xT yT : TypeId} {x y : Operand} {a b : Int} {k : IntKind}
end
end Go.GA
end
section
namespace Go.GA
open Go Go.RowKit
section
variable {P : Program} {Γ : Ctx} {n : Sz} {Q : Exit → Act → World → Prop} {fr fr' : Fr} {H H' : Hp} {all : Array Oper} {ty : TypeId} {pos : String} {aft : Array Edge} {op : Op}
variable {g : Nat} {listed : Array Bool}
end
end Go.GA
namespace Go.GA
open Go Go.RowKit
section
variable {P : Program} {Γ : Ctx} {n : Sz} {Q : Exit → Act → World → Prop} {fr fr1 : Fr} {H H1 : Hp} {all : Array Oper} {g0 : Nat} {listed0 : Array Bool}
end
end Go.GA
end
section
namespace Go.GA
open Go Go.RowKit
section
variable {P : Program} {n : Sz} {fr : Fr} {H : Hp} {dst : Option Nat} {ty : TypeId} {pos : String} {aft : Array Edge} {g : Option (Nat × Bool)}
end
end Go.GA
end
section
namespace Go.GA
open Go Go.RowKit

/-- 'ao' with the frame 'fro' waits; Γi is the context of what runs meanwhile; the blocks X may have been turned -/
structure Susp (Γo : Ctx) (no : Sz) (fro : Fr) (ao : Act) (X : Nat → Prop) (Γi : Ctx) (K B : Nat) : Prop where
  ex : ∃ ρ w H, SIM Γo no ρ w ao fro H ∧ w.heap.size = B ∧
    (∀ i, i < K → Γi.ρ0 i = ρ i) ∧ (∀ b, ρ.N b → Γi.ρ0.N b) ∧ (∀ b, Γi.ρ0.N b → b < B → ρ.N b) ∧ (∀ b, Γi.M0 b → namB ρ H b ∨ B ≤ b) ∧
    (∀ k, k < B → ¬ X k → ¬ namB ρ H k → Γi.W0.heap[k]? = w.heap[k]?) ∧ Γi.W0.os = w.os ∧ Γi.W0.tape = w.tape ∧ Γi.W0.output = w.output
  L0 : ∀ b, Γi.L0 b → Γo.L0 b ∨ Γo.W0.heap.size ≤ b
  ML : ∀ b, Γi.M0 b → Γi.L0 b
  size : B ≤ Γi.W0.heap.size
  X : ∀ k, X k → Γi.ρ0.N k
  ids : ∀ t x, get fro t = some x → ∀ i ∈ x.ids, i < K
  hK : no.K ≤ K

theorem SIM.susp {Γo : Ctx} {no : Sz} {ρ : Rho} {w : World} {ao : Act} {fro : Fr} {H : Hp} (s : SIM Γo no ρ w ao fro H) {K : Nat}
    (X : Nat → Prop) (w1 : World) (N : Nat → Prop) (dl : List Deferred) (ho : w1.os = w.os ∧ w1.tape = w.tape ∧ w1.output = w.output) (hsz : w.heap.size ≤ w1.heap.size) (hb : ∀ k, k < w.heap.size → ¬ X k → w1.heap[k]? = w.heap[k]?)
    (hN1 : ∀ b, ρ.N b → N b) (hN2 : ∀ b, N b → b < w.heap.size → ρ.N b) (hN3 : ∀ b, N b → b < w1.heap.size) (hX : ∀ k, X k → N k) :
    ∃ Γi, Γi.W0 = w1 ∧ Γi.ρ0 = ⟨ρ.f, N⟩ ∧ Γi.dl = dl ∧ (∀ b, Γi.M0 b ↔ namB ρ H b) ∧ (∀ b, Γi.M0 b → Γi.L0 b) ∧ (∀ b, Γi.L0 b → Γo.L0 b ∨ Γo.W0.heap.size ≤ b) ∧
      ((∀ t x, get fro t = some x → ∀ i ∈ x.ids, i < K) → no.K ≤ K → Susp Γo no fro ao X Γi K w.heap.size) ∧
      ∀ (ni : Sz) (a : Act) (fr : Fr), a.tmps.size = ni.n → a.defers = dl → (∀ t x, get fr t = some x → t < ni.n ∧ RA ρ (World.hf w) (ownB ρ H) x (a.tmps.getD t undef)) → SIM Γi ni ⟨ρ.f, N⟩ w1 a fr H := by
  obtain ⟨ℓ, hk, hl⟩ := s.heap
  have hap := s.apart hl
  have hML : ∀ b, namB ρ H b → inL ℓ H b := fun b ⟨e, he, k, hbk⟩ => ⟨e, he, hk.own_mem e he b k hbk⟩
  have hL0 : ∀ b, inL ℓ H b → Γo.L0 b ∨ Γo.W0.heap.size ≤ b := fun b ⟨e, he, hbe⟩ => hl e he b hbe
  refine ⟨{ W0 := w1, M0 := namB ρ H, L0 := inL ℓ H, ρ0 := ⟨ρ.f, N⟩, dl := dl }, rfl, rfl, rfl, fun _ => Iff.rfl, hML, hL0, fun hids hK => ⟨⟨ρ, w, H, s, rfl, fun _ _ => rfl, hN1, hN2, fun b h => .inl h, fun k hk' hx _ => hb k hk' hx, ho⟩, hL0, hML, hsz, hX, hids, hK⟩, ?_⟩
  intro ni a fr h1 h2 h3
  have hnX : ∀ b, ¬ ρ.N b → b < w.heap.size → ¬ X b := fun b hn hlt hx => hn (hN2 b (hX b hx) hlt)
  have hM : ∀ b, ¬ ownB ρ H b → World.hf w b ≠ none → World.hf w1 b = World.hf w b ∧ ¬ ownB ⟨ρ.f, N⟩ H b := fun b hbn hh => by
    have hlt := hf_lt hh
    refine ⟨hb b hlt (hnX b (fun h => hbn (.inr h)) hlt), ?_⟩
    rintro (h | h)
    · exact hbn (.inl h)
    · exact hbn (.inr (hN2 b h hlt))
  refine ⟨⟨h2, rfl, fun b h => ⟨fun ⟨e, he, hbe⟩ => ?_, hN3 b h⟩⟩, h1, Ext.refl _ _, fun _ _ => rfl, fun b h => .inl h, ⟨ℓ, ⟨fun e he => (hk.blk e he).same (fun _ _ => rfl) hM (fun b hbe => ?_), hk.nd, hk.dj, hk.ids⟩, fun e he b h => .inl ⟨e, he, h⟩⟩, fun t x hx => ?_⟩
  · have hlt := hf_lt (hk.there he b hbe)
    exact hap b (hN2 b h hlt) ⟨e, he, hbe⟩
  · have hlt := hf_lt (hk.there he b hbe)
    exact hb b hlt (hnX b (fun h => hap b h ⟨e, he, hbe⟩) hlt)
  · obtain ⟨h4, h5⟩ := h3 t x hx
    exact ⟨h4, h5.same x (fun _ _ => rfl) hM⟩

section
variable {Γo Γi : Ctx} {no ni : Sz} {fro fr : Fr} {ao a : Act} {X : Nat → Prop} {K B : Nat} {ρ : Rho} {w w2 : World} {H : Hp}
/-- what the waiting frame finds in the state of what has run meanwhile -/
theorem Susp.core (s : Susp Γo no fro ao X Γi K B) (t : SIM Γi ni ρ w a fr H) (hn : ni.K = K) (hsz : w.heap.size ≤ w2.heap.size) (hb : ∀ k, k < w.heap.size → ¬ X k → w2.heap[k]? = w.heap[k]?) :
    (∃ ℓ, HeapOK ⟨ρ.f, Γo.ρ0.N⟩ (World.hf w2) H ℓ ∧ ∀ e ∈ H, ∀ b ∈ ℓ e.1, Γo.L0 b ∨ Γo.W0.heap.size ≤ b) ∧
    (∀ t x, get fro t = some x → t < no.n ∧ RA ⟨ρ.f, Γo.ρ0.N⟩ (World.hf w2) (ownB ⟨ρ.f, Γo.ρ0.N⟩ H) x (ao.tmps.getD t undef) ∧ RA ρ (World.hf w) (ownB ρ H) x (ao.tmps.getD t undef)) ∧
    (∀ b, namB ρ H b → Γo.M0 b ∨ Γo.W0.heap.size ≤ b) ∧ (∀ i, i < no.K → ρ i = Γo.ρ0 i) ∧ (∀ k, k < Γo.W0.heap.size → ¬ Γo.M0 k → ¬ X k → w2.heap[k]? = Γo.W0.heap[k]?) ∧
    Γo.W0.heap.size ≤ w.heap.size ∧ ao.tmps.size = no.n ∧ ao.defers = Γo.dl ∧ (∀ b, Γo.ρ0.N b → ¬ Γo.L0 b ∧ b < Γo.W0.heap.size) ∧ w.os = Γo.W0.os ∧ w.tape = Γo.W0.tape ∧ w.output = Γo.W0.output ∧ (∀ b, Γo.ρ0.N b → ρ.N b) := by
  obtain ⟨ρs, ws, Hs, ss, eB, e1, e2, e3, e4, e10, e6, e7, e8⟩ := s.ex
  obtain ⟨ℓ, hk, hl⟩ := t.heap
  have hap := t.apart hl
  have e11 := s.X
  have e9 := s.size
  have hN : ρ.N = Γi.ρ0.N := t.defers.2.1
  have hNs : ρs.N = Γo.ρ0.N := ss.defers.2.1
  have hX : ∀ b, X b → ρ.N b := fun b h => hN ▸ e11 b h
  have hNo : ∀ b, Γo.ρ0.N b → ρ.N b := fun b h => hN ▸ e2 b (hNs ▸ h)
  have hsz1 : Γo.W0.heap.size ≤ ws.heap.size := ss.ext.size
  have hsz2 : Γi.W0.heap.size ≤ w.heap.size := t.ext.size
  have hown : ∀ b, namB ρ H b → namB ρs Hs b ∨ B ≤ b := fun b h => by
    rcases t.own b h with h | h
    · exact e4 b h
    · exact .inr (by omega)
  have hchain : ∀ k, k < ws.heap.size → ¬ namB ρs Hs k → ¬ X k → w.heap[k]? = ws.heap[k]? := fun k hk' hm hx =>
    (t.ext.block k (by omega) (fun h => by
      rcases e4 k h with h | h
      · exact hm h
      · omega)).trans (e10 k (by omega) hx hm)
  have hold : ∀ b, ownB ⟨ρ.f, Γo.ρ0.N⟩ H b → ownB ρ H b := fun b h => h.imp (fun h => h) (hNo b)
  refine ⟨⟨ℓ, ⟨fun e he => (hk.blk e he).same (fun _ _ => rfl) (fun b hbn hh => ⟨hb b (hf_lt hh) (fun hx => hbn (.inr (hX b hx))), fun h => hbn (hold b h)⟩) (fun b hbe => hb b (hf_lt (hk.there he b hbe)) (fun hx => hap b (hX b hx) ⟨e, he, hbe⟩)), hk.nd, hk.dj, hk.ids⟩, fun e he b hbe => ?_⟩, ?_, ?_, ?_, ?_, by omega, ss.size, ss.defers.1, ss.defers.2.2, (t.ext.os.trans e6).trans ss.ext.os, (t.ext.tape.trans e7).trans ss.ext.tape, (t.ext.output.trans e8).trans ss.ext.output, hNo⟩
  · rcases hl e he b hbe with h | h
    · exact s.L0 b h
    · exact .inr (by omega)
  · intro q x hx
    obtain ⟨h1, h2⟩ := ss.fr q x hx
    have hids := s.ids q x hx
    have hρ : ∀ i ∈ x.ids, ρ i = ρs i := fun i hi => (t.keep i (by rw [hn]; exact hids i hi)).trans (e1 i (hids i hi))
    have hw : ∀ b, ¬ ownB ρs Hs b → World.hf ws b ≠ none → World.hf w b = World.hf ws b ∧ ¬ ownB ρ H b := fun b hbn hh => by
      have hlt := hf_lt hh
      have hnN : ¬ Γi.ρ0.N b := fun h => hbn (.inr (e3 b h (by omega)))
      refine ⟨hchain b hlt (fun h => hbn (.inl h)) (fun hx => hnN (e11 b hx)), ?_⟩
      rintro (h | h)
      · rcases hown b h with h | h
        · exact hbn (.inl h)
        · omega
      · exact hnN (hN ▸ h)
    refine ⟨h1, h2.same x hρ (fun b hbn hh => ?_), h2.same x hρ hw⟩
    obtain ⟨h3, h4⟩ := hw b hbn hh
    have hh2 : World.hf w b ≠ none := by rw [h3]; exact hh
    exact ⟨(hb b (hf_lt hh2) (fun hx => h4 (.inr (hX b hx)))).trans h3, fun h => h4 (hold b h)⟩
  · intro b h
    rcases hown b h with h | h
    · exact ss.own b h
    · exact .inr (by omega)
  · intro i hi
    exact ((t.keep i (by have := s.hK; omega)).trans (e1 i (by have := s.hK; omega))).trans (ss.keep i hi)
  · intro k hk' hm hx
    have h1 : k < ws.heap.size := by omega
    have h2 : ¬ namB ρs Hs k := fun h => by
      rcases ss.own k h with h | h
      · exact hm h
      · omega
    exact (hb k (by omega) hx).trans ((hchain k h1 h2 hx).trans (ss.ext.block k hk' hm))
/-- a frame that waits goes on waiting while the one that ran waits, too -/
theorem Susp.trans (s : Susp Γo no fro ao X Γi K B) (t : SIM Γi ni ρ w a fr H) (hn : ni.K = K) {Γa : Ctx} {Y : Nat → Prop} (hρ : ∀ i, i < K → Γa.ρ0 i = ρ i) (hNa : Γa.ρ0.N = Γi.ρ0.N) (hM : ∀ b, Γa.M0 b → namB ρ H b) (hML : ∀ b, Γa.M0 b → Γa.L0 b)
    (hL : ∀ b, Γa.L0 b → Γi.L0 b ∨ Γi.W0.heap.size ≤ b) (ho : Γa.W0.os = w.os ∧ Γa.W0.tape = w.tape ∧ Γa.W0.output = w.output) (hsz : w.heap.size ≤ Γa.W0.heap.size) (hb : ∀ k, k < w.heap.size → ¬ Y k → Γa.W0.heap[k]? = w.heap[k]?) (hY : ∀ k, k < B → Y k → X k) :
    Susp Γo no fro ao X Γa K B := by
  obtain ⟨ρs, ws, Hs, ss, eB, e1, e2, e3, e4, e10, e6, e7, e8⟩ := s.ex
  have e9 := s.size
  have hsz1 : Γo.W0.heap.size ≤ ws.heap.size := ss.ext.size
  have hsz2 : Γi.W0.heap.size ≤ w.heap.size := t.ext.size
  refine ⟨⟨ρs, ws, Hs, ss, eB, fun i hi => ((hρ i hi).trans (t.keep i (by omega))).trans (e1 i hi), fun b h => hNa ▸ e2 b h, fun b h => e3 b (hNa ▸ h), fun b h => ?_, fun k hk hx hm => ?_, (ho.1.trans t.ext.os).trans e6, (ho.2.1.trans t.ext.tape).trans e7, (ho.2.2.trans t.ext.output).trans e8⟩, fun b h => ?_, hML, by omega, fun k h => hNa ▸ s.X k h, s.ids, s.hK⟩
  · rcases t.own b (hM b h) with h | h
    · exact e4 b h
    · exact .inr (by omega)
  · refine ((hb k (by omega) (fun hy => hx (hY k hk hy))).trans (t.ext.block k (by omega) (fun h => ?_))).trans (e10 k hk hx hm)
    rcases e4 k h with h | h
    · exact hm h
    · omega
  · rcases hL b h with h | h
    · exact s.L0 b h
    · exact .inr (by omega)
theorem Susp.laid {P : Program} [hL : LaidS P Γo] (s : Susp Γo no fro ao X Γi K B) (hX : ∀ k, X k → ∀ c T z, Γo.W0.heap[k]? ≠ some (.cells c T z)) : LaidS P Γi := by
  obtain ⟨ρs, ws, Hs, ss, eB, e1, e2, e3, e4, e10, e6, e7, e8⟩ := s.ex
  have key : ∀ g, g < Γo.W0.heap.size → ¬ Γo.M0 g → ¬ X g → Γi.W0.heap[g]? = Γo.W0.heap[g]? ∧ ¬ Γi.M0 g := fun g hlt h2 hnX => by
    have hn : ¬ namB ρs Hs g := fun h => by
      rcases ss.own g h with h | h
      · exact h2 h
      · omega
    have hlt2 : g < ws.heap.size := Nat.lt_of_lt_of_le hlt ss.ext.size
    exact ⟨(e10 g (by omega) hnX hn).trans (ss.ext.block g hlt h2), fun h => by
      rcases e4 g h with h | h
      · exact hn h
      · omega⟩
  refine ⟨fun g hg => ?_, fun nm g hnm hg => ?_⟩
  · obtain ⟨h1, h2⟩ := hL.laid.1 g hg
    have hlt := tab_lt hg h1
    have hnX : ¬ X g := fun hx => by
      have h3 := h1
      unfold Lib.TabIs World.var? at h3
      rw [hg] at h3
      simp only [Option.bind_some] at h3
      split at h3
      · rename_i hh; exact hX g hx _ _ _ hh
      · cases h3
    obtain ⟨k1, k2⟩ := key g hlt h2 hnX
    exact ⟨tab_same hg k1 h1, k2⟩
  · obtain ⟨h1, h2⟩ := hL.laid.2 nm g hnm hg
    have hlt := err_lt h1
    have hnX : ¬ X g := fun hx => by
      obtain ⟨c, T, z, ev, h3, _⟩ := h1
      exact hX g hx _ _ _ h3
    obtain ⟨k1, k2⟩ := key g hlt h2 hnX
    exact ⟨err_same k1 h1, k2⟩
end
end Go.GA
end
section
namespace Go.GA
open Go Go.RowKit

/-- what is fixed while the loop runs -/
structure Env where
  Γ : Ctx
  n : Sz
  fr : Fr
  a : Act
  l : Nat
  D : Nat
  lp : Loop
  K : Nat
  B : Nat
  Q : Exit → Act → World → Prop
def mark (D : Nat) : Deferred := { target := .collected D, args := #[] }
def Env.behind (E : Env) : Act := { E.a with defers := mark E.D :: E.a.defers }
def Env.nb (E : Env) : Sz := ⟨E.n.n, E.K⟩

/-- a context in which the caller waits; its record -/
structure Running (E : Env) (Γi : Ctx) (r : Loop) : Prop where
  susp : Susp E.Γ E.n E.fr E.a (fun _ => False) Γi E.K E.B
  nl : Γi.ρ0.N E.l
  nD : Γi.ρ0.N E.D
  ne : E.D ≠ E.l
  at_l : Γi.W0.heap[E.l]? = some (.loop r)
  dD : Γi.W0.heap[E.D]? = some (.deferred (some []))
  new : E.B ≤ E.l ∧ E.B ≤ E.D
  base : E.Γ.W0.heap.size ≤ E.B

theorem putObj_other (w : World) {l k : Nat} (o : Obj) (h : ¬ k = l) : (w.putObj l o).heap[k]? = w.heap[k]? := World.putObj_heap_other h
theorem putObj_size (w : World) (l : Nat) (o : Obj) : (w.putObj l o).heap.size = w.heap.size := by simp [World.putObj]

/-- what was done in between leaves of the context before -/
structure RB (Γ Γ2 : Ctx) (n : Sz) : Prop where
  ext : Ext Γ.M0 Γ.W0 Γ2.W0
  keep : ∀ i, i < n.K → Γ2.ρ0 i = Γ.ρ0 i
  M0 : ∀ b, Γ2.M0 b → Γ.M0 b ∨ Γ.W0.heap.size ≤ b
  L0 : ∀ b, Γ2.L0 b → Γ.L0 b ∨ Γ.W0.heap.size ≤ b
  N : ∀ b, Γ.ρ0.N b → Γ2.ρ0.N b
  dl : Γ2.dl = [] ∨ ∃ D, Γ2.dl = [mark D] ∧ Γ2.W0.heap[D]? = some (.deferred (some [])) ∧ Γ2.ρ0.N D ∧ Γ.W0.heap.size ≤ D ∧ ¬ Γ2.L0 D ∧ ¬ Γ2.M0 D
theorem RB.refl (Γ : Ctx) (n : Sz) (h : Γ.dl = []) : RB Γ Γ n := ⟨Ext.refl _ _, fun _ _ => rfl, fun _ h => .inl h, fun _ h => .inl h, fun _ h => h, .inl h⟩

section
variable {P : Program} {Γ : Ctx} {n : Sz} {Q : Exit → Act → World → Prop} {fr : Fr} {H : Hp}
/-- the marks and the record are where they were -/
theorem Running.at_w {E : Env} {Γi : Ctx} {r : Loop} (hr : Running E Γi r) {ni : Sz} {ρ : Rho} {w : World} {a : Act} {fr : Fr} {H : Hp} (t : SIM Γi ni ρ w a fr H) : w.heap[E.l]? = some (.loop r) ∧ w.heap[E.D]? = some (.deferred (some [])) := by
  have key : ∀ k o, Γi.ρ0.N k → Γi.W0.heap[k]? = some o → w.heap[k]? = some o := fun k o hN ho => by
    have hlt := (Array.getElem?_eq_some_iff.1 ho).1
    exact (t.ext.block k hlt (fun hm => (t.defers.2.2 k hN).1 (hr.susp.ML k hm))).trans ho
  exact ⟨key _ _ hr.nl hr.at_l, key _ _ hr.nD hr.dD⟩
/-- what is behind the loop, in a context of its own -/
theorem Running.behind {E : Env} {Γi : Ctx} {r : Loop} (hr : Running E Γi r) [hL : LaidS P E.Γ] (hdl : E.Γ.dl = []) {ni : Sz} {ρ : Rho} {w : World} {a : Act} {fr : Fr} {H : Hp} (t : SIM Γi ni ρ w a fr H) (hn : ni.K = E.K) (o : Obj) :
    ∃ Γ2, RB E.Γ Γ2 E.n ∧ LaidS P Γ2 ∧ ∃ ρ2, SIM Γ2 E.n ρ2 (w.putObj E.l o) E.behind E.fr H := by
  have hNt : ρ.N = Γi.ρ0.N := t.defers.2.1
  obtain ⟨hlw, hDw⟩ := hr.at_w t
  have hDlt : E.D < w.heap.size := (Array.getElem?_eq_some_iff.1 hDw).1
  obtain ⟨ℓ, hk, hl⟩ := t.heap
  have hap := t.apart hl
  have hX : ∀ k, k = E.l ∨ k = E.D → ρ.N k := fun k h => by
    rw [hNt]
    rcases h with rfl | rfl
    · exact hr.nl
    · exact hr.nD
  have hnot : ∀ k, k = E.l ∨ k = E.D → ¬ inL ℓ H k := fun k h => hap k (hX k h)
  obtain ⟨_, h2, h3, h4, h5, h6, h7, h8, h9, h10, h11, h12, h13⟩ := hr.susp.core t hn (w2 := w) (Nat.le_refl _) (fun _ _ _ => rfl)
  have hbase := hr.base
  have hnew := hr.new
  have hsub : ∀ b, ownB ⟨ρ.f, fun b => E.Γ.ρ0.N b ∨ b = E.D⟩ H b → ownB ρ H b := by
    rintro b (h | h | h)
    · exact .inl h
    · exact .inr (h13 b h)
    · exact .inr (hX b (.inr h))
  have hput : ∀ k, ¬ k = E.l → (w.putObj E.l o).heap[k]? = w.heap[k]? := fun k hk => putObj_other w o hk
  have hnl : ∀ k, ¬ ownB ρ H k → ¬ k = E.l := fun k h e => h (.inr (hX k (.inl e)))
  have hdef : E.a.defers = [] := h8.trans hdl
  have hL0 : ∀ b, inL ℓ H b → E.Γ.L0 b ∨ E.Γ.W0.heap.size ≤ b := fun b ⟨e, he, hbe⟩ => by
    rcases hl e he b hbe with h | h
    · exact hr.susp.L0 b h
    · have := hr.susp.size
      exact .inr (by omega)
  refine ⟨{ W0 := w.putObj E.l o, M0 := namB ρ H, L0 := inL ℓ H, ρ0 := ⟨ρ.f, fun b => E.Γ.ρ0.N b ∨ b = E.D⟩, dl := [mark E.D] }, ⟨⟨h10, h11, h12, by rw [putObj_size]; exact h6, fun k hk' hm => ?_⟩, h4, h3, hL0, fun b h => .inl h, .inr ⟨E.D, rfl, ?_, .inr rfl, by omega, hnot E.D (.inr rfl), fun ⟨e, he, k, hbk⟩ => hnot E.D (.inr rfl) ⟨e, he, hk.own_mem e he E.D k hbk⟩⟩⟩, ⟨⟨fun g hg => ?_, fun nm g hnm hg => ?_⟩⟩, ⟨ρ.f, fun b => E.Γ.ρ0.N b ∨ b = E.D⟩, ?_⟩
  · have hkl : ¬ k = E.l := fun h => by omega
    exact (hput k hkl).trans (h5 k hk' hm (fun h => h))
  · exact (hput E.D hr.ne).trans hDw
  · obtain ⟨h1, h2'⟩ := hL.laid.1 g hg
    have hlt := tab_lt hg h1
    have hgl : ¬ g = E.l := fun h => by omega
    exact ⟨tab_same hg ((hput g hgl).trans (h5 g hlt h2' (fun h => h))) h1, fun h => by
      rcases h3 g h with h | h
      · exact h2' h
      · omega⟩
  · obtain ⟨h1, h2'⟩ := hL.laid.2 nm g hnm hg
    have hlt := err_lt h1
    have hgl : ¬ g = E.l := fun h => by omega
    exact ⟨err_same ((hput g hgl).trans (h5 g hlt h2' (fun h => h))) h1, fun h => by
      rcases h3 g h with h | h
      · exact h2' h
      · omega⟩
  · refine ⟨⟨by simp [Env.behind, hdef], rfl, fun b h => ⟨fun hin => ?_, ?_⟩⟩, h7, Ext.refl _ _, fun _ _ => rfl, fun b h => .inl h, ⟨ℓ, ⟨fun e he => ?_, hk.nd, hk.dj, hk.ids⟩, fun e he b h => .inl ⟨e, he, h⟩⟩, fun q x hx => ?_⟩
    · rcases h with h | h
      · exact hap b (h13 b h) hin
      · exact hnot b (.inr h) hin
    · show b < (w.putObj E.l o).heap.size
      rw [putObj_size]
      rcases h with h | h
      · have := (h9 b h).2; omega
      · rw [h]; exact hDlt
    · exact (hk.blk e he).same (fun _ _ => rfl) (fun b hbn _ => ⟨hput b (hnl b hbn), fun h => hbn (hsub b h)⟩) (fun b hbe => hput b (fun h => hnot b (.inl h) ⟨e, he, hbe⟩))
    · obtain ⟨g1, g2, g3⟩ := h2 q x hx
      exact ⟨g1, g3.same x (fun _ _ => rfl) (fun b hbn _ => ⟨hput b (hnl b hbn), fun h => hbn (hsub b h)⟩)⟩

end
end Go.GA
end
section
namespace Go.GA
open Go Go.RowKit
/-- the fence of a round -/
def WF (ro : Option Nat) : Fence := { Fence.wide with round := ro }
section
variable {P : Program} {ro : Option Nat} {m : Nat}
variable {ops : Array Oper} {Q : Exit → Act → World → Prop}
end
/-- code of a round -/
def AWI (P : Program) (ro : Option Nat) (m : Nat) (Γ : Ctx) (n : Sz) (c : Code) (Q : Exit → Act → World → Prop) (fr : Fr) (H : Hp) : Prop :=
  ∀ ρ w a, SIM Γ n ρ w a fr H → c.wpIn (WF ro) m P Q a w
/-- operations among which stand calls of a loop's body -/
def AOI (P : Program) (m : Nat) (Γ : Ctx) (n : Sz) (all : Array Oper) (Q : Exit → Act → World → Prop) (ops : List Oper) (fr : Fr) (H : Hp) : Prop :=
  ∀ ρ w a, SIM Γ n ρ w a fr H → wpListIn (WF none) m P all Q ops a w
section
variable {P : Program} {ro : Option Nat} {m : Nat} {Γ : Ctx} {n : Sz} {Q : Exit → Act → World → Prop} {fr fr' : Fr} {H H' : Hp}
end
end Go.GA
end
section
namespace Go.GA
open Go Go.RowKit
/-- the loop's record -/
def recOf (fid : FuncId) (tmps : Array Value) (ps : Array Tmp) (assign body : Code) (D : Nat) : Loop := { state := .ready, pending := none, fn := fid, tmps := tmps, params := ps, assign, body, defers := D }
/-- what the environment is made of -/
structure IsEnv (E : Env) (Γ : Ctx) (n : Sz) (fr : Fr) (K : Nat) (Q : Exit → Act → World → Prop) (ps : Array Tmp) (assign body : Code) : Prop where
  size : E.a.tmps.size = n.n
  Γ : E.Γ = Γ
  n : E.n = n
  fr : E.fr = fr
  K : E.K = K
  Q : E.Q = Q
  lp : ∃ fid, E.lp = recOf fid E.a.tmps ps assign body E.D
/-- the iterator waits while a round runs -/
structure Wait (E : Env) (Γi : Ctx) (ni : Sz) (fri : Fr) (ai : Act) (Γx : Ctx) (r : Loop) : Prop where
  susp : ∃ B, Susp Γi ni fri ai (fun k => k = E.l) Γx E.K B
  dl : Γx.dl = []
  at_l : Γx.W0.heap[E.l]? = some (.loop r)

section
variable {P : Program} {Γ Γi Γx : Ctx} {n ni nb : Sz} {Q Q' : Exit → Act → World → Prop} {fr fri frb : Fr} {H : Hp} {E : Env} {K : Nat} {ps : Array Tmp} {assign body : Code} {ai : Act}
end
end Go.GA
end
section
namespace Go.GA
open Go Go.RowKit
section
variable {P : Program} {Γ Γi Γ2 : Ctx} {n ni : Sz} {Q : Exit → Act → World → Prop} {fr fri : Fr} {H : Hp} {E : Env} {K : Nat} {ps : Array Tmp} {assign body : Code} {fn : Func} {R : AV → Hp → Prop}
end
end Go.GA
namespace Go.GA
open Go Go.RowKit
section
variable {P : Program} {Γ : Ctx} {n : Sz} {Q : Exit → Act → World → Prop} {fr fr' : Fr} {H H' : Hp} {E : Env} {K : Nat} {ps : Array Tmp} {assign body : Code} {ro : Option Nat} {m : Nat}
theorem AWI.sub {c : Code} (hs : Sub n fr H fr' H') (h : AWI P ro m Γ n c Q fr' H') : AWI P ro m Γ n c Q fr H := fun ρ w a s => let ⟨ρ', s'⟩ := hs Γ ρ w a s; h ρ' w a s'
theorem AOI.sub {all : Array Oper} {ops : List Oper} (hs : Sub n fr H fr' H') (h : AOI P m Γ n all Q ops fr' H') : AOI P m Γ n all Q ops fr H := fun ρ w a s => let ⟨ρ', s'⟩ := hs Γ ρ w a s; h ρ' w a s'
theorem IsEnv.ready (h : IsEnv E Γ n fr K Q ps assign body) : E.lp.state = .ready := by
  obtain ⟨fid, e⟩ := h.lp
  rw [e]; rfl
end
end Go.GA
end
section
namespace Go.GA
open Go Go.RowKit
section
variable {P : Program} {fr : Fr} {H : Hp} {dst : Option Nat} {ty : TypeId} {pos : String} {aft : Array Edge} {g : Option (Nat × Bool)}
end
end Go.GA
end
section
namespace Go.GA
open Go Go.RowKit
section
variable {P : Program} {n : Sz} {fr : Fr} {H : Hp} {dst : Option Nat} {ty : TypeId} {pos : String} {aft : Array Edge} {g : Option (Nat × Bool)}
end
end Go.GA
end
section
namespace Go.GA
open Go Go.RowKit
section
variable {P : Program} {fr : Fr} {H : Hp} {dst : Option Nat} {ty : TypeId} {pos : String} {aft : Array Edge} {g : Option (Nat × Bool)}
end
end Go.GA
end
section
namespace Go.GA
open Go Go.RowKit
section
variable {P : Program} {fr : Fr} {H : Hp} {dst : Option Nat} {ty : TypeId} {pos : String} {aft : Array Edge} {g : Option (Nat × Bool)}
end
end Go.GA
end
section
namespace Go.GA
open Go Go.RowKit
section
variable {H : Hp}
end
section
variable {P : Program} {n : Sz} {fr : Fr} {H : Hp} {dst : Option Nat} {ty : TypeId} {pos : String} {aft : Array Edge} {g : Option (Nat × Bool)}
end
end Go.GA
end
section
namespace Go.GA
open Go Go.RowKit
def eqI (a b : Int) : Bool := decide (a = b)
def eqB (a b : Bool) : Bool := a == b
def eqIs (a b : List Int) : Bool := decide (a = b)
/-- equality of plain data -/
def eqT : (t : Ty) → t.D → t.D → Bool
  | .int _, x, y => eqI x y
  | .bool, x, y => eqB x y
  | .str, x, y => eqS x y
  | .arr _ (.int _), x, y => eqIs x y
  | .pair a b, x, y => eqT a x.1 y.1 && eqT b x.2 y.2
  | .unit, _, _ => true
  | _, _, _ => false
def TEq (P : Program) (n : Nat) (T : TypeId) (t : Ty) : Prop := ∀ (w : World) (d : Nat) (h : Hf) (x y : t.D) (c1 c2 : List Value) (F1 F2 : List Nat), n ≤ d → Rc h t x c1 F1 → Rc h t y c2 F2 → (Op.equalIn d T (mkV t c1) (mkV t c2)).run P w = .ok (eqT t x y) w
section
variable {P : Program}
theorem TEq.mono {n n' : Nat} {T : TypeId} {t : Ty} (hn : Nat.ble n n' = true) (h : TEq P n T t) : TEq P n' T t := fun w d hf x y c1 c2 F1 F2 hd h1 h2 => h w d hf x y c1 c2 F1 F2 (Nat.le_trans (Nat.le_of_ble_eq_true hn) hd) h1 h2
variable {fr : Fr} {H : Hp} {dst : Option Nat} {ty : TypeId} {pos : String} {aft : Array Edge} {g : Option (Nat × Bool)}
end
end Go.GA
end
section
namespace Go.GA
open Go Go.RowKit
section
variable {P : Program} {n : Sz} {fr : Fr} {H : Hp} {dst : Option Nat} {ty : TypeId} {pos : String} {aft : Array Edge} {g : Option (Nat × Bool)}
end
end Go.GA
end
section
namespace Go.GA
open Go Go.RowKit
section
variable {Γ : Ctx} {n : Sz} {fr : Fr} {H : Hp}
end
end Go.GA
end
section
namespace Go.GA
open Go Go.RowKit
section
variable {P : Program} {n : Sz} {fr : Fr} {H : Hp} {dst : Option Nat} {ty : TypeId} {pos : String} {aft : Array Edge} {g : Option (Nat × Bool)}
end
end Go.GA
end
section
namespace Go.GA
open Go Go.RowKit
section
variable {P : Program} {fr : Fr} {H : Hp} {dst : Option Nat} {ty : TypeId} {pos : String} {aft : Array Edge} {g : Option (Nat × Bool)}
theorem r_eql_nils {T E yT : TypeId} {x y : Operand} (hu : P.underlying T = some (.slice E)) (hx : evO fr x = some .nilsl) (hy : evO fr y = some .nilsl) : Reads P ⟨dst, .binOp .eql T x y yT, ty, pos, aft, g⟩ fr H (.bool true) :=
  reads_of fun ρ h M ev hev => ⟨_, rfl, fun w' => by
    have h1 := hev x _ hx; have h2 := hev y _ hy
    simp only [RA] at h1 h2
    simp [execOp, eqGuard, Go.binOp, h1, h2, Sem.run_bind, run_equal_nil w' hu]⟩
theorem r_eql_vnil {T E yT : TypeId} {x y : Operand} {t : Ty} {xs : List t.D} (hl : 0 < (xs.length : Int)) (hu : P.underlying T = some (.slice E)) (hx : evO fr x = some (.v (.slice t) xs)) (hy : evO fr y = some .nilsl) : Reads P ⟨dst, .binOp .eql T x y yT, ty, pos, aft, g⟩ fr H (.bool false) := fun Γ n ρ w a s => by
  have h2 := s.ev hy
  simp only [RA] at h2
  obtain ⟨F, ⟨cs, ⟨hl', hc⟩, hv⟩, hF⟩ := s.ev hx
  have key : ∃ a' l c, a.eval x = .slice (some a') l c := by
    rcases hc with ⟨e0, _, a', cap, e⟩ | ⟨b, off, ex, F', e, eF, _⟩
    · subst e0; simp at hl
    · subst e; exact ⟨_, _, _, by rw [hv]; rfl⟩
  obtain ⟨a', l, c, hv'⟩ := key
  refine ⟨.bool false, rfl, fun w' _ => ?_⟩
  simp [execOp, eqGuard, Go.binOp, hv', h2, Sem.run_bind, run_equal_nil w' hu]
end
end Go.GA
end
section
namespace Go.GA
open Go Go.RowKit
section
variable {P : Program} {n : Sz} {fr : Fr} {H : Hp} {dst : Option Nat} {ty : TypeId} {pos : String} {aft : Array Edge} {g : Option (Nat × Bool)}
end
end Go.GA
end
section
namespace Go.GA
open Go Go.RowKit
section
variable {P : Program} {n : Sz} {fr : Fr} {H : Hp} {dst : Option Nat} {ty : TypeId} {pos : String} {aft : Array Edge} {g : Option (Nat × Bool)}
end
end Go.GA
end
section
namespace Go.GA
open Go Go.RowKit
section
variable {P : Program} {n : Sz} {fr : Fr} {H : Hp} {dst : Option Nat} {ty : TypeId} {pos : String} {aft : Array Edge} {g : Option (Nat × Bool)}
/-! ### A state seen under other names -/
def oneC : List Comp → Bool
  | [] => true
  | .cell a :: cs => a.one && oneC cs
  | .arr .. :: cs => oneC cs
def oneH : Hp → Bool
  | [] => true
  | (_, .var cs) :: H => oneC cs && oneH H
  | (_, .row ..) :: H => oneH H
  | (_, .brow ..) :: H => oneH H
theorem subFr_rr {H H' : Hp} {σ : Nat → Nat} {fr : Fr} : ∀ {fr' : Fr}, fr'.map (fun e => get fr e.1) = fr'.map (fun e => some (e.2.ren σ)) → SubFr H H' σ fr fr'
  | [], _ => trivial
  | (t, y) :: l, h => by
    simp only [List.map_cons, List.cons.injEq] at h
    exact ⟨⟨_, h.1, ad_ren rfl⟩, subFr_rr h.2⟩
theorem adC_rr {H H' : Hp} {σ : Nat → Nat} : ∀ {cs : List Comp}, oneC cs = true → AdC H H' σ (compsRen σ cs) cs
  | [], _ => trivial
  | .cell a :: cs, h => by
    simp only [oneC, Bool.and_eq_true] at h
    exact ⟨ad_ren rfl, h.1, adC_rr h.2⟩
  | .arr t n xs :: cs, h => ⟨rfl, adC_rr (cs := cs) h⟩
theorem subH_rr {H H'' : Hp} {σ : Nat → Nat} : ∀ {H' : Hp}, H'.map (fun e => hget H (σ e.1)) = H'.map (fun e => some (e.2.ren σ)) → oneH H' = true → SubH H H'' σ H'
  | [], _, _ => trivial
  | (i, .var cs) :: l, h, ho => by
    simp only [List.map_cons, List.cons.injEq] at h
    simp only [oneH, Bool.and_eq_true] at ho
    exact ⟨⟨_, h.1, adC_rr ho.1⟩, subH_rr h.2 ho.2⟩
  | (i, .row t xs) :: l, h, ho => by
    simp only [List.map_cons, List.cons.injEq] at h
    exact ⟨⟨_, h.1, rfl⟩, subH_rr h.2 ho⟩
  | (i, .brow xs) :: l, h, ho => by
    simp only [List.map_cons, List.cons.injEq] at h
    exact ⟨⟨_, h.1, rfl⟩, subH_rr h.2 ho⟩
theorem sub_rr (σ : Nat → Nat) {fr' : Fr} {H' : Hp} (hfr : fr'.map (fun e => get fr e.1) = fr'.map (fun e => some (e.2.ren σ))) (hH : H'.map (fun e => hget H (σ e.1)) = H'.map (fun e => some (e.2.ren σ))) (ho : oneH H' = true) (hi : injB σ (hkeys H') = true) (hK : ∀ i, i < n.K → σ i = i) : Sub n fr H fr' H' :=
  sub_mk σ (subFr_rr hfr) (subH_rr hH ho) hi hK
theorem sub_r1 (σ : Nat → Nat) {fr' : Fr} {H' : Hp} (hK : ∀ i, i < n.K → σ i = i) (h : (fr'.map (fun e => get fr e.1), H'.map (fun e => hget H (σ e.1)), oneH H', injB σ (hkeys H')) = (fr'.map (fun e => some (e.2.ren σ)), H'.map (fun e => some (e.2.ren σ)), true, true)) : Sub n fr H fr' H' := by
  simp only [Prod.mk.injEq] at h
  exact sub_rr σ h.1 h.2.1 h.2.2.1 h.2.2.2 hK
end
end Go.GA
end
section
namespace Go.GA
open Go Go.RowKit
section
variable {P : Program} {Γ : Ctx} {n : Sz} {Q : Exit → Act → World → Prop} {fr : Fr} {H : Hp} {op : Op} {ty : TypeId} {pos : String} {aft : Array Edge} {all : Array Oper}
theorem ao_r {ops : List Oper} {d : Nat} {x : AV} (hr : Reads P ⟨some d, op, ty, pos, aft, none⟩ fr H x) (hd : Nat.blt d n.n = true)
    (h : AO P Γ n all Q ops ((d, x) :: fr) H) : AO P Γ n all Q (⟨some d, op, ty, pos, aft, none⟩ :: ops) fr H := ao_read trivial hr hd h
theorem an_r {m f : Nat} {T : Act → World → Prop} {listed : Array Bool} (i : Nat) {d : Nat} {x : AV} (hQ : ∀ c a w, Q (.panic c) a w → False) (hi : all[i]? = some ⟨some d, op, ty, pos, aft, none⟩) (hn : (Region.noSelect all && nextB all listed m i) = true) (hr : Reads P ⟨some d, op, ty, pos, aft, none⟩ fr H x) (hd : Nat.blt d n.n = true)
    (h : AN P Γ n all Q m T f (listed.setIfInBounds i true) ((d, x) :: fr) H) : AN P Γ n all Q m T (f + 1) listed fr H := by
  simp only [Bool.and_eq_true] at hn
  exact an_read i hn.1 hQ hi hn.2 trivial hr hd h
end
end Go.GA
end
section
namespace Go.GA
open Go Go.RowKit
end Go.GA
end
section
namespace Go.GA
open Go Go.RowKit
section
variable {P : Program} {fr : Fr} {H : Hp} {dst : Option Nat} {ty : TypeId} {pos : String} {aft : Array Edge} {g : Option (Nat × Bool)}
end
end Go.GA
end
section
namespace Go.GA
open Go Go.RowKit
def marks1 (n : Nat) (k : Int) : List Int := (List.range n).map fun i : Nat => k + (i : Int)
theorem marks1_len (n : Nat) (k : Int) : (marks1 n k).length = n := by simp [marks1]
def total2 : List (List Int) → Int
  | [] => 0
  | x :: xs => (x.length : Int) + total2 xs
def marks2 : List (List Int) → Int → List (List Int)
  | [], _ => []
  | x :: xs, k => marks1 x.length k :: marks2 xs (k + (x.length : Int))
theorem marks2_app : ∀ (xs : List (List Int)) (y : List Int) (k : Int), marks2 (xs ++ [y]) k = marks2 xs k ++ [marks1 y.length (k + total2 xs)]
  | [], y, k => by simp [marks2, total2]
  | x :: xs, y, k => by
    rw [List.cons_append, marks2, marks2_app xs y, marks2, total2, List.cons_append, Int.add_assoc]
theorem total2_app : ∀ (xs : List (List Int)) (y : List Int), total2 (xs ++ [y]) = total2 xs + (y.length : Int)
  | [], y => by simp [total2]
  | x :: xs, y => by rw [List.cons_append, total2, total2_app xs y, total2]; omega
theorem total2_nn : ∀ (xs : List (List Int)), 0 ≤ total2 xs
  | [] => Int.le_refl 0
  | x :: xs => by have := total2_nn xs; rw [total2]; omega
/-- a slice of ints, its cell and its blocks -/
def RI (h : Hf) (x : List Int) (c : List Value) (F : List Nat) : Prop := Rc h (.slice (.int .i64)) x c F
/-- how far the rows have been marked -/
def MI (w wr : World) (xs : List (List Int)) (k : Int) (mid : List Value) (F : List Nat) (j : Nat) : Prop :=
  ∃ m1 m2 F1 F2, mid = m1 ++ m2 ∧ F = F1 ++ F2 ∧ m1.length = j ∧ RelL (RI (World.hf wr)) (marks2 (xs.take j) k) m1 F1 ∧ RelL (RI (World.hf wr)) (xs.drop j) m2 F2 ∧
    NoFz (World.hf wr) F ∧ (∀ x, x ∉ F → wr.heap[x]? = w.heap[x]?) ∧ wr.heap.size = w.heap.size ∧ wr.os = w.os ∧ wr.tape = w.tape ∧ wr.output = w.output
theorem relInt {h : Hf} : ∀ {xs : List Int} {cs F}, RelL (Rc h (.int .i64)) xs cs F → cs = xs.map (Value.int .i64) ∧ F = []
  | [], _, _, ⟨e, e2⟩ => ⟨e, e2⟩
  | x :: xs, _, _, ⟨c1, c2, F1, F2, e1, e2, h1, h2⟩ => by
    obtain ⟨e3, e4⟩ := h1
    obtain ⟨e5, e6⟩ := relInt h2
    subst e1 e2 e3 e4 e5 e6
    exact ⟨rfl, rfl⟩

/-- the rows have been marked -/
def Marked (w w' : World) (xs : List (List Int)) (k : Int) (mid : List Value) (F : List Nat) : Prop :=
  RelL (RI (World.hf w')) (marks2 xs k) mid F ∧ NoFz (World.hf w') F ∧ (∀ x, x ∉ F → w'.heap[x]? = w.heap[x]?) ∧ w'.heap.size = w.heap.size ∧ w'.os = w.os ∧ w'.tape = w.tape ∧ w'.output = w.output
theorem MI_end {w w' : World} {xs : List (List Int)} {k : Int} {mid : List Value} {F : List Nat} {n : Nat} (hn : n = xs.length) (h : MI w w' xs k mid F n) : Marked w w' xs k mid F := by
  obtain ⟨m1, m2, F1, F2, e1, e2, hl, r1, r2, hz, hs, h5, h6, h7, h8⟩ := h
  subst hn
  rw [List.take_length] at r1
  rw [List.drop_length] at r2
  obtain ⟨e3, e4⟩ := r2
  subst e1 e2 e3 e4
  exact ⟨by rw [List.append_nil, List.append_nil]; exact r1, hz, hs, h5, h6, h7, h8⟩
/-- the function f marks -/
structure MarkSS (P : Program) (f : FuncId) : Prop where
  nil : ∀ (a : Option Addr) (c : Nat) (k : Int) (w : World), Calls P f #[.slice a 0 c, .int .i64 k] w fun e w' => e = .returned (.int .i64 k) ∧ w' = w
  rows : ∀ (b cap n : Nat) (c : Array Value) (T : TypeId) (xs : List (List Int)) (mid post : List Value) (F : List Nat) (k : Int) (w : World), n = xs.length → n ≤ 1000000000 → 0 ≤ k → k ≤ 1000000000 → total2 xs ≤ 1000000000 →
    w.heap[b]? = some (.cells c T (0, 0)) → c.toList = mid ++ post → RelL (RI (World.hf w)) xs mid F → NoFz (World.hf w) F → F.Nodup → b ∉ F →
    Calls P f #[.slice (some ⟨b, 0, none⟩) n cap, .int .i64 k] w fun e w' => e = .returned (.int .i64 (k + total2 xs)) ∧ Marked w w' xs k mid F

mutual
/-- no data lies behind it but in own blocks -/
def AV.plain : AV → Bool
  | .v t _ => t.flat
  | .cptr .. => false
  | .cav _ => false
  | .gd _ x => x.plain
  | .tup xs => AV.plainL xs
  | .st xs => AV.plainL xs
  | .fn _ caps => AV.plainL caps
  | _ => true
def AV.plainL : List AV → Bool
  | [] => true
  | x :: xs => x.plain && AV.plainL xs
end
mutual
theorem RA.plain {ρ : Rho} {h h' : Hf} {M M' : Nat → Prop} : ∀ (x : AV) {v : Value}, x.plain = true → RA ρ h M x v → RA ρ h' M' x v
  | .int .., _, _, hx => hx
  | .bool _, _, _, hx => hx
  | .str _, _, _, hx => hx
  | .v t x, _, hp, hx => by
    obtain ⟨F, ⟨cs, h1, e⟩, hF⟩ := hx
    have hf : F = [] := Rc.flat t hp h1
    subst hf
    exact ⟨[], ⟨cs, h1.same t (by simp), e⟩, by simp⟩
  | .cptr .., _, hp, _ => by cases hp
  | .cav _, _, hp, _ => by cases hp
  | .ref .., _, _, hx => hx
  | .elem .., _, _, hx => hx
  | .elem2 .., _, _, hx => hx
  | .os _, _, _, hx => hx
  | .view .., _, _, hx => hx
  | .nilsl, _, _, hx => hx
  | .nilp, _, _, hx => hx
  | .nilf, _, _, hx => hx
  | .fn f caps, _, hp, hx => by
    obtain ⟨vs, e, h1⟩ := hx
    exact ⟨vs, e, RAs.plain caps hp h1⟩
  | .tup xs, _, hp, hx => by
    obtain ⟨vs, e, h1⟩ := hx
    exact ⟨vs, e, RAs.plain xs hp h1⟩
  | .st xs, _, hp, hx => by
    obtain ⟨vs, e, h1⟩ := hx
    exact ⟨vs, e, RAs.plain xs hp h1⟩
  | .gd g x, _, hp, hx => by
    cases g
    · exact hx
    · exact RA.plain (v := _) x hp hx
  | .junk, _, _, _ => trivial
  | .yl _, _, _, hx => hx
  | .ov .., _, _, hx => hx
theorem RAs.plain {ρ : Rho} {h h' : Hf} {M M' : Nat → Prop} : ∀ (xs : List AV) {vs : List Value}, AV.plainL xs = true → RAs ρ h M xs vs → RAs ρ h' M' xs vs
  | [], _, _, hx => hx
  | x :: xs, _, hp, hx => by
    obtain ⟨v, vs', e, h1, h2⟩ := hx
    simp only [AV.plainL, Bool.and_eq_true] at hp
    exact ⟨v, vs', e, RA.plain x hp.1 h1, RAs.plain xs hp.2 h2⟩
end
def plainC : List Comp → Bool
  | [] => true
  | .cell a :: r => a.plain && plainC r
  | .arr .. :: r => plainC r
theorem RComps.plain {ρ : Rho} {h h' : Hf} {M M' : Nat → Prop} : ∀ {cs : List Comp} {vs F}, plainC cs = true → RComps ρ h M cs vs F → (∀ b ∈ F, h' b = h b) → RComps ρ h' M' cs vs F
  | [], _, _, _, hx, _ => hx
  | .cell a :: r, _, _, hp, hx, hF => by
    obtain ⟨v, cs', e, h1, h2, h3⟩ := hx
    simp only [plainC, Bool.and_eq_true] at hp
    exact ⟨v, cs', e, h1, RA.plain a hp.1 h2, RComps.plain hp.2 h3 hF⟩
  | .arr t n xs :: r, _, _, hp, hx, hF => by
    obtain ⟨c1, c2, F1, F2, e, eF, h1, h2⟩ := hx
    subst eF
    exact ⟨c1, c2, F1, F2, e, rfl, h1.same _ (fun b hb => hF b (List.mem_append_left _ hb)), RComps.plain (by simpa [plainC] using hp) h2 (fun b hb => hF b (List.mem_append_right _ hb))⟩
theorem RBlk.plain {ρ : Rho} {h h' : Hf} {M M' : Nat → Prop} {id : Nat} : ∀ {B : Blk} {L}, (∀ cs, B = .var cs → plainC cs = true) → RBlk ρ h M id B L → (∀ b ∈ L, h' b = h b) → RBlk ρ h' M' id B L
  | .var cs, _, hp, hx, hF => by
    obtain ⟨b, k, c, T, F, h1, h2, h3, e⟩ := hx
    subst e
    exact ⟨b, k, c, T, F, h1, by rw [hF b (by simp)]; exact h2, h3.plain (hp cs rfl) (fun b hb => hF b (List.mem_cons_of_mem _ hb)), rfl⟩
  | .row t xs, _, _, hx, hF => by
    obtain ⟨hl, ⟨h1, h2⟩ | ⟨b, cap, c, T, F, mid, post, h1, h2, h3, h4, e, h5⟩⟩ := hx
    · exact ⟨hl, .inl ⟨h1, h2⟩⟩
    · subst e
      exact ⟨hl, .inr ⟨b, cap, c, T, F, mid, post, h1, by rw [hF b (by simp)]; exact h2, h3,
        h4.mono (fun x c F' hF' hc => hc.same t (fun b hb => hF b (List.mem_cons_of_mem _ (hF' b hb)))), rfl, h5.1, h5.2.1, h5.2.2.same (fun b hb => hF b (List.mem_cons_of_mem _ hb))⟩⟩
  | .brow xs, _, _, hx, hF => by
    obtain ⟨b, cap, c, T, post, h1, h2, h3, e, h4⟩ := hx
    subst e
    exact ⟨b, cap, c, T, post, h1, by rw [hF b (by simp)]; exact h2, h3, rfl, h4⟩
section
variable {P : Program} {Γ : Ctx} {n : Sz} {Q : Exit → Act → World → Prop} {fr : Fr} {H : Hp} {all : Array Oper} {ops : List Oper} {ty : TypeId} {pos : String} {aft : Array Edge}
end
end Go.GA
end
