/- The law's frame: the call. -/
import Derived.Test.YtcminfahdindnaaDoorGA19
namespace Go.GA
open Go Go.RowKit Go.ChangeShapes Go.WideShapes
def rho0 : Rho := ⟨fun _ => none, fun _ => False⟩
section
variable {H : Type} {enc : TypeId × Value → H} {P : Program} {W : World} {base : Nat} {spare : Nat → Bool} {held : Bool}
theorem arg_in {t : TypeId} {τ : Ty} {v : Value} {d : DataW H} {ps : List MemPlace} {r : Reach} {b : Nat} (ht : TyP P t τ) (hval : Value.okWide P W r b t v) (hd : DataW.Trod enc P W base spare held t v d ps) :
    ∃ x : τ.D, OkT τ x ∧ RA rho0 (World.hf W) (ownB rho0 []) (ofTy τ x) v := by
  obtain ⟨fuel, hf⟩ := hd
  obtain ⟨x, F, hx, hok⟩ := open_rc fuel hf ht
  refine ⟨x, hok, ?_⟩
  have hM : ∀ b ∈ F, ¬ ownB rho0 [] b := by
    rintro b _ (⟨e, he, _⟩ | h)
    · cases he
    · exact h
  have hv : mkV τ v.cells.toList = v := by
    cases ht with
    | bool hu _ => obtain ⟨b, rfl⟩ := okWide_bool hu hval; rfl
    | int hu _ => obtain ⟨b, rfl⟩ := okWide_int hu hval; rfl
    | str hu _ => obtain ⟨b, rfl⟩ := okWide_string hu hval; rfl
    | slice hu _ _ _ => obtain ⟨a, l, c, rfl⟩ := okWide_slice hu hval; rfl
    | arr hu _ _ =>
      simp only [Value.okWide, hu] at hval
      obtain ⟨cs, rfl, _⟩ := hval
      simp [mkV, Ty.agg, Value.cells]
    | struct hu _ _ ha =>
      simp only [Value.okWide, hu] at hval
      obtain ⟨cs, rfl, _⟩ := hval
      simp [mkV, ha, Value.cells]
  have := ra_ofTy (ρ := rho0) hx hM
  rwa [hv] at this
theorem law_call {f : FuncId} {ys : List AV} {vs : List Value} (hL : ∀ g, P.globalNamed "internal/strconv.uint64pow10" = some g → Lib.TabIs P W "internal/strconv.uint64pow10" .u64 Lib.pow10Tab) (hc : Scalar P f ys (.bool true)) (hx : RAs rho0 (World.hf W) (ownB rho0 []) ys vs) :
    Calls P f vs.toArray W (fun e W' => e = .returned (.bool true) ∧ Below W.heap.size W W') := by
  refine (hc rho0 W vs (fun _ => []) hx ⟨by simp, by simp, by simp, by simp⟩ (fun b h => h.elim) (fun g hg => ⟨hL g hg, fun ⟨e, he, _⟩ => by cases he⟩)).mono ?_
  rintro e w' ⟨v, r, H', ρ', ℓ', rfl, p⟩
  obtain ⟨⟨rfl, rfl⟩, _⟩ := p.post
  have hv : v = .bool true := p.ra
  refine ⟨by rw [hv], p.ext.os, p.ext.tape, p.ext.output, p.ext.size, fun k hk => p.ext.block k hk ?_⟩
  rintro ⟨e, he, _⟩; cases he
end
end Go.GA
