/- strconv.Itoa, by the library's contract. -/
import Derived.Test.YtcminfahdindnaaDoorGA32
import Derived.Sort.Grow
namespace Go.GA
open Go Go.RowKit
/-- strconv.Itoa -/
def p_strconv_Itoa (x0 : Int) : Option ByteArray := if -9223372036854775808 ≤ x0 ∧ x0 ≤ 9223372036854775807 then some ⟨(Lib.itoa x0).toArray⟩ else none
theorem itoa_scalar {P : Program} {f : FuncId} {g : Nat} (hg : P.globalNamed "internal/strconv.uint64pow10" = some g)
    (hI : ∀ (n : Int), -9223372036854775808 ≤ n → n ≤ 9223372036854775807 → ∀ w : World, Lib.TabIs P w "internal/strconv.uint64pow10" .u64 Lib.pow10Tab →
      Calls P f #[.int .i64 n] w fun e w' => e = .returned (.string ⟨(Lib.itoa n).toArray⟩) ∧ ∃ k os, w' = Sort.grow (w.drewN k) os)
    {x0 : Int} {r : ByteArray} (h : Is (p_strconv_Itoa x0) (some r)) : Scalar P f [.int .i64 x0] (.str r) := by
  unfold p_strconv_Itoa at h
  obtain ⟨hn, h⟩ := is_guard h
  obtain rfl := is_some h
  intro ρ w vs ℓ h1 h2 hN hLd
  obtain ⟨v, vs', rfl, hv, hr⟩ := h1
  simp only [RAs] at hr
  subst hr
  have hv' : v = .int .i64 x0 := hv
  subst hv'
  refine (hI x0 hn.1 hn.2 w (hLd g hg).1).mono ?_
  rintro e w' ⟨rfl, k, os, rfl⟩
  have hd : ∀ k, (w.drewN k).heap = w.heap := fun k => by simp
  refine ⟨_, _, [], ρ, fun _ => [], rfl, ⟨⟨⟨rfl, rfl⟩, rfl, rfl⟩, by simp, ⟨rfl, rfl, rfl, by simp [Sort.grow], fun i hi _ => ?_⟩, ⟨by simp, by simp, by simp, by simp⟩, ?_, ?_, rfl, rfl⟩⟩
  · simp only [Sort.grow, hd]
    rw [Array.getElem?_append_left hi]
  · rintro b ⟨e, he, _⟩; cases he
  · rintro b ⟨e, he, _⟩; cases he
end Go.GA
