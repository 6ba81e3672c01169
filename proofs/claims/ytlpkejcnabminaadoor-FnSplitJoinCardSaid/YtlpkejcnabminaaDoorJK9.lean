/- Plain law of FnSplitJoin. -/
import Derived.Test.YtlpkejcnabminaaDoorJKb
namespace Go.GA
open Go
set_option maxRecDepth 100000
theorem less_eq (a b : ByteArray) : p_impl_LessString a b = Op.bytesLess a.data.toList b.data.toList := by
  unfold p_impl_LessString
  rw [toList_data, toList_data]
theorem less_fin : ∀ a ∈ texts, ∀ b ∈ texts, (Op.bytesLess a.data.toList b.data.toList && Op.bytesLess b.data.toList a.data.toList) = false := by decide +kernel
/-- what the law asks of a text and a separator -/
def chk (s sep : ByteArray) : Bool :=
  match p_impl_SplitString s sep with
  | some (l, ok) => if sep.size = 1 then (match p_impl_JoinStrings l sep with
    | some (b, f) => ok && f && (b.data.toList == s.data.toList)
    | none => false) else !ok && l.isEmpty
  | none => false
theorem chk_fin : ∀ s ∈ texts, ∀ sep ∈ seps, chk s sep = true := by decide +kernel
theorem pure_FnSplitJoin {x : List Int} (o : OkT (.slice (.int .u8)) x) : ∃ fu, p_laws_FnSplitJoin fu x = some true := by
  refine ⟨10000, ?_⟩
  have hx : Bytes x := fun b hb => by
    have h : (Lit.int .u8 b).wf = true := o.2 b hb
    simp only [Lit.wf, Bool.and_eq_true, decide_eq_true_eq] at h
    have e1 : IntKind.u8.min = 0 := by decide
    have e2 : IntKind.u8.max = 255 := by decide
    rw [e1, e2] at h
    exact h
  have hf : 1000 ≤ 10000 := by omega
  generalize 10000 = fu at hf
  unfold p_laws_FnSplitJoin
  by_cases hb : p_laws_vBig x = true
  · rw [if_pos hb]
  rw [if_neg hb]
  obtain ⟨s, sep, e1, h1, h2⟩ := drawSplit_ok hx
  obtain ⟨k, m, e2, h3, h4, h5⟩ := drawJoin_ok hx hf
  obtain ⟨a, b, e3, h6, h7⟩ := drawLess_ok hx
  obtain ⟨r, e4, e5⟩ := join_same k m h3 h4 h5
  have hc := chk_fin s h1 sep h2
  have hl := less_fin a h6 b h7
  unfold chk at hc
  rw [e1, Option.bind_some]
  dsimp only
  cases es : p_impl_SplitString s sep with
  | none => rw [es] at hc; cases hc
  | some q =>
    obtain ⟨l, ok⟩ := q
    rw [es] at hc
    dsimp only at hc
    rw [Option.bind_some, e2, Option.bind_some]
    dsimp only
    rw [e4, e5, Option.bind_some, Option.bind_some, e3, Option.bind_some]
    dsimp only
    have hle : (p_impl_LessString a b && p_impl_LessString b a) = false := by rw [less_eq, less_eq]; exact hl
    have hsp : p_impl_LessString a b = p_spec_LessString a b := rfl
    rw [hle, ← hsp, show eqS r.1 r.1 = true from eqS_iff.2 rfl, if_neg (by simp)]
    by_cases hs : sep.size = 1
    · rw [if_pos (show (sep.size : Int) = 1 by omega)]
      rw [if_pos hs] at hc
      cases ej : p_impl_JoinStrings l sep with
      | none => rw [ej] at hc; cases hc
      | some w =>
        obtain ⟨bk, f⟩ := w
        rw [ej] at hc
        dsimp only at hc
        rw [Option.bind_some]
        dsimp only
        rw [eqS_data]
        simpa using hc
    · rw [if_neg (show ¬ (sep.size : Int) = 1 by omega)]
      rw [if_neg hs] at hc
      simp only [Bool.and_eq_true, Bool.not_eq_true', List.isEmpty_iff] at hc
      obtain ⟨rfl, rfl⟩ := hc
      rfl
end Go.GA
