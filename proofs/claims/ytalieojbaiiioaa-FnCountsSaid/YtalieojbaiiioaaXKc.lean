/- Plain law of CountRolls. -/
import Derived.Test.YtalieojbaiiioaaXKb
namespace Go.GA.E
theorem sorted_In {x : List Int} (h6 : x.length = 6) (h : p_impl_IsDie x = true) : ∀ v ∈ x, p_spec_l1In v 0 30 = true := by
  unfold p_impl_IsDie at h
  rw [areAll_eq] at h
  simp only [Bool.and_eq_true, List.all_eq_true] at h
  exact fun v hv => h.1 v hv
theorem lrun_bad {α S R : Type} {F : α → S → (S → R) → R} {b : α → Bool} {G : α → S → S} {r : R} (k : S → R) (hb : ∀ x s c, b x = true → F x s c = r) (hg : ∀ x s c, b x = false → F x s c = c (G x s)) : ∀ (xs : List α) (s : S), xs.any b = true → lrun F k xs s = r
  | [], s, h => by simp at h
  | x :: xs, s, h => by
    show F x s _ = r
    cases hx : b x with
    | true => exact hb x s _ hx
    | false =>
      rw [hg x s _ hx]
      exact lrun_bad k hb hg xs _ (by simpa [hx] using h)
/-- the rolls are as told, up to the limit -/
theorem rolls_loop (x : List Int) : p_spec_l11Rolls x = (decide ((x.length : Int) ≤ 12) && x.all (fun a => p_spec_l1In a 0 30)) := by
  unfold p_spec_l11Rolls
  have key : ∀ (d i : Nat), d + i = x.length → cnt (fun i2 (s1 : Unit) c3 k15 => (if ((decide (i2 < (x.length : Int))) && (decide (i2 ≤ 12))) = true then (if (p_spec_l1In (x.getD i2.toNat 0) 0 30) = true then c3 () else false) else k15 i2 s1)) (fun i2 (s1 : Unit) => (decide ((x.length : Int) ≤ 12))) d (i : Int) () = (decide ((x.length : Int) ≤ 12) && (x.drop i).all (fun a => p_spec_l1In a 0 30)) := by
    intro d
    induction d with
    | zero => intro i h; rw [List.drop_eq_nil_of_le (by omega)]; simp [cnt]
    | succ d ih =>
      intro i h
      have h1 : i < x.length := by omega
      simp only [cnt]
      rw [show (i : Int) + 1 = ((i + 1 : Nat) : Int) from rfl, ih (i + 1) (by omega), List.drop_eq_getElem_cons h1, List.all_cons]
      simp only [Int.toNat_natCast, List.getD_eq_getElem?_getD, List.getElem?_eq_getElem h1, Option.getD_some]
      by_cases h12 : (i : Int) ≤ 12
      · have hc : (decide ((i : Int) < (x.length : Int)) && decide ((i : Int) ≤ 12)) = true := by simp; omega
        rw [if_pos hc]
        cases p_spec_l1In x[i] 0 30 <;> simp
      · have hc : ¬ (decide ((i : Int) < (x.length : Int)) && decide ((i : Int) ≤ 12)) = true := by simp; omega
        rw [if_neg hc]
        have : ¬ (x.length : Int) ≤ 12 := by omega
        simp [this]
  have := key x.length 0 (by omega)
  simp only [Int.sub_zero, Int.toNat_natCast]
  simpa using this
end Go.GA.E
