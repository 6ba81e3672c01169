/- Plain law of FnExactFirstMode. -/
import Derived.Test.YtogkhlpljkelpaaRRh
namespace Go.GA
open Go
set_option maxRecDepth 100000
/-- a loop from some element on, while something holds -/
theorem cnt_fold {α S R : Type} {f : Int → S → (S → R) → (Int → S → R) → R} {k : Int → S → R} (xs : List α) (dflt : α) (G : α → S → S) (P : S → Prop) (hf : ∀ (i : Nat) s c, i < xs.length → P s → f (i : Int) s c k = c (G (xs.getD i dflt) s)) (hP : ∀ x ∈ xs, ∀ s, P s → P (G x s)) :
    ∀ (d i : Nat) (s : S), d + i = xs.length → P s → cnt f k d (i : Int) s = k (xs.length : Int) ((xs.drop i).foldl (fun s x => G x s) s)
  | 0, i, s, h, hs => by
    rw [List.drop_eq_nil_of_le (by omega), show i = xs.length by omega]; rfl
  | d + 1, i, s, h, hs => by
    have hi : i < xs.length := by omega
    have hx : xs.getD i dflt ∈ xs := by
      rw [List.getD_eq_getElem?_getD, List.getElem?_eq_getElem hi]; exact List.getElem_mem hi
    have e : xs.drop i = xs.getD i dflt :: xs.drop (i + 1) := by
      rw [List.drop_eq_getElem_cons hi, List.getD_eq_getElem?_getD, List.getElem?_eq_getElem hi]; rfl
    rw [e, List.foldl_cons, ← cnt_fold xs dflt G P hf hP d (i + 1) _ (by omega) (hP _ hx s hs)]
    exact hf i s _ hi hs
theorem vec_pos {m n : Nat} : 0 < (vec (m + 1) n).length := by
  cases hv : vec (m + 1) n with
  | nil =>
    exfalso
    have hx : ∀ m : Nat, (List.replicate m (0 : Int) ++ [(n : Int)]) ∈ vec (m + 1) n := by
      intro m
      induction m with
      | zero => simp [vec]
      | succ m ih =>
        simp only [vec, List.mem_flatMap, List.mem_range, List.mem_map]
        exact ⟨0, by omega, _, ih, by simp [List.replicate_succ]⟩
    have := hx m
    rw [hv] at this
    simp at this
  | cons a l => simp
section
variable {x y : List Int} {fu : Nat}
/-- the chance of counts -/
def cv (fu : Nat) (x r : List Int) : Int := (p_impl_chance fu x r).getD 0
/-- the first of the greatest -/
def bestG (cv : List Int → Int) (r b : List Int) : List Int := if cv b < cv r then r else b
def bestL (cv : List Int → Int) : List (List Int) → List Int
  | [] => []
  | r :: l => l.foldl (fun b r => bestG cv r b) r
theorem bestL_mem (cv : List Int → Int) : ∀ (l : List (List Int)) (r : List Int), l.foldl (fun b r => bestG cv r b) r ∈ r :: l
  | [], r => by simp
  | a :: l, r => by
    have := bestL_mem cv l (bestG cv a r)
    rw [List.foldl_cons]
    unfold bestG at this ⊢
    rcases List.mem_cons.1 this with h | h
    · rw [h]
      split <;> simp
    · exact List.mem_cons_of_mem _ (List.mem_cons_of_mem _ h)
theorem spec_tested (h : x.length = 6) (n : Int) : p_spec_l11Tested x n = some (p_impl_IsDie x && p_impl_isTested n) := by
  unfold p_spec_l11Tested p_impl_isTested
  rw [l2Die_eq h, within_In]; rfl
theorem mode_good {m n : Nat} (h : x.length = 6) (hd : p_impl_IsDie x = true) (hm : (dd x).length = m + 1) (hm5 : m ≤ 5) (hn : n ≤ 8) (hf : 10000000000 ≤ fu) : p_impl_FirstMode fu x (n : Int) = some (bestL (cv fu x) (vec (m + 1) n), true) ∧ p_spec_FirstMode fu x (n : Int) = some (bestL (cv fu x) (vec (m + 1) n), true) := by
  have ht : p_impl_isTested (n : Int) = true := by rw [tested_eq, decide_eq_true hn]
  have hl : 0 < (vec (m + 1) n).length := vec_pos
  have hch : ∀ r ∈ vec (m + 1) n, p_impl_chance fu x r = some (cv fu x r) ∧ p_spec_l11Chance fu x r = some (cv fu x r) := fun r hr => by
    obtain ⟨v, c1, c2, _⟩ := chance_b2 h (vec_counts hd hm hn hr) (fu := fu) (by omega) (by rw [(vec_mem m n r hr).2.2]; exact hn)
    have : cv fu x r = (v : Int) := by unfold cv; rw [c1]; rfl
    rw [this]
    exact ⟨c1, c2⟩
  have h0 : (vec (m + 1) n).getD 0 [] ∈ vec (m + 1) n := by
    rw [List.getD_eq_getElem?_getD, List.getElem?_eq_getElem hl]; exact List.getElem_mem hl
  have hi : ∀ i : Nat, i < (vec (m + 1) n).length → (vec (m + 1) n).getD i [] ∈ vec (m + 1) n := fun i hi => by
    rw [List.getD_eq_getElem?_getD, List.getElem?_eq_getElem hi]; exact List.getElem_mem hi
  have hb : bestL (cv fu x) (vec (m + 1) n) = ((vec (m + 1) n).drop 1).foldl (fun b r => bestG (cv fu x) r b) ((vec (m + 1) n).getD 0 []) := by
    cases hv : vec (m + 1) n with
    | nil => rw [hv] at hl; simp at hl
    | cons a l => simp [bestL]
  have hG : ∀ r ∈ vec (m + 1) n, ∀ s, s ∈ vec (m + 1) n → bestG (cv fu x) r s ∈ vec (m + 1) n := fun r hr s hs => by
    unfold bestG; split <;> assumption
  rw [hb]
  constructor
  · unfold p_impl_FirstMode
    rw [hd, ht, if_neg (by simp), numbers_impl h, Option.bind_some, hm, vec_impl m n fu hm5 hn (by omega), Option.bind_some]
    rw [if_pos (by omega), if_pos (by intro hh; cases hh), if_pos (by intro hh; cases hh)]
    rw [show Int.toNat (((vec (m + 1) n).length : Int) - (0 + 1)) = (vec (m + 1) n).length - 1 by omega]
    refine (cnt_fold (vec (m + 1) n) [] (bestG (cv fu x)) (fun s => s ∈ vec (m + 1) n) (fun i s c hil hs => ?_) hG ((vec (m + 1) n).length - 1) 1 _ (by omega) h0).trans rfl
    have hsl : 0 < (s.length : Int) := by have := (vec_mem m n s hs).1; omega
    have c1 := (hch _ hs).1
    have c2 := (hch _ (hi i hil)).1
    rw [if_pos hsl, Int.toNat_natCast, c1, c2]
    simp only [Option.isSome_some, implies_true, if_true]
    simp only [Option.getD_some, Bool.false_or, decide_eq_true_eq]
    unfold bestG
    by_cases hlt : cv fu x s < cv fu x ((vec (m + 1) n).getD i [])
    · rw [if_pos (by omega), if_pos hlt]
    · rw [if_neg (by omega), if_neg hlt]
  · unfold p_spec_FirstMode
    rw [spec_tested h, hd, ht, Option.bind_some, Bool.and_true, if_pos rfl, numbers_eq h (sorted_of_IsDie h hd), Option.bind_some, hm, vec_spec m n fu hm5 hn (by omega), Option.bind_some, if_pos (by omega)]
    rw [show Int.toNat (((vec (m + 1) n).length : Int) - 1) = (vec (m + 1) n).length - 1 by omega]
    refine (cnt_fold (vec (m + 1) n) [] (bestG (cv fu x)) (fun s => s ∈ vec (m + 1) n) (fun i s c hil hs => ?_) hG ((vec (m + 1) n).length - 1) 1 _ (by omega) h0).trans rfl
    have c1 := (hch _ hs).2
    have c2 := (hch _ (hi i hil)).2
    rw [Int.toNat_natCast, c1, c2, Option.bind_some, Option.bind_some]
    unfold bestG
    by_cases hlt : cv fu x s < cv fu x ((vec (m + 1) n).getD i [])
    · rw [if_pos (by omega), if_pos hlt]
    · rw [if_neg (by omega), if_neg hlt]
theorem mode_eq (h : x.length = 6) (n : Int) (hf : 10000000000 ≤ fu) : ∃ v q, p_impl_FirstMode fu x n = some (v, q) ∧ p_spec_FirstMode fu x n = some (v, q) ∧ v.length ≤ 1000 := by
  by_cases hb : ((!(p_impl_IsDie x)) || (!(p_impl_isTested n))) = true
  · refine ⟨[], false, ?_, ?_, by simp⟩
    · unfold p_impl_FirstMode; rw [if_pos hb]
    · have hb2 : ¬ (p_impl_IsDie x && p_impl_isTested n) = true := by
        intro he
        simp only [Bool.and_eq_true] at he
        rw [he.1, he.2] at hb
        cases hb
      unfold p_spec_FirstMode; rw [spec_tested h, Option.bind_some, if_neg hb2]
  · have hd : p_impl_IsDie x = true := by
      cases hq : p_impl_IsDie x with
      | true => rfl
      | false => rw [hq] at hb; simp at hb
    have ht : p_impl_isTested n = true := by
      cases hq : p_impl_isTested n with
      | true => rfl
      | false => rw [hq] at hb; simp at hb
    obtain ⟨k, rfl, hk⟩ : ∃ k : Nat, n = (k : Int) ∧ k ≤ 8 := by
      unfold p_impl_isTested at ht
      rw [within_eq] at ht
      have := of_decide_eq_true ht
      exact ⟨n.toNat, by omega, by omega⟩
    obtain ⟨m, hm, hm5⟩ := dd_pos h
    obtain ⟨e1, e2⟩ := mode_good h hd hm hm5 hk hf
    refine ⟨_, _, e1, e2, ?_⟩
    cases hv : vec (m + 1) k with
    | nil => simp [bestL]
    | cons r l =>
      have h1 : bestL (cv fu x) (r :: l) ∈ vec (m + 1) k := by rw [hv]; exact bestL_mem _ l r
      have := (vec_mem m k _ h1).1
      omega
end
end Go.GA
