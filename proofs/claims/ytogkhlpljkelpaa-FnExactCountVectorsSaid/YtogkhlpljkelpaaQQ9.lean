/- Plain law of FnExactCountVectors. -/
import Derived.Test.YtogkhlpljkelpaaQQb
namespace Go.GA
open Go
set_option maxRecDepth 100000
theorem marks1_up (n : Nat) : ∀ (k : Int), marks1 n k = upL n k := by
  induction n with
  | zero => intro k; rfl
  | succ n ih =>
    intro k
    have h := ih (k + 1)
    unfold marks1 at h ⊢
    rw [List.range_succ_eq_map, List.map_cons, List.map_map, upL, ← h]
    congr 1
    · simp
    · apply List.map_congr_left
      intro i _
      simp only [Function.comp_apply]
      omega
theorem eqSS_self (x : List (List Int)) : p_laws_eqIntSS x x = true := by
  unfold p_laws_eqIntSS
  rw [if_pos rfl]
  have key : ∀ (d : Nat) (i : Int), cnt (fun i5 (s4 : Unit) c6 _ => (if (p_laws_eqIntS (x.getD i5.toNat []) (x.getD i5.toNat [])) = true then c6 () else false)) (fun i5 (s4 : Unit) => true) d i () = true := by
    intro d
    induction d with
    | zero => intro i; rfl
    | succ d ih =>
      intro i
      simp only [cnt]
      rw [if_pos (by rw [eqIntS_eq]; simp), ih]
  exact key _ _
theorem held2 (xs : List (List Int)) (k : Int) (hk : 0 ≤ k) (hl : k + total2 xs ≤ 9223372036854775807) : p_laws_heldIntSS (marks2 xs k) k = k + total2 xs := by
  unfold p_laws_heldIntSS
  have key : ∀ (post pre : List (List Int)) (k : Int), 0 ≤ k → k + total2 post ≤ 9223372036854775807 →
      cnt (fun i2 (s1 : Int) c3 _ => (if (p_laws_heldIntS ((pre ++ marks2 post k).getD i2.toNat []) s1) < 0 then (-1) else c3 (p_laws_heldIntS ((pre ++ marks2 post k).getD i2.toNat []) s1))) (fun i2 (s1 : Int) => s1) post.length (pre.length : Int) k = k + total2 post := by
    intro post
    induction post with
    | nil => intro pre k h0 h1; simp [cnt, total2]
    | cons x post ih =>
      intro pre k h0 h1
      rw [total2] at h1 ⊢
      have ht := total2_nn post
      simp only [List.length_cons, cnt, Int.toNat_natCast]
      have e : (pre ++ marks2 (x :: post) k).getD pre.length [] = upL x.length k := by simp [marks2, marks1_up, List.getD_eq_getElem?_getD]
      rw [e, held_eq _ _ h0 (by omega), if_neg (by omega)]
      have := ih (pre ++ [marks1 x.length k]) (k + (x.length : Int)) (by omega) (by omega)
      simp only [List.length_append, List.length_cons, List.length_nil, List.append_assoc, List.cons_append, List.nil_append] at this
      rw [show (pre.length : Int) + 1 = ((pre.length + (0 + 1) : Nat) : Int) by omega, marks2]
      refine Eq.trans this ?_
      omega
  have := key xs [] k hk hl
  rw [marks2_len]
  simpa using this
theorem total2_bound {b : Nat} : ∀ (xs : List (List Int)), (∀ x ∈ xs, x.length ≤ b) → total2 xs ≤ (xs.length : Int) * (b : Int)
  | [], _ => by simp [total2]
  | x :: xs, h => by
    have h1 := total2_bound xs (fun y hy => h y (List.mem_cons_of_mem _ hy))
    have h2 := h x (by simp)
    rw [total2, List.length_cons, show ((xs.length + 1 : Nat) : Int) = (xs.length : Int) + 1 by omega, Int.add_mul, Int.one_mul]
    omega
theorem vec_total {m n : Nat} (hm : m ≤ 5) (hn : n ≤ 8) : (vec (m + 1) n).length ≤ 1000000000 ∧ total2 (vec (m + 1) n) ≤ 1000000000 := by
  have h1 := vec_len m n
  have h2 : (n + 1) ^ m ≤ 9 ^ 5 := Nat.le_trans (Nat.pow_le_pow_left (by omega) m) (Nat.pow_le_pow_right (by omega) hm)
  have e5 : 9 ^ 5 = 59049 := by decide
  have h3 := total2_bound (b := 6) (vec (m + 1) n) (fun r hr => by have := (vec_mem m n r hr).1; omega)
  omega
section
variable {x : List Int} {fu : Nat}
theorem spec_tested (h : x.length = 6) (n : Int) : p_spec_l11Tested x n = some (p_impl_IsDie x && p_impl_isTested n) := by
  unfold p_spec_l11Tested p_impl_isTested
  rw [l2Die_eq h, within_In]; rfl
theorem vects (h : x.length = 6) (n : Int) (hf : 1000 ≤ fu) : ∃ v q, p_impl_CountVectors fu x n = some (v, q) ∧ p_spec_CountVectors fu x n = some (v, q) ∧ v.length ≤ 1000000000 ∧ total2 v ≤ 1000000000 := by
  by_cases hb : ((!(p_impl_IsDie x)) || (!(p_impl_isTested n))) = true
  · refine ⟨[], false, ?_, ?_, by simp, by simp [total2]⟩
    · unfold p_impl_CountVectors; rw [if_pos hb]
    · have hb2 : ¬ (p_impl_IsDie x && p_impl_isTested n) = true := by
        intro he
        simp only [Bool.and_eq_true] at he
        rw [he.1, he.2] at hb
        cases hb
      unfold p_spec_CountVectors; rw [spec_tested h, Option.bind_some, if_neg hb2]
  · have hd : p_impl_IsDie x = true := by
      cases hq : p_impl_IsDie x with
      | true => rfl
      | false => rw [hq] at hb; simp at hb
    have ht : p_impl_isTested n = true := by
      cases hq : p_impl_isTested n with
      | true => rfl
      | false => rw [hq] at hb; simp at hb
    obtain ⟨k, rfl, hk⟩ : ∃ k : Nat, n = (k : Int) ∧ k ≤ 8 := by
      unfold p_impl_isTested at ht
      rw [within_eq] at ht
      have := of_decide_eq_true ht
      exact ⟨n.toNat, by omega, by omega⟩
    obtain ⟨m, hm, hm5⟩ := dd_pos h
    obtain ⟨b1, b2⟩ := vec_total hm5 hk
    refine ⟨vec (m + 1) k, true, ?_, ?_, b1, b2⟩
    · unfold p_impl_CountVectors
      rw [if_neg hb, numbers_impl h, Option.bind_some, hm, vec_impl m k fu hm5 hk (by omega)]
      rfl
    · unfold p_spec_CountVectors
      rw [spec_tested h, hd, ht, Option.bind_some, Bool.and_true, if_pos rfl, numbers_eq h (sorted_of_IsDie h hd), Option.bind_some, hm, vec_spec m k fu hm5 hk (by omega)]
      rfl
end
theorem pure_FnExactCountVectors {a : List Int} {n : Int} (ha : a.length = 6) : ∃ fu, p_laws_FnExactCountVectors fu a n = some true := by
  refine ⟨1000, ?_⟩
  unfold p_laws_FnExactCountVectors
  rw [toIntA6_eq ha]
  obtain ⟨v, q, e1, e2, b1, b2⟩ := vects (x := a) ha n (fu := 1000) (by omega)
  have ht := total2_nn v
  have hh := held2 v 1 (by omega) (by omega)
  rw [e1, e2, Option.bind_some, Option.bind_some, Option.bind_some]
  dsimp only
  rw [eqSS_self, hh, if_neg (by simp), if_pos ⟨b1, b2⟩, if_neg (by omega), if_pos rfl, if_neg (by simp), if_neg (by omega), if_pos rfl]
end Go.GA
