/- Plain law of FnKept: every outcome, counted. -/
import Derived.Test.YtddljmnmkiofmaaVK7
namespace Go.GA
open Go
set_option maxRecDepth 100000
theorem snocD (l : List (List Int)) : l = [] ∨ ∃ L b, l = L ++ [b] := by
  rcases List.eq_nil_or_concat l with h | ⟨L, b, h⟩
  · exact .inl h
  · exact .inr ⟨L, b, by rw [h, List.concat_eq_append]⟩
/-! ### outcomes -/
def rollR : List (List Int) → Nat → List Int
  | [], _ => []
  | d :: q, N => rollR q (N / 6) ++ [d.getD (N % 6) 0]
def rollF (p : List (List Int)) (N : Nat) : List Int := rollR p.reverse N
theorem rollF_snoc (p : List (List Int)) (d : List Int) (N : Nat) : rollF (p ++ [d]) N = rollF p (N / 6) ++ [d.getD (N % 6) 0] := by
  unfold rollF
  rw [List.reverse_append]
  rfl
theorem rollR_len : ∀ (q : List (List Int)) (N : Nat), (rollR q N).length = q.length
  | [], _ => rfl
  | d :: q, N => by simp [rollR, rollR_len q]
theorem rollF_len (p : List (List Int)) (N : Nat) : (rollF p N).length = p.length := by
  unfold rollF; rw [rollR_len, List.length_reverse]
theorem die6_get {d : List Int} (h : Die6 d) {k : Nat} (hk : k < 6) : 0 ≤ d.getD k 0 ∧ d.getD k 0 ≤ 30 := by
  obtain ⟨a, b, c, e, f, g, rfl, h⟩ := h
  rcases (by omega : k = 0 ∨ k = 1 ∨ k = 2 ∨ k = 3 ∨ k = 4 ∨ k = 5) with r | r | r | r | r | r <;> subst r <;> simp <;> omega
theorem rollR_fc : ∀ (q : List (List Int)) (N : Nat), (∀ d ∈ q, Die6 d) → Fc (rollR q N)
  | [], _, _ => fun a ha => by cases ha
  | d :: q, N, h => fun a ha => by
    rcases List.mem_append.1 ha with h1 | h1
    · exact rollR_fc q _ (fun d hd => h d (by simp [hd])) a h1
    · have : a = d.getD (N % 6) 0 := by simpa using h1
      rw [this]
      exact die6_get (h d (by simp)) (Nat.mod_lt _ (by omega))
theorem rollF_fc {p : List (List Int)} (h : ∀ d ∈ p, Die6 d) (N : Nat) : Fc (rollF p N) := rollR_fc _ _ (fun d hd => h d (List.mem_reverse.1 hd))
def rB (x0 : List (List Int)) : Int × Int × (List Int) → (Int × Int × (List Int) → Option (List Int)) → Option (List Int) := fun (s2 : Int × Int × (List Int)) c4 => (if 0 ≤ s2.2.1 then if 0 ≤ (s2.1.tmod 6) then if (s2.1.tmod 6) < 6 then c4 ((IntKind.wrap .i64 (s2.1.tdiv 6)), (s2.2.1 - 1), (s2.2.2.set s2.2.1.toNat ((x0.getD s2.2.1.toNat (List.replicate 6 0)).getD (s2.1.tmod 6).toNat 0))) else none else none else some s2.2.2)
theorem rollAt_run : ∀ (d : Nat) (P Z : List (List Int)) (n : Nat) (R : List Int), P.length < d → n ≤ 1000000 → whl (rB (P ++ Z)) d ((n : Int), (P.length : Int) - 1, List.replicate P.length 0 ++ R) = some (rollF P n ++ R)
  | 0, _, _, _, _, h, _ => by omega
  | d + 1, P, Z, n, R, h, hn => by
    have ih := rollAt_run d
    rw [show ∀ z, whl (rB (P ++ Z)) (d + 1) z = rB (P ++ Z) z (whl (rB (P ++ Z)) d) from fun _ => rfl]
    rcases snocD P with rfl | ⟨P', e, rfl⟩
    · unfold rB
      simp only
      rw [if_neg (by simp)]
      rfl
    · have ih := ih P' ([e] ++ Z) (n / 6) (e.getD (n % 6) 0 :: R) (by simp at h; omega) (by omega)
      rw [← List.append_assoc] at ih
      generalize whl (rB (P' ++ [e] ++ Z)) d = W at ih
      unfold rB
      have el : (P' ++ [e]).length = P'.length + 1 := by simp
      rw [el]
      have et : ((P'.length + 1 : Nat) : Int) - 1 = (P'.length : Int) := by omega
      rw [et]
      simp only [Int.toNat_natCast]
      have em : Int.tmod (n : Int) 6 = ((n % 6 : Nat) : Int) := rfl
      have ed : Int.tdiv (n : Int) 6 = ((n / 6 : Nat) : Int) := rfl
      rw [em, ed, Int.toNat_natCast, wr (by omega) (by omega), if_pos (by omega), if_pos (by omega), if_pos (by omega)]
      have eg : (P' ++ [e] ++ Z).getD P'.length (List.replicate 6 0) = e := by
        rw [List.append_assoc, List.getD_eq_getElem?_getD, List.getElem?_append_right (Nat.le_refl _), Nat.sub_self]; rfl
      have es : (List.replicate (P'.length + 1) (0 : Int) ++ R).set P'.length (e.getD (n % 6) 0) = List.replicate P'.length 0 ++ e.getD (n % 6) 0 :: R := by
        rw [List.replicate_succ', List.append_assoc, List.set_append_right _ _ (by simp), List.length_replicate, Nat.sub_self]
        rfl
      rw [eg, es, ih, rollF_snoc]
      simp
theorem rollAt_eq {fu : Nat} {p : List (List Int)} (hl : p.length ≤ 8) (hf : 64 ≤ fu) {n : Nat} (hn : n ≤ 1000000) : p_impl_rollAt fu p (n : Int) = some (rollF p n) := by
  unfold p_impl_rollAt
  rw [if_pos (by omega)]
  have := rollAt_run fu p [] n [] (by omega) hn
  rw [List.append_nil, List.append_nil, List.append_nil] at this
  rw [Int.toNat_natCast]
  exact this
/-! ### hits -/
end Go.GA
