/- Marks, turned to the names of DoTask. -/
import Derived.Test.YtbfjbbfekodohaaYKb
namespace Go.GA
open Go
set_option maxRecDepth 100000
/-! ### Marks in rows of dice -/
def upM : Nat → Int → List (List Int)
  | 0, _ => []
  | n + 1, k => upL 6 k :: upM n (k + 6)
theorem upM_len : ∀ (n : Nat) (k : Int), (upM n k).length = n
  | 0, _ => rfl
  | n + 1, k => by simp [upM, upM_len n (k + 6)]
theorem mark_row {R : Type} (i : Nat) (K : Int × List (List Int) → R) : ∀ (d : Nat) (pre post : List Int) (s : List (List Int)) (k : Int), post.length = d → i < s.length → s.getD i (List.replicate 6 0) = pre ++ post → 0 ≤ k → k + d ≤ 9223372036854775807 →
    cnt (fun i9 (s8 : Int × (List (List Int))) c10 _ => c10 ((IntKind.wrap .i64 (s8.1 + 1)), (s8.2.set i ((s8.2.getD i (List.replicate 6 0)).set i9.toNat s8.1)))) (fun i9 (s8 : Int × (List (List Int))) => K (s8.1, s8.2)) d (pre.length : Int) (k, s) = K (k + d, s.set i (pre ++ upL d k))
  | 0, pre, post, s, k, h, hi, he, h0, h1 => by
    obtain rfl := List.eq_nil_of_length_eq_zero h
    have e : s.set i (pre ++ upL 0 k) = s := by
      rw [show pre ++ upL 0 k = s.getD i (List.replicate 6 0) by rw [he]; rfl, List.getD_eq_getElem?_getD, List.getElem?_eq_getElem hi]
      simp
    simp only [cnt]
    rw [e]; simp
  | d + 1, pre, post, s, k, h, hi, he, h0, h1 => by
    match post, h with
    | p :: post, h =>
      simp only [cnt]
      rw [Int.toNat_natCast, he, List.set_append_right _ _ (Nat.le_refl _), wrap_i64 (by omega) (by omega)]
      simp only [Nat.sub_self, List.set_cons_zero]
      have := mark_row i K d (pre ++ [k]) post (s.set i (pre ++ k :: post)) (k + 1) (by simpa using h) (by rw [List.length_set]; exact hi) (by
        rw [List.getD_eq_getElem?_getD, List.getElem?_set_self (by exact hi)]; simp) (by omega) (by omega)
      simp only [List.length_append, List.length_cons, List.length_nil, List.append_assoc, List.cons_append, List.nil_append, List.set_set] at this
      rw [show (pre.length : Int) + 1 = ((pre.length + (0 + 1) : Nat) : Int) by omega, this]
      simp only [upL]
      rw [show k + 1 + (d : Int) = k + ((d + 1 : Nat) : Int) by omega]
theorem mark6_eq (x : List (List Int)) (hx : Six x) (k : Int) (hk : 0 ≤ k) (hl : k + 6 * (x.length : Int) ≤ 9223372036854775807) : p_laws_markIntA6S x k = (k + 6 * x.length, upM x.length k) := by
  unfold p_laws_markIntA6S
  have key : ∀ (d : Nat) (pre post : List (List Int)) (k : Int), post.length = d → Six post → 0 ≤ k → k + 6 * d ≤ 9223372036854775807 →
      cnt (fun i2 (s1 : Int × (List (List Int))) c3 _ => cnt (fun i9 (s8 : Int × (List (List Int))) c10 _ => c10 ((IntKind.wrap .i64 (s8.1 + 1)), (s8.2.set i2.toNat ((s8.2.getD i2.toNat (List.replicate 6 0)).set i9.toNat s8.1)))) (fun i9 (s8 : Int × (List (List Int))) => c3 (s8.1, s8.2)) (Int.toNat (6 - 0)) 0 (s1.1, s1.2)) (fun i2 (s1 : Int × (List (List Int))) => (s1.1, s1.2)) d (pre.length : Int) (k, pre ++ post) = (k + 6 * d, pre ++ upM d k) := by
    intro d
    induction d with
    | zero => intro pre post k hd hs h0 h1; obtain rfl := List.eq_nil_of_length_eq_zero hd; simp [cnt, upM]
    | succ d ih =>
      intro pre post k hd hs h0 h1
      match post, hd with
      | p :: post, hd =>
        have hp : p.length = 6 := hs p (by simp)
        simp only [cnt, Int.toNat_natCast]
        have h6 : Int.toNat (6 - 0) = 6 := rfl
        have hm := mark_row (R := Int × List (List Int)) pre.length (fun s8 => cnt (fun i2 (s1 : Int × (List (List Int))) c3 _ => cnt (fun i9 (s8 : Int × (List (List Int))) c10 _ => c10 ((IntKind.wrap .i64 (s8.1 + 1)), (s8.2.set i2.toNat ((s8.2.getD i2.toNat (List.replicate 6 0)).set i9.toNat s8.1)))) (fun i9 (s8 : Int × (List (List Int))) => c3 (s8.1, s8.2)) (Int.toNat (6 - 0)) 0 (s1.1, s1.2)) (fun i2 (s1 : Int × (List (List Int))) => (s1.1, s1.2)) d ((pre.length : Int) + 1) s8) 6 [] p (pre ++ p :: post) k hp (by simp) (by simp [List.getD_eq_getElem?_getD]) h0 (by omega)
        refine Eq.trans hm ?_
        rw [List.nil_append, List.set_append_right _ _ (Nat.le_refl _)]
        simp only [Nat.sub_self, List.set_cons_zero]
        have := ih (pre ++ [upL 6 k]) post (k + 6) (by simpa using hd) (fun e he => hs e (by simp [he])) (by omega) (by omega)
        simp only [List.length_append, List.length_cons, List.length_nil, List.append_assoc, List.cons_append, List.nil_append] at this
        rw [show (pre.length : Int) + 1 = ((pre.length + (0 + 1) : Nat) : Int) by omega]
        refine Eq.trans this ?_
        simp only [upM, Prod.mk.injEq, and_true]; omega
  have := key x.length [] x k rfl hx hk hl
  simpa using this
theorem held_row {R : Type} (u : R) (K : Int → R) (X : List Int) : ∀ (d : Nat) (pre : List Int) (k : Int), X = pre ++ upL d k → 0 ≤ k → k + d ≤ 9223372036854775807 →
    cnt (fun i9 (s8 : Int) c10 _ => (if (X.getD i9.toNat 0) = s8 then c10 (IntKind.wrap .i64 (s8 + 1)) else u)) (fun i9 (s8 : Int) => K s8) d (pre.length : Int) k = K (k + d)
  | 0, pre, k, hX, h0, h1 => by simp [cnt]
  | d + 1, pre, k, hX, h0, h1 => by
    simp only [cnt, Int.toNat_natCast]
    have e : X.getD pre.length 0 = k := by rw [hX]; simp [upL, List.getD_eq_getElem?_getD]
    rw [if_pos e, wrap_i64 (by omega) (by omega)]
    have := held_row u K X d (pre ++ [k]) (k + 1) (by rw [hX]; simp [upL]) (by omega) (by omega)
    simp only [List.length_append, List.length_cons, List.length_nil] at this
    rw [show (pre.length : Int) + 1 = ((pre.length + (0 + 1) : Nat) : Int) by omega, this]
    congr 1; omega
theorem held6_eq (n : Nat) (k : Int) (hk : 0 ≤ k) (hl : k + 6 * (n : Int) ≤ 9223372036854775807) : p_laws_heldIntA6S (upM n k) k = k + 6 * n := by
  unfold p_laws_heldIntA6S
  have key : ∀ (d : Nat) (pre : List (List Int)) (k : Int), 0 ≤ k → k + 6 * d ≤ 9223372036854775807 →
      cnt (fun i2 (s1 : Int) c3 _ => cnt (fun i9 (s8 : Int) c10 _ => (if (((pre ++ upM d k).getD i2.toNat (List.replicate 6 0)).getD i9.toNat 0) = s8 then c10 (IntKind.wrap .i64 (s8 + 1)) else (-1))) (fun i9 (s8 : Int) => c3 s8) (Int.toNat (6 - 0)) 0 s1) (fun i2 (s1 : Int) => s1) d (pre.length : Int) k = k + 6 * d := by
    intro d
    induction d with
    | zero => intro pre k h0 h1; simp [cnt]
    | succ d ih =>
      intro pre k h0 h1
      simp only [cnt, Int.toNat_natCast]
      have e : (pre ++ upM (d + 1) k).getD pre.length (List.replicate 6 0) = [] ++ upL 6 k := by simp [upM, List.getD_eq_getElem?_getD]
      refine Eq.trans (held_row (-1) (fun s8 => cnt (fun i2 (s1 : Int) c3 _ => cnt (fun i9 (s8 : Int) c10 _ => (if (((pre ++ upM (d + 1) k).getD i2.toNat (List.replicate 6 0)).getD i9.toNat 0) = s8 then c10 (IntKind.wrap .i64 (s8 + 1)) else (-1))) (fun i9 (s8 : Int) => c3 s8) (Int.toNat (6 - 0)) 0 s1) (fun i2 (s1 : Int) => s1) d ((pre.length : Int) + 1) s8) ((pre ++ upM (d + 1) k).getD pre.length (List.replicate 6 0)) 6 [] k e h0 (by omega)) ?_
      have := ih (pre ++ [upL 6 k]) (k + 6) (by omega) (by omega)
      simp only [List.length_append, List.length_cons, List.length_nil, List.append_assoc, List.cons_append, List.nil_append] at this
      rw [show (pre.length : Int) + 1 = ((pre.length + (0 + 1) : Nat) : Int) by omega]
      refine Eq.trans this ?_
      omega
  have := key n [] k hk hl
  simp only [upM_len, Int.sub_zero, Int.toNat_natCast]
  simpa using this
/-- what was marked in a tavern is held -/
theorem heldTav (p : List (List Int)) (l : List Int) (a b c d : Int) (hp : Six p) (h1 : p.length ≤ 1000000000) (h2 : l.length ≤ 1000000000) :
    p_laws_heldTavern ((p_laws_markTavern p a l b c d 1).2.1, (a, ((p_laws_markTavern p a l b c d 1).2.2, (b, (c, (d, ())))))) 1 = 1 + 6 * p.length + l.length ∧ (p_laws_markTavern p a l b c d 1).1 = 1 + 6 * p.length + l.length := by
  unfold p_laws_heldTavern p_laws_markTavern
  rw [mark6_eq p hp 1 (by omega) (by omega)]
  simp only
  rw [mark_eq l (1 + 6 * (p.length : Int)) (by omega) (by omega)]
  simp only
  rw [held6_eq p.length 1 (by omega) (by omega), if_neg (by omega), held_eq l.length (1 + 6 * (p.length : Int)) (by omega) (by omega), if_neg (by omega)]
  refine ⟨?_, ?_⟩ <;> first | rfl | trivial
end Go.GA
