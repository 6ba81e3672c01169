/- Plain law of FnLetters: letters of pools. -/
import Derived.Test.YtnomfaepgmbogaaNLb
namespace Go.GA.E
open Go
set_option maxRecDepth 100000
theorem six_row {p : List (List Int)} (hp : Six p) {i : Nat} (hi : i < p.length) : rw6 p i = rowAt p i := by
  unfold rw6 rowAt
  rw [List.getD_eq_getElem?_getD, List.getD_eq_getElem?_getD, List.getElem?_eq_getElem hi]; rfl
theorem row_len {p : List (List Int)} (hp : Six p) {i : Nat} (hi : i < p.length) : (rowAt p i).length = 6 := by
  rw [← six_row hp hi]; exact getD_six hp hi
theorem Lf_len (p : List (List Int)) (hp : Six p) (f : Nat) : (Lf p f).length ≤ p.length * 6 := by
  unfold Lf
  rw [List.length_flatMap]
  have : ∀ l : List Nat, (∀ c ∈ l, c < p.length) → ((l.map fun c => (List.replicate ((rowAt p c).count (f : Int)) (c : Int)).length).sum ≤ l.length * 6) := by
    intro l
    induction l with
    | nil => intro _; simp
    | cons c l ih =>
      intro h
      have h1 := ih (fun x hx => h x (List.mem_cons_of_mem _ hx))
      have h2 := List.count_le_length (a := (f : Int)) (l := rowAt p c)
      rw [row_len hp (h c (by simp))] at h2
      rw [List.map_cons, List.sum_cons, List.length_replicate, List.length_cons, Nat.add_mul]
      omega
  have h := this (List.range p.length) (fun c hc => List.mem_range.1 hc)
  rw [List.length_range] at h
  exact h
/-- one face's letters, put behind -/
theorem face_impl {R : Type} {p : List (List Int)} (hp : Six p) (h4 : p.length ≤ 4) (f : Nat) (K : List Int → Option R) : ∀ (d i : Nat) (s : List Int), d + i = p.length → s.length ≤ 1000 + 6 * i →
    cnt (fun i16 (s15 : (List Int)) c17 _ => (p_slices_Repeat [i16] (p_impl_weight (p.getD i16.toNat (List.replicate 6 0)) (f : Int))).bind (fun r22 => if (s15.length : Int) + (r22.length : Int) ≤ 1000000000 then c17 (s15 ++ r22) else none)) (fun i16 (s15 : (List Int)) => K s15) d (i : Int) s = K (s ++ (List.range' i d).flatMap fun c => List.replicate ((rowAt p c).count (f : Int)) (c : Int))
  | 0, i, s, h, hs => by simp [cnt]
  | d + 1, i, s, h, hs => by
    have hi : i < p.length := by omega
    have h6 := row_len hp hi
    have hc := List.count_le_length (a := (f : Int)) (l := rowAt p i)
    simp only [cnt, Int.toNat_natCast]
    have ew : p_impl_weight (p.getD i (List.replicate 6 0)) (f : Int) = (((rowAt p i).count (f : Int) : Nat) : Int) := by
      have := weight_impl (getD_six hp hi) (f : Int)
      rw [show p.getD i (List.replicate 6 0) = rowAt p i from six_row hp hi] at this ⊢
      exact this
    have er : p_slices_Repeat [(i : Int)] (((rowAt p i).count (f : Int) : Nat) : Int) = some (List.replicate ((rowAt p i).count (f : Int)) (i : Int)) := by
      unfold p_slices_Repeat
      rw [if_pos ⟨rfl, by omega, by omega⟩, Int.toNat_natCast]
      rfl
    rw [ew, er, Option.bind_some, List.length_replicate, if_pos (by omega)]
    have := face_impl hp h4 f K d (i + 1) (s ++ List.replicate ((rowAt p i).count (f : Int)) (i : Int)) (by omega) (by rw [List.length_append, List.length_replicate]; omega)
    rw [List.range'_succ, List.flatMap_cons, ← List.append_assoc]
    exact this
theorem LL_len (p : List (List Int)) (hp : Six p) (h4 : p.length ≤ 4) : ∀ F, (LL p F).length ≤ 24 * F
  | 0 => by simp [LL]
  | F + 1 => by
    have h1 := LL_len p hp h4 F
    have h2 := Lf_len p hp F
    rw [LL_succ, List.length_append]
    omega
theorem faces_impl {p : List (List Int)} (hp : Six p) (h4 : p.length ≤ 4) : ∀ (d i : Nat), d + i = 31 →
    cnt (fun i9 (s8 : (List Int)) c10 _ => cnt (fun i16 (s15 : (List Int)) c17 _ => (p_slices_Repeat [i16] (p_impl_weight (p.getD i16.toNat (List.replicate 6 0)) i9)).bind (fun r22 => if (s15.length : Int) + (r22.length : Int) ≤ 1000000000 then c17 (s15 ++ r22) else none)) (fun i16 (s15 : (List Int)) => c10 s15) (Int.toNat ((p.length : Int) - 0)) 0 s8) (fun i9 (s8 : (List Int)) => some (s8, true)) d (i : Int) (LL p i) = some (LL p 31, true)
  | 0, i, h => by rw [show i = 31 by omega]; rfl
  | d + 1, i, h => by
    have hl := LL_len p hp h4 i
    simp only [cnt]
    have e1 : Int.toNat ((p.length : Int) - 0) = p.length := by omega
    have h0 := face_impl hp h4 i (fun s => cnt (fun i9 (s8 : (List Int)) c10 _ => cnt (fun i16 (s15 : (List Int)) c17 _ => (p_slices_Repeat [i16] (p_impl_weight (p.getD i16.toNat (List.replicate 6 0)) i9)).bind (fun r22 => if (s15.length : Int) + (r22.length : Int) ≤ 1000000000 then c17 (s15 ++ r22) else none)) (fun i16 (s15 : (List Int)) => c10 s15) (Int.toNat ((p.length : Int) - 0)) 0 s8) (fun i9 (s8 : (List Int)) => some (s8, true)) d ((i : Int) + 1) s) p.length 0 (LL p i) (by omega) (by omega)
    rw [e1] at h0 ⊢
    simp only [Int.natCast_zero] at h0
    refine Eq.trans h0 ?_
    have e2 : LL p i ++ (List.range' 0 p.length).flatMap (fun c => List.replicate ((rowAt p c).count (i : Int)) (c : Int)) = LL p (i + 1) := by
      rw [LL_succ, ← List.range_eq_range']; rfl
    rw [e2]
    have := faces_impl hp h4 d (i + 1) (by omega)
    rw [e1] at this
    exact this
theorem add_run {R : Type} (w : Nat) (v : Int) (K : List Int → Option R) : ∀ (d fu : Nat) (k : Nat) (s : List Int), d + k = w → d < fu → s.length + d ≤ 2000 → w ≤ 1000 →
    whl (fun (s23 : Int × (List Int)) c25 => (if s23.1 < ((w : Nat) : Int) then if (s23.2.length : Int) + 1 ≤ 1000000000 then c25 ((IntKind.wrap .i64 (s23.1 + 1)), (s23.2 ++ [v])) else none else K s23.2)) fu ((k : Int), s) = K (s ++ List.replicate d v)
  | 0, fu, k, s, h, hf, hs, hw => by
    obtain ⟨f, rfl⟩ : ∃ f, fu = f + 1 := ⟨fu - 1, by omega⟩
    simp only [whl]
    rw [if_neg (by omega)]
    simp
  | d + 1, fu, k, s, h, hf, hs, hw => by
    obtain ⟨f, rfl⟩ : ∃ f, fu = f + 1 := ⟨fu - 1, by omega⟩
    simp only [whl]
    rw [if_pos (by omega), if_pos (by omega), wrap_i64 (by omega) (by omega), show ((k : Int) + 1) = ((k + 1 : Nat) : Int) by omega, add_run w v K d f (k + 1) _ (by omega) (by omega) (by rw [List.length_append]; simp; omega) hw]
    rw [List.append_assoc, List.replicate_succ]; rfl
theorem face_spec {R : Type} {p : List (List Int)} {fu : Nat} (hp : Six p) (hf : 100 < fu) (h4 : p.length ≤ 4) (f : Nat) (K : List Int → Option R) : ∀ (d i : Nat) (s : List Int), d + i = p.length → s.length ≤ 1000 + 6 * i →
    cnt (fun i17 (s16 : (List Int)) c18 _ => whl (fun (s23 : Int × (List Int)) c25 => (if s23.1 < (p_spec_l8Weight (p.getD i17.toNat (List.replicate 6 0)) (f : Int)) then if (s23.2.length : Int) + 1 ≤ 1000000000 then c25 ((IntKind.wrap .i64 (s23.1 + 1)), (s23.2 ++ [i17])) else none else c18 s23.2)) fu (0, s16)) (fun i17 (s16 : (List Int)) => K s16) d (i : Int) s = K (s ++ (List.range' i d).flatMap fun c => List.replicate ((rowAt p c).count (f : Int)) (c : Int))
  | 0, i, s, h, hs => by simp [cnt]
  | d + 1, i, s, h, hs => by
    have hi : i < p.length := by omega
    have h6 := row_len hp hi
    have hc := List.count_le_length (a := (f : Int)) (l := rowAt p i)
    simp only [cnt, Int.toNat_natCast]
    have ew : p_spec_l8Weight (p.getD i (List.replicate 6 0)) (f : Int) = (((rowAt p i).count (f : Int) : Nat) : Int) := by
      have := weight_spec (getD_six hp hi) (f : Int)
      rw [show p.getD i (List.replicate 6 0) = rowAt p i from six_row hp hi] at this ⊢
      exact this
    rw [ew]
    have h0 := add_run ((rowAt p i).count (f : Int)) (i : Int) (fun s16 => cnt (fun i17 (s16 : (List Int)) c18 _ => whl (fun (s23 : Int × (List Int)) c25 => (if s23.1 < (p_spec_l8Weight (p.getD i17.toNat (List.replicate 6 0)) (f : Int)) then if (s23.2.length : Int) + 1 ≤ 1000000000 then c25 ((IntKind.wrap .i64 (s23.1 + 1)), (s23.2 ++ [i17])) else none else c18 s23.2)) fu (0, s16)) (fun i17 (s16 : (List Int)) => K s16) d ((i : Int) + 1) s16) ((rowAt p i).count (f : Int)) fu 0 s (by omega) (by omega) (by omega) (by omega)
    refine Eq.trans h0 ?_
    have := face_spec hp hf h4 f K d (i + 1) (s ++ List.replicate ((rowAt p i).count (f : Int)) (i : Int)) (by omega) (by rw [List.length_append, List.length_replicate]; omega)
    rw [List.range'_succ, List.flatMap_cons, ← List.append_assoc]
    exact this
theorem faces_spec {p : List (List Int)} {fu : Nat} (hp : Six p) (hf : 100 < fu) (h4 : p.length ≤ 4) : ∀ (d i fu2 : Nat), d + i = 31 → d < fu2 →
    whl (fun (s9 : Int × (List Int)) c11 => (if s9.1 ≤ 30 then cnt (fun i17 (s16 : (List Int)) c18 _ => whl (fun (s23 : Int × (List Int)) c25 => (if s23.1 < (p_spec_l8Weight (p.getD i17.toNat (List.replicate 6 0)) s9.1) then if (s23.2.length : Int) + 1 ≤ 1000000000 then c25 ((IntKind.wrap .i64 (s23.1 + 1)), (s23.2 ++ [i17])) else none else c18 s23.2)) fu (0, s16)) (fun i17 (s16 : (List Int)) => c11 ((s9.1 + 1), s16)) (Int.toNat ((p.length : Int) - 0)) 0 s9.2 else some (s9.2, true))) fu2 ((i : Int), LL p i) = some (LL p 31, true)
  | 0, i, fu2, h, hf2 => by
    obtain ⟨f, rfl⟩ : ∃ f, fu2 = f + 1 := ⟨fu2 - 1, by omega⟩
    simp only [whl]
    rw [if_neg (by omega), show i = 31 by omega]
  | d + 1, i, fu2, h, hf2 => by
    obtain ⟨f, rfl⟩ : ∃ f, fu2 = f + 1 := ⟨fu2 - 1, by omega⟩
    have hl := LL_len p hp h4 i
    simp only [whl]
    rw [if_pos (by omega)]
    have e1 : Int.toNat ((p.length : Int) - 0) = p.length := by omega
    have h0 := face_spec hp hf h4 i (fun s => whl (fun (s9 : Int × (List Int)) c11 => (if s9.1 ≤ 30 then cnt (fun i17 (s16 : (List Int)) c18 _ => whl (fun (s23 : Int × (List Int)) c25 => (if s23.1 < (p_spec_l8Weight (p.getD i17.toNat (List.replicate 6 0)) s9.1) then if (s23.2.length : Int) + 1 ≤ 1000000000 then c25 ((IntKind.wrap .i64 (s23.1 + 1)), (s23.2 ++ [i17])) else none else c18 s23.2)) fu (0, s16)) (fun i17 (s16 : (List Int)) => c11 ((s9.1 + 1), s16)) (Int.toNat ((p.length : Int) - 0)) 0 s9.2 else some (s9.2, true))) f (((i : Int) + 1), s)) p.length 0 (LL p i) (by omega) (by omega)
    rw [e1] at h0 ⊢
    simp only [Int.natCast_zero] at h0
    refine Eq.trans h0 ?_
    have e2 : LL p i ++ (List.range' 0 p.length).flatMap (fun c => List.replicate ((rowAt p c).count (i : Int)) (c : Int)) = LL p (i + 1) := by
      rw [LL_succ, ← List.range_eq_range']; rfl
    rw [e2]
    have := faces_spec hp hf h4 d (i + 1) f (by omega) (by omega)
    rw [e1] at this
    exact this
theorem lettersOf_eq {p : List (List Int)} {fu : Nat} (hp : Six p) (hf : 100 < fu) : p_impl_LettersOf fu p = some (if (p_impl_IsPool p && !tied p) = true then (LL p 31, true) else ([], false)) ∧ p_spec_LettersOf fu p = some (if (p_impl_IsPool p && !tied p) = true then (LL p 31, true) else ([], false)) := by
  unfold p_impl_LettersOf p_spec_LettersOf
  rw [tieless_impl, pool_eq hp, Option.bind_some, tieless_spec fu hp]
  simp only [Option.isSome_some, implies_true, if_true, Option.getD_some, Bool.not_not]
  by_cases h : (p_impl_IsPool p && !tied p) = true
  · rw [if_pos h]
    simp only [Bool.and_eq_true, Bool.not_eq_true'] at h
    rw [h.1, h.2]
    have h4 : p.length ≤ 4 := (pool_len h.1).2
    have e0 : LL p 0 = [] := rfl
    have h1 := faces_impl hp h4 31 0 (by omega)
    have h2 := faces_spec hp hf h4 31 0 fu (by omega) (by omega)
    rw [e0] at h1 h2
    exact ⟨h1, h2⟩
  · rw [if_neg h]
    have : ((!p_impl_IsPool p) || tied p) = true := by
      cases h1 : p_impl_IsPool p <;> cases h2 : tied p <;> simp_all
    rw [this]
    exact ⟨rfl, rfl⟩
end Go.GA.E
