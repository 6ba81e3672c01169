/- Plain law of FnMade: lists of numbers, and the law. -/
import Derived.Test.YtedakmknjbjlbaaP9d
namespace Go.GA
open Go
set_option maxRecDepth 100000
def bodyLI (n k : Int) (l : List Int) : (Int × Int × List Int) → ((Int × Int × List Int) → Option (List Int × Int × Bool)) → Option (List Int × Int × Bool) := (fun (s20 : Int × Int × (List Int)) c22 => (if s20.1 < (l.length : Int) then if 0 ≤ s20.1 then if s20.1 ≤ (IntKind.wrap .i64 (s20.1 + (if ((l.length : Int) - s20.1) < k then ((l.length : Int) - s20.1) else k))) then if (IntKind.wrap .i64 (s20.1 + (if ((l.length : Int) - s20.1) < k then ((l.length : Int) - s20.1) else k))) ≤ (l.length : Int) then (if ((IntKind.wrap .i64 (s20.1 + (if ((l.length : Int) - s20.1) < k then ((l.length : Int) - s20.1) else k))) - s20.1) < k then some (s20.2.2, s20.2.1, true) else (p_impl_MakeNumber 64 n ((l.take (IntKind.wrap .i64 (s20.1 + (if ((l.length : Int) - s20.1) < k then ((l.length : Int) - s20.1) else k))).toNat).drop s20.1.toNat)).bind (fun r33 => (if r33.2.1 = true then if (s20.2.2.length : Int) + 1 ≤ 1000000000 then c22 ((IntKind.wrap .i64 (s20.1 + k)), s20.2.1, (s20.2.2 ++ [r33.1])) else none else c22 ((IntKind.wrap .i64 (s20.1 + k)), (IntKind.wrap .i64 (s20.2.1 + 1)), s20.2.2)))) else none else none else none else some (s20.2.2, s20.2.1, true)))
def bodyLS (n k : Int) (l : List Int) : (Int × Int × List Int) → ((Int × Int × List Int) → Option (List Int × Int × Bool)) → Option (List Int × Int × Bool) := (fun (s8 : Int × Int × (List Int)) c10 => (if (IntKind.wrap .i64 (s8.2.1 + k)) ≤ (l.length : Int) then if s8.2.1 ≤ (IntKind.wrap .i64 (s8.2.1 + k)) then (p_spec_l9Taken 64 n k).bind (fun r16 => (if (p_spec_l9Number ((l.take (IntKind.wrap .i64 (s8.2.1 + k)).toNat).drop s8.2.1.toNat)) < r16 then if n ≠ 0 then if (s8.2.2.length : Int) + 1 ≤ 1000000000 then c10 (s8.1, (IntKind.wrap .i64 (s8.2.1 + k)), (s8.2.2 ++ [((p_spec_l9Number ((l.take (IntKind.wrap .i64 (s8.2.1 + k)).toNat).drop s8.2.1.toNat)).tmod n)])) else none else none else c10 ((IntKind.wrap .i64 (s8.1 + 1)), (IntKind.wrap .i64 (s8.2.1 + k)), s8.2.2))) else none else some (s8.2.2, s8.1, true)))
def bodyLG (n k kk : Int) (l : List Int) : (Int × Int × List Int) → ((Int × Int × List Int) → Option (List Int × Int × Bool)) → Option (List Int × Int × Bool) := (fun (s20 : Int × Int × (List Int)) c22 => (if s20.1 < (l.length : Int) then if 0 ≤ s20.1 then if s20.1 ≤ (IntKind.wrap .i64 (s20.1 + (if ((l.length : Int) - s20.1) < kk then ((l.length : Int) - s20.1) else kk))) then if (IntKind.wrap .i64 (s20.1 + (if ((l.length : Int) - s20.1) < kk then ((l.length : Int) - s20.1) else kk))) ≤ (l.length : Int) then (if ((IntKind.wrap .i64 (s20.1 + (if ((l.length : Int) - s20.1) < kk then ((l.length : Int) - s20.1) else kk))) - s20.1) < k then some (s20.2.2, s20.2.1, true) else (p_impl_MakeNumber 64 n ((l.take (IntKind.wrap .i64 (s20.1 + (if ((l.length : Int) - s20.1) < kk then ((l.length : Int) - s20.1) else kk))).toNat).drop s20.1.toNat)).bind (fun r33 => (if r33.2.1 = true then if (s20.2.2.length : Int) + 1 ≤ 1000000000 then c22 ((IntKind.wrap .i64 (s20.1 + kk)), s20.2.1, (s20.2.2 ++ [r33.1])) else none else c22 ((IntKind.wrap .i64 (s20.1 + kk)), (IntKind.wrap .i64 (s20.2.1 + 1)), s20.2.2)))) else none else none else none else some (s20.2.2, s20.2.1, true)))
theorem okT_sub {l : List Int} (h : okT l = true) (a b : Nat) : okT ((l.take a).drop b) = true := by
  unfold okT at h ⊢
  rw [List.all_eq_true] at h ⊢
  intro x hx
  exact h x (List.mem_of_mem_take (List.mem_of_mem_drop hx))
theorem list_run {n k : Int} (hn : n ∈ SZ) (hk : k ∈ ([0, 1, 2, 3, 4, 5, 6, 7] : List Int)) (hg : p_impl_isMade 64 n k = some true) {t : Int} (k1 : 1 ≤ k) (k2 : k ≤ 6) (k3 : 1 ≤ n) (k4 : p_impl_taken 64 n k = some t) (k5 : p_spec_l9Taken 64 n k = some t) (k6 : p_spec_l9Good 64 n k = some true)
    {l : List Int} (ho : okT l = true) (hl : l.length ≤ 41) : ∀ (d : Nat) (i rej : Int) (acc : List Int), 0 ≤ i → i ≤ (l.length : Int) → (l.length : Int) - i < d → 0 ≤ rej → (acc.length : Int) ≤ i → rej ≤ i → i = k * ((acc.length : Int) + rej) → (∀ v ∈ acc, 0 ≤ v ∧ v < n) →
    ∃ (acc' : List Int) (rej' : Int), whl (bodyLI n k l) d (i, rej, acc) = some (acc', rej', true) ∧ whl (bodyLS n k l) d (rej, i, acc) = some (acc', rej', true) ∧ 0 ≤ rej' ∧ rej' ≤ 41 ∧ acc'.length ≤ 41 ∧ k * ((acc'.length : Int) + rej') ≤ (l.length : Int) ∧ (l.length : Int) < k * ((acc'.length : Int) + rej') + k ∧ (∀ v ∈ acc', 0 ≤ v ∧ v < n)
  | 0, _, _, _, h0, h1, h2, _, _, _, _, _ => by omega
  | d + 1, i, rej, acc, h0, h1, h2, h3, h4, h5, h6, h7 => by
    have s1 : whl (bodyLI n k l) (d + 1) (i, rej, acc) = bodyLI n k l (i, rej, acc) (whl (bodyLI n k l) d) := rfl
    have s2 : whl (bodyLS n k l) (d + 1) (rej, i, acc) = bodyLS n k l (rej, i, acc) (whl (bodyLS n k l) d) := rfl
    have ih := list_run hn hk hg k1 k2 k3 k4 k5 k6 ho hl d
    rw [s1, s2]
    generalize whl (bodyLI n k l) d = W1 at ih
    generalize whl (bodyLS n k l) d = W2 at ih
    unfold bodyLI bodyLS
    simp only
    have ek : IntKind.wrap .i64 (i + k) = i + k := wr (by omega) (by omega)
    rw [ek]
    by_cases hfull : i + k ≤ (l.length : Int)
    · rw [if_pos (show i < (l.length : Int) by omega), if_pos h0]
      have hmin : (if ((l.length : Int) - i) < k then ((l.length : Int) - i) else k) = k := if_neg (by omega)
      rw [hmin, ek, if_pos (show i ≤ i + k by omega), if_pos hfull, if_neg (show ¬ (i + k) - i < k by omega), if_pos hfull, if_pos (show i ≤ i + k by omega), k5, Option.bind_some, number_eq]
      have hlen : ((((l.take (i + k).toNat).drop i.toNat).length : Nat) : Int) = k := by
        rw [List.length_drop, List.length_take]; omega
      generalize hch : (l.take (i + k).toNat).drop i.toNat = ch at hlen
      have hoc : okT ch = true := hch ▸ okT_sub ho _ _
      obtain ⟨m1, _⟩ := make_ok (n := n) (l := ch) (b := true) (t := t) hn (by rw [hlen]; exact hg) (by rw [hlen]; exact k6) (by rw [hlen]; exact ⟨k1, k2, k3, k4, k5⟩) (by rw [hoc]; rfl)
      have hge := number_ge hoc (by omega)
      have e1 : k * ((acc.length : Int) + rej + 1) = k * ((acc.length : Int) + rej) + k := by rw [Int.mul_add, Int.mul_one]
      rw [m1, Option.bind_some]
      by_cases hc : t ≤ p_impl_numberOf ch
      · rw [if_pos hc]
        simp only [Bool.false_eq_true, if_false]
        rw [if_neg (show ¬ p_impl_numberOf ch < t by omega), wr (n := rej + 1) (by omega) (by omega)]
        exact ih (i + k) (rej + 1) acc (by omega) hfull (by omega) (by omega) (by omega) (by omega) (by rw [show (acc.length : Int) + (rej + 1) = (acc.length : Int) + rej + 1 by omega, e1]; omega) h7
      · rw [if_neg hc]
        simp only [if_true]
        have hac : (acc.length : Int) + 1 ≤ 1000000000 := by omega
        rw [if_pos (show p_impl_numberOf ch < t by omega), if_pos (show n ≠ 0 by omega), if_pos hac, if_pos hac]
        have hv : 0 ≤ (p_impl_numberOf ch).tmod n ∧ (p_impl_numberOf ch).tmod n < n := by
          rw [Int.tmod_eq_emod_of_nonneg hge]
          exact ⟨Int.emod_nonneg _ (by omega), Int.emod_lt_of_pos _ (by omega)⟩
        have hla : ((acc ++ [(p_impl_numberOf ch).tmod n]).length : Int) = (acc.length : Int) + 1 := by simp
        refine ih (i + k) rej (acc ++ [(p_impl_numberOf ch).tmod n]) (by omega) hfull (by omega) h3 (by omega) (by omega) (by rw [hla, show (acc.length : Int) + 1 + rej = (acc.length : Int) + rej + 1 by omega, e1]; omega) (fun v hv' => ?_)
        rcases List.mem_append.1 hv' with h | h
        · exact h7 v h
        · have : v = (p_impl_numberOf ch).tmod n := by simpa using h
          rw [this]; exact hv
    · rw [if_neg hfull]
      have g1 : rej ≤ 41 := by omega
      have g2 : acc.length ≤ 41 := by omega
      have g3 : k * ((acc.length : Int) + rej) ≤ (l.length : Int) := by rw [← h6]; exact h1
      have g4 : (l.length : Int) < k * ((acc.length : Int) + rej) + k := by rw [← h6]; omega
      refine ⟨acc, rej, ?_, rfl, h3, g1, g2, g3, g4, h7⟩
      by_cases hi : i < (l.length : Int)
      · have hmin : (if ((l.length : Int) - i) < k then ((l.length : Int) - i) else k) = (l.length : Int) - i := if_pos (by omega)
        have e2 : IntKind.wrap .i64 (i + ((l.length : Int) - i)) = (l.length : Int) := by rw [wr (by omega) (by omega)]; omega
        rw [if_pos hi, if_pos h0, hmin, e2, if_pos h1, if_pos (Int.le_refl _), if_pos (by omega)]
      · rw [if_neg hi]
theorem list_ok {n k : Int} (hn : n ∈ SZ) (hk : k ∈ ([0, 1, 2, 3, 4, 5, 6, 7] : List Int)) {l : List Int} (hl : l.length ≤ 41) : ∃ (acc : List Int) (rej : Int) (ok : Bool), p_impl_MakeList 64 n k l = some (acc, rej, ok) ∧ p_spec_MakeList 64 n k l = some (acc, rej, ok) ∧
    (ok = true → 0 ≤ rej ∧ rej ≤ 41 ∧ acc.length ≤ 41 ∧ 1 ≤ k ∧ k ≤ 6 ∧ k * ((acc.length : Int) + rej) ≤ (l.length : Int) ∧ (l.length : Int) < k * ((acc.length : Int) + rej) + k ∧ (∀ v ∈ acc, 0 ≤ v ∧ v < n)) := by
  obtain ⟨b, e1, e2, hb⟩ := part1 hn hk
  have ei : p_impl_MakeList 64 n k l = (if (((!b) || (!(decide ((l.length : Int) ≤ 40)))) || (!(okT l))) = true then some ([], 0, false) else (p_slices_Chunk_int_int l k).bind (fun r19 => whl (bodyLG n k r19.2 r19.1) 64 (0, 0, []))) := by
    unfold p_impl_MakeList
    rw [e1, Option.bind_some, areThrows_eq]
    rfl
  have es : p_spec_MakeList 64 n k l = (if ((!b) || (!(okT l && decide ((l.length : Int) ≤ 40)))) = true then some ([], 0, false) else whl (bodyLS n k l) 64 (0, 0, [])) := by
    unfold p_spec_MakeList
    rw [e2, Option.bind_some, l9T]
    rfl
  have ec : (((!b) || (!(decide ((l.length : Int) ≤ 40)))) || (!(okT l))) = ((!b) || (!(okT l && decide ((l.length : Int) ≤ 40)))) := by
    cases b <;> cases okT l <;> cases decide ((l.length : Int) ≤ 40) <;> rfl
  rw [ei, es, ec]
  by_cases hc : ((!b) || (!(okT l && decide ((l.length : Int) ≤ 40)))) = true
  · rw [if_pos hc, if_pos hc]
    exact ⟨[], 0, false, rfl, rfl, fun h => by cases h⟩
  · rw [if_neg hc, if_neg hc]
    simp only [Bool.or_eq_true, Bool.not_eq_true', not_or, Bool.not_eq_false, Bool.and_eq_true] at hc
    obtain ⟨hb1, ho, _⟩ := hc
    subst hb1
    obtain ⟨k1, k2, k3, t, k4, k5⟩ := hb rfl
    have hch : p_slices_Chunk_int_int l k = some (l, k) := by unfold p_slices_Chunk_int_int; rw [if_neg (by omega)]
    rw [hch, Option.bind_some]
    have eG : bodyLG n k (l, k).2 (l, k).1 = bodyLI n k l := rfl
    rw [eG]
    obtain ⟨acc, rej, r1, r2, r3, r4, r5, r6, r7, r8⟩ := list_run hn hk e1 k1 k2 k3 k4 k5 e2 ho hl 64 0 0 [] (by omega) (by omega) (by omega) (by omega) (by simp) (by omega) (by simp) (fun v hv => by cases hv)
    exact ⟨acc, rej, true, r1, r2, fun _ => ⟨r3, r4, r5, k1, k2, r6, r7, r8⟩⟩
end Go.GA
