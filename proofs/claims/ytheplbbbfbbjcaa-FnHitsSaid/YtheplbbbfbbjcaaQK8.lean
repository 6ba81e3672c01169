/- Plain law of FnHits: every outcome, counted. -/
import Derived.Test.YtheplbbbfbbjcaaQK7
namespace Go.GA
open Go
set_option maxRecDepth 100000
theorem snocD (l : List (List Int)) : l = [] ∨ ∃ L b, l = L ++ [b] := by
  rcases List.eq_nil_or_concat l with h | ⟨L, b, h⟩
  · exact .inl h
  · exact .inr ⟨L, b, by rw [h, List.concat_eq_append]⟩
/-! ### outcomes -/
def rollR : List (List Int) → Nat → List Int
  | [], _ => []
  | d :: q, N => rollR q (N / 6) ++ [d.getD (N % 6) 0]
def rollF (p : List (List Int)) (N : Nat) : List Int := rollR p.reverse N
theorem rollF_snoc (p : List (List Int)) (d : List Int) (N : Nat) : rollF (p ++ [d]) N = rollF p (N / 6) ++ [d.getD (N % 6) 0] := by
  unfold rollF
  rw [List.reverse_append]
  rfl
theorem rollR_len : ∀ (q : List (List Int)) (N : Nat), (rollR q N).length = q.length
  | [], _ => rfl
  | d :: q, N => by simp [rollR, rollR_len q]
theorem rollF_len (p : List (List Int)) (N : Nat) : (rollF p N).length = p.length := by
  unfold rollF; rw [rollR_len, List.length_reverse]
theorem die6_get {d : List Int} (h : Die6 d) {k : Nat} (hk : k < 6) : 0 ≤ d.getD k 0 ∧ d.getD k 0 ≤ 30 := by
  obtain ⟨a, b, c, e, f, g, rfl, h⟩ := h
  rcases (by omega : k = 0 ∨ k = 1 ∨ k = 2 ∨ k = 3 ∨ k = 4 ∨ k = 5) with r | r | r | r | r | r <;> subst r <;> simp <;> omega
theorem rollR_fc : ∀ (q : List (List Int)) (N : Nat), (∀ d ∈ q, Die6 d) → Fc (rollR q N)
  | [], _, _ => fun a ha => by cases ha
  | d :: q, N, h => fun a ha => by
    rcases List.mem_append.1 ha with h1 | h1
    · exact rollR_fc q _ (fun d hd => h d (by simp [hd])) a h1
    · have : a = d.getD (N % 6) 0 := by simpa using h1
      rw [this]
      exact die6_get (h d (by simp)) (Nat.mod_lt _ (by omega))
theorem rollF_fc {p : List (List Int)} (h : ∀ d ∈ p, Die6 d) (N : Nat) : Fc (rollF p N) := rollR_fc _ _ (fun d hd => h d (List.mem_reverse.1 hd))
def rB (x0 : List (List Int)) : Int × Int × (List Int) → (Int × Int × (List Int) → Option (List Int)) → Option (List Int) := fun (s2 : Int × Int × (List Int)) c4 => (if 0 ≤ s2.2.1 then if 0 ≤ (s2.1.tmod 6) then if (s2.1.tmod 6) < 6 then c4 ((IntKind.wrap .i64 (s2.1.tdiv 6)), (s2.2.1 - 1), (s2.2.2.set s2.2.1.toNat ((x0.getD s2.2.1.toNat (List.replicate 6 0)).getD (s2.1.tmod 6).toNat 0))) else none else none else some s2.2.2)
theorem rollAt_run : ∀ (d : Nat) (P Z : List (List Int)) (n : Nat) (R : List Int), P.length < d → n ≤ 1000000 → whl (rB (P ++ Z)) d ((n : Int), (P.length : Int) - 1, List.replicate P.length 0 ++ R) = some (rollF P n ++ R)
  | 0, _, _, _, _, h, _ => by omega
  | d + 1, P, Z, n, R, h, hn => by
    have ih := rollAt_run d
    rw [show ∀ z, whl (rB (P ++ Z)) (d + 1) z = rB (P ++ Z) z (whl (rB (P ++ Z)) d) from fun _ => rfl]
    rcases snocD P with rfl | ⟨P', e, rfl⟩
    · unfold rB
      simp only
      rw [if_neg (by simp)]
      rfl
    · have ih := ih P' ([e] ++ Z) (n / 6) (e.getD (n % 6) 0 :: R) (by simp at h; omega) (by omega)
      rw [← List.append_assoc] at ih
      generalize whl (rB (P' ++ [e] ++ Z)) d = W at ih
      unfold rB
      have el : (P' ++ [e]).length = P'.length + 1 := by simp
      rw [el]
      have et : ((P'.length + 1 : Nat) : Int) - 1 = (P'.length : Int) := by omega
      rw [et]
      simp only [Int.toNat_natCast]
      have em : Int.tmod (n : Int) 6 = ((n % 6 : Nat) : Int) := rfl
      have ed : Int.tdiv (n : Int) 6 = ((n / 6 : Nat) : Int) := rfl
      rw [em, ed, Int.toNat_natCast, wr (by omega) (by omega), if_pos (by omega), if_pos (by omega), if_pos (by omega)]
      have eg : (P' ++ [e] ++ Z).getD P'.length (List.replicate 6 0) = e := by
        rw [List.append_assoc, List.getD_eq_getElem?_getD, List.getElem?_append_right (Nat.le_refl _), Nat.sub_self]; rfl
      have es : (List.replicate (P'.length + 1) (0 : Int) ++ R).set P'.length (e.getD (n % 6) 0) = List.replicate P'.length 0 ++ e.getD (n % 6) 0 :: R := by
        rw [List.replicate_succ', List.append_assoc, List.set_append_right _ _ (by simp), List.length_replicate, Nat.sub_self]
        rfl
      rw [eg, es, ih, rollF_snoc]
      simp
theorem rollAt_eq {fu : Nat} {p : List (List Int)} (hl : p.length ≤ 8) (hf : 64 ≤ fu) {n : Nat} (hn : n ≤ 1000000) : p_impl_rollAt fu p (n : Int) = some (rollF p n) := by
  unfold p_impl_rollAt
  rw [if_pos (by omega)]
  have := rollAt_run fu p [] n [] (by omega) hn
  rw [List.append_nil, List.append_nil, List.append_nil] at this
  rw [Int.toNat_natCast]
  exact this
/-! ### hits -/
def hitsOf (b : Int) (l : List Int) : Nat := l.countP (fun f => decide (b ≤ f))
def tab (cs : List Nat) : List Int := [(cs.count 0 : Int), (cs.count 1 : Int), (cs.count 2 : Int), (cs.count 3 : Int), (cs.count 4 : Int)]
theorem tab_snoc (cs : List Nat) (c : Nat) (hc : c < 5) : tab (cs ++ [c]) = (tab cs).set c ((tab cs).getD c 0 + 1) := by
  rcases (by omega : c = 0 ∨ c = 1 ∨ c = 2 ∨ c = 3 ∨ c = 4) with r | r | r | r | r <;> subst r <;> simp [tab, List.count_append, List.count_cons]
theorem tab_get (cs : List Nat) (c : Nat) (hc : c < 5) : (tab cs).getD c 0 = (cs.count c : Int) := by
  rcases (by omega : c = 0 ∨ c = 1 ∨ c = 2 ∨ c = 3 ∨ c = 4) with r | r | r | r | r <;> subst r <;> rfl
theorem hits_lrun {R : Type} (b : Int) (k : Int → R) : ∀ (l : List Int) (s : Nat), s + l.length ≤ 1000 → lrun (fun a s c => if b ≤ a then c (IntKind.wrap .i64 (s + 1)) else c s) k l (s : Int) = k ((s + hitsOf b l : Nat) : Int)
  | [], s, _ => rfl
  | a :: l, s, h => by
    simp only [List.length_cons] at h
    show (if b ≤ a then lrun _ k l (IntKind.wrap .i64 ((s : Int) + 1)) else lrun _ k l (s : Int)) = _
    unfold hitsOf
    rw [List.countP_cons]
    by_cases hc : b ≤ a
    · rw [if_pos hc, wr (by omega) (by omega), show (s : Int) + 1 = ((s + 1 : Nat) : Int) from rfl, hits_lrun b k l (s + 1) (by omega), if_pos (by simpa using hc)]
      unfold hitsOf
      congr 1; omega
    · rw [if_neg hc, hits_lrun b k l s (by omega), if_neg (by simpa using hc)]
      rfl
theorem hits1_eq {l : List Int} {b : Int} {cs : List Nat} (hl : l.length ≤ 4) (hcs : cs.length ≤ 100000) : p_impl_hits_1 l b (tab cs) = some (tab (cs ++ [hitsOf b l])) := by
  unfold p_impl_hits_1
  rw [cnt_list (fun (a : Int) (s : Int) (c : Int → Option (List Int)) => if b ≤ a then c (IntKind.wrap .i64 (s + 1)) else c s) l 0 (by omega) (fun _ _ _ _ _ => rfl)]
  have := hits_lrun (R := Option (List Int)) b (fun (s1 : Int) => if 0 ≤ s1 then if s1 < 5 then some ((tab cs).set s1.toNat (IntKind.wrap .i64 (((tab cs).getD s1.toNat 0) + 1))) else none else none) l 0 (by omega)
  rw [show ((0 : Nat) : Int) = 0 from rfl] at this
  rw [this, Nat.zero_add]
  have hh : hitsOf b l ≤ 4 := Nat.le_trans (List.countP_le_length) hl
  have hc : cs.count (hitsOf b l) ≤ 100000 := Nat.le_trans List.count_le_length hcs
  rw [if_pos (by omega), if_pos (by omega), Int.toNat_natCast, tab_snoc _ _ (by omega), tab_get _ _ (by omega), wr (by omega) (by omega)]
/-- the hits of each outcome -/
def csN (b : Int) (p : List (List Int)) (n : Nat) : List Nat := (List.range n).map (fun N => hitsOf b (rollF p N))
def csF (b : Int) (p : List (List Int)) : List Nat := csN b p (6 ^ p.length)
theorem csN_succ (b : Int) (p : List (List Int)) (n : Nat) : csN b p (n + 1) = csN b p n ++ [hitsOf b (rollF p n)] := by
  unfold csN; rw [List.range_succ, List.map_append]; rfl
theorem csN_len (b : Int) (p : List (List Int)) (n : Nat) : (csN b p n).length = n := by simp [csN]
def roB (fu : Nat) (x0 : List (List Int)) (x1 r1 : Int) : Int × List Int → (Int × List Int → Option (List Int)) → Option (List Int) := fun (s2 : Int × (List Int)) c4 => (if s2.1 < r1 then (p_impl_rollAt fu x0 s2.1).bind (fun r9 => (p_slices_SortFunc_int_int fu r9).bind (fun r11 => (p_impl_hits_1 r11 x1 s2.2).bind (fun r12 => c4 ((IntKind.wrap .i64 (s2.1 + 1)), r12)))) else some s2.2)
theorem rolls_run {fu : Nat} (hf : 64 ≤ fu) {p : List (List Int)} (hl : p.length ≤ 4) (hd : ∀ d ∈ p, Die6 d) (b : Int) {M : Nat} (hM : M ≤ 10000) : ∀ (d n : Nat), M - n < d → n ≤ M → whl (roB fu p b (M : Int)) d ((n : Int), tab (csN b p n)) = some (tab (csN b p M))
  | 0, _, h, _ => by omega
  | d + 1, n, h, hn => by
    have ih := rolls_run hf hl hd b hM d
    rw [show ∀ z, whl (roB fu p b (M : Int)) (d + 1) z = roB fu p b (M : Int) z (whl (roB fu p b (M : Int)) d) from fun _ => rfl]
    generalize whl (roB fu p b (M : Int)) d = W at ih
    unfold roB
    simp only
    by_cases hc : (n : Int) < (M : Int)
    · rw [if_pos hc, rollAt_eq (by omega) hf (by omega), Option.bind_some]
      obtain ⟨r, e, _, r2⟩ := sort_ok hf (l := rollF p n) (by rw [rollF_len]; omega) (rollF_fc hd n)
      rw [e, Option.bind_some, hits1_eq (by rw [r2.length_eq, rollF_len]; omega) (by rw [csN_len]; omega), Option.bind_some]
      rw [show hitsOf b r = hitsOf b (rollF p n) from r2.countP_eq _, ← csN_succ, wr (by omega) (by omega)]
      exact ih (n + 1) (by omega) (by omega)
    · rw [if_neg hc]
      have : n = M := by omega
      rw [this]
theorem hits_eq {fu : Nat} (hf : 10000 ≤ fu) {p : List (List Int)} (hl : p.length ≤ 4) (hd : ∀ d ∈ p, Die6 d) (b : Int) : p_impl_hits fu p b = some (tab (csF b p)) := by
  unfold p_impl_hits p_impl_rolls
  rw [power_eq (by omega) (by omega), Option.bind_some]
  have h6 : 6 ^ p.length ≤ 1296 := Nat.pow_le_pow_right (n := 6) (by omega) hl
  unfold csF
  generalize 6 ^ p.length = M at h6
  have := rolls_run (fu := fu) (by omega) hl hd b (M := M) (by omega) fu 0 (by omega) (by omega)
  have e0 : tab (csN b p 0) = List.replicate 5 0 := rfl
  rw [e0] at this
  have h2 : (whl (roB fu p b (M : Int)) fu (((0 : Nat) : Int), List.replicate 5 0)).bind (fun r1 => some r1) = some (tab (csN b p M)) := by
    rw [this]; rfl
  exact h2
end Go.GA
