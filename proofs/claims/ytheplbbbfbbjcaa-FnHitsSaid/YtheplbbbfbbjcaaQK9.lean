/- Plain law of FnHits: the table made die by die. -/
import Derived.Test.YtheplbbbfbbjcaaQK8
namespace Go.GA
open Go
set_option maxRecDepth 100000
def more (b : Int) (d : List Int) (c : Nat) : List Nat := d.map (fun f => c + if b ≤ f then 1 else 0)
theorem hits_snoc (b : Int) (l : List Int) (x : Int) : hitsOf b (l ++ [x]) = hitsOf b l + if b ≤ x then 1 else 0 := by
  unfold hitsOf
  rw [List.countP_append, List.countP_singleton]
  simp
theorem hits_le (b : Int) (l : List Int) : hitsOf b l ≤ l.length := List.countP_le_length
theorem csN_snoc (b : Int) (p : List (List Int)) {d : List Int} (hd : Die6 d) : ∀ n, csN b (p ++ [d]) (6 * n) = (csN b p n).flatMap (more b d)
  | 0 => rfl
  | n + 1 => by
    have ih := csN_snoc b p hd n
    rw [csN_succ, List.flatMap_append, ← ih]
    have e : ∀ k, k < 6 → hitsOf b (rollF (p ++ [d]) (6 * n + k)) = hitsOf b (rollF p n) + if b ≤ d.getD k 0 then 1 else 0 := fun k hk => by
      rw [rollF_snoc, hits_snoc, show (6 * n + k) / 6 = n by omega, show (6 * n + k) % 6 = k by omega]
    have e0 := e 0 (by omega)
    have e1 := e 1 (by omega)
    have e2 := e 2 (by omega)
    have e3 := e 3 (by omega)
    have e4 := e 4 (by omega)
    have e5 := e 5 (by omega)
    obtain ⟨a, b', c, e, f, g, rfl, h⟩ := hd
    rw [show 6 * (n + 1) = 6 * n + 1 + 1 + 1 + 1 + 1 + 1 by omega, csN_succ, csN_succ, csN_succ, csN_succ, csN_succ, csN_succ]
    rw [show 6 * n + 1 + 1 = 6 * n + 2 by omega, show 6 * n + 2 + 1 = 6 * n + 3 by omega, show 6 * n + 3 + 1 = 6 * n + 4 by omega, show 6 * n + 4 + 1 = 6 * n + 5 by omega]
    rw [e1, e2, e3, e4, e5]
    rw [show 6 * n = 6 * n + 0 from rfl, e0]
    simp [more]
theorem more_count (b : Int) (x c : Nat) : ∀ d : List Int, (more b d x).count c = (if x = c then d.length - hitsOf b d else 0) + (if x + 1 = c then hitsOf b d else 0)
  | [] => by simp [more, hitsOf]
  | f :: d => by
    have ih := more_count b x c d
    have hl := hits_le b d
    unfold more hitsOf at *
    rw [List.map_cons, List.count_cons, List.countP_cons, ih, List.length_cons]
    by_cases hb : b ≤ f
    · by_cases h1 : x + 1 = c
      · have h2 : ¬ x = c := by omega
        simp [hb, h1, h2]
      · by_cases h2 : x = c
        · have : ¬ (c + 1 = c) := by omega
          simp [hb, h2]
        · simp [hb, h1, h2]
    · by_cases h1 : x = c
      · simp [hb, h1]; omega
      · simp [hb, h1]
theorem flat_count (b : Int) {d : List Int} (hd : d.length = 6) (c : Nat) : ∀ L : List Nat, (L.flatMap (more b d)).count c = L.count c * (6 - hitsOf b d) + (if c = 0 then 0 else L.count (c - 1) * hitsOf b d)
  | [] => by simp
  | x :: L => by
    rw [List.flatMap_cons, List.count_append, more_count, flat_count b hd c L, hd, List.count_cons, List.count_cons]
    generalize hitsOf b d = h
    generalize L.count c = u
    generalize L.count (c - 1) = v
    by_cases hc : c = 0
    · subst hc
      by_cases h1 : x = 0
      · simp [h1, Nat.add_mul]; omega
      · simp [h1]
    · by_cases h1 : x = c
      · have h2 : ¬ (c = c - 1) := by omega
        have h3 : ¬ (c + 1 = c) := by omega
        simp [h1, h2, hc, Nat.add_mul]; omega
      · by_cases h2 : x + 1 = c
        · have h3 : x = c - 1 := by omega
          have h4 : ¬ (c - 1 = c) := by omega
          have h5 : c - 1 + 1 = c := by omega
          simp [h3, h4, h5, hc, Nat.add_mul]; omega
        · have h3 : ¬ (x = c - 1) := by omega
          simp [h1, h2, h3, hc]
theorem csF_snoc (b : Int) (p : List (List Int)) {d : List Int} (hd : Die6 d) : csF b (p ++ [d]) = (csF b p).flatMap (more b d) := by
  unfold csF
  rw [List.length_append, List.length_singleton, Nat.pow_succ, Nat.mul_comm]
  exact csN_snoc b p hd _
theorem die6_len {d : List Int} (h : Die6 d) : d.length = 6 := by
  obtain ⟨a, b, c, e, f, g, rfl, h⟩ := h; rfl
theorem csF_count (b : Int) (p : List (List Int)) {d : List Int} (hd : Die6 d) (c : Nat) : (csF b (p ++ [d])).count c = (csF b p).count c * (6 - hitsOf b d) + (if c = 0 then 0 else (csF b p).count (c - 1) * hitsOf b d) := by
  rw [csF_snoc b p hd, flat_count b (die6_len hd)]
theorem csF_none (b : Int) (p : List (List Int)) {c : Nat} (hc : p.length < c) : (csF b p).count c = 0 := by
  refine List.count_eq_zero.2 fun h => ?_
  obtain ⟨N, _, e⟩ := List.mem_map.1 h
  have := hits_le b (rollF p N)
  rw [rollF_len] at this
  omega
/-! ### the program's table -/
def lB {R : Type} (s1 : List Int) (h i : Int) (K : List Int → Option R) (bad : Option R) : Int × List Int → (Int × List Int → Option R) → Option R := fun (s18 : Int × (List Int)) c20 => (if s18.1 ≤ i then if s18.1 < 5 then if (s18.1 + 1) < 5 then c20 ((s18.1 + 1), ((s18.2.set s18.1.toNat (IntKind.wrap .i64 ((s18.2.getD s18.1.toNat 0) + (IntKind.wrap .i64 ((s1.getD s18.1.toNat 0) * (IntKind.wrap .i64 (6 - h))))))).set (s18.1 + 1).toNat (IntKind.wrap .i64 (((s18.2.set s18.1.toNat (IntKind.wrap .i64 ((s18.2.getD s18.1.toNat 0) + (IntKind.wrap .i64 ((s1.getD s18.1.toNat 0) * (IntKind.wrap .i64 (6 - h))))))).getD (s18.1 + 1).toNat 0) + (IntKind.wrap .i64 ((s1.getD s18.1.toNat 0) * h)))))) else bad else bad else K s18.2)
def nxs (a0 a1 a2 a3 h g : Nat) : Nat → List Int
  | 0 => [0, 0, 0, 0, 0]
  | 1 => [((a0 * g : Nat) : Int), ((a0 * h : Nat) : Int), 0, 0, 0]
  | 2 => [((a0 * g : Nat) : Int), ((a0 * h + a1 * g : Nat) : Int), ((a1 * h : Nat) : Int), 0, 0]
  | 3 => [((a0 * g : Nat) : Int), ((a0 * h + a1 * g : Nat) : Int), ((a1 * h + a2 * g : Nat) : Int), ((a2 * h : Nat) : Int), 0]
  | _ => [((a0 * g : Nat) : Int), ((a0 * h + a1 * g : Nat) : Int), ((a1 * h + a2 * g : Nat) : Int), ((a2 * h + a3 * g : Nat) : Int), ((a3 * h : Nat) : Int)]
theorem mul_small {a g : Nat} (ha : a ≤ 100000) (hg : g ≤ 6) : a * g ≤ 600000 := Nat.mul_le_mul ha hg
theorem lB_step {R : Type} {a0 a1 a2 a3 a4 h g : Nat} (h0 : a0 ≤ 100000) (h1 : a1 ≤ 100000) (h2 : a2 ≤ 100000) (h3 : a3 ≤ 100000) (hh : h ≤ 6) (hg : g ≤ 6) (hgh : g + h = 6) (K : List Int → Option R) (bad : Option R) {i : Int} {c n : Nat} (hc : c ≤ 3) (hi : (c : Int) ≤ i) :
    whl (lB [(a0 : Int), (a1 : Int), (a2 : Int), (a3 : Int), (a4 : Int)] (h : Int) i K bad) (n + 1) ((c : Int), nxs a0 a1 a2 a3 h g c) = whl (lB [(a0 : Int), (a1 : Int), (a2 : Int), (a3 : Int), (a4 : Int)] (h : Int) i K bad) n (((c + 1 : Nat) : Int), nxs a0 a1 a2 a3 h g (c + 1)) := by
  rw [show ∀ z, whl (lB [(a0 : Int), (a1 : Int), (a2 : Int), (a3 : Int), (a4 : Int)] (h : Int) i K bad) (n + 1) z = lB [(a0 : Int), (a1 : Int), (a2 : Int), (a3 : Int), (a4 : Int)] (h : Int) i K bad z (whl (lB [(a0 : Int), (a1 : Int), (a2 : Int), (a3 : Int), (a4 : Int)] (h : Int) i K bad) n) from fun _ => rfl]
  generalize whl (lB [(a0 : Int), (a1 : Int), (a2 : Int), (a3 : Int), (a4 : Int)] (h : Int) i K bad) n = W
  unfold lB
  simp only
  rw [if_pos hi, if_pos (by omega), if_pos (by omega)]
  have m0 := mul_small h0 hg
  have m1 := mul_small h1 hg
  have m2 := mul_small h2 hg
  have m3 := mul_small h3 hg
  have k0 := mul_small h0 hh
  have k1 := mul_small h1 hh
  have k2 := mul_small h2 hh
  have k3 := mul_small h3 hh
  have eg : IntKind.wrap .i64 (6 - (h : Int)) = (g : Int) := by rw [wr (by omega) (by omega)]; omega
  rw [eg]
  have ec : (c : Int) + 1 = ((c + 1 : Nat) : Int) := rfl
  rw [ec, Int.toNat_natCast, Int.toNat_natCast]
  congr 1
  congr 1
  have w : ∀ a b : Nat, a * b ≤ 600000 → IntKind.wrap .i64 ((a : Int) * (b : Int)) = ((a * b : Nat) : Int) := fun a b hab => by
    rw [← Int.natCast_mul]; exact wrap_nat (by omega)
  have w0 : ∀ a : Nat, a ≤ 600000 → IntKind.wrap .i64 (0 + (a : Int)) = (a : Int) := fun a ha => by rw [Int.zero_add]; exact wrap_nat (by omega)
  have w2 : ∀ a b : Nat, a ≤ 600000 → b ≤ 600000 → IntKind.wrap .i64 ((a : Int) + (b : Int)) = ((a + b : Nat) : Int) := fun a b ha hb => by
    rw [← Int.natCast_add]; exact wrap_nat (by omega)
  rcases (by omega : c = 0 ∨ c = 1 ∨ c = 2 ∨ c = 3) with r | r | r | r <;> subst r <;> simp only [nxs, List.getD_cons_zero, List.getD_cons_succ, List.set_cons_zero, List.set_cons_succ, Nat.reduceAdd]
  · rw [w _ _ m0, w _ _ k0, w0 _ m0, w0 _ k0]
  · rw [w _ _ m1, w _ _ k1, w2 _ _ k0 m1, w0 _ k1]
  · rw [w _ _ m2, w _ _ k2, w2 _ _ k1 m2, w0 _ k2]
  · rw [w _ _ m3, w _ _ k3, w2 _ _ k2 m3, w0 _ k3]
theorem lB_end {R : Type} {s1 : List Int} {h i : Int} (K : List Int → Option R) (bad : Option R) {c n : Nat} {T : List Int} (hi : ¬ (c : Int) ≤ i) : whl (lB s1 h i K bad) (n + 1) ((c : Int), T) = K T := by
  show lB s1 h i K bad ((c : Int), T) _ = _
  unfold lB
  simp only
  rw [if_neg hi]
theorem lB_run {R : Type} {a0 a1 a2 a3 a4 h g : Nat} (h0 : a0 ≤ 100000) (h1 : a1 ≤ 100000) (h2 : a2 ≤ 100000) (h3 : a3 ≤ 100000) (hh : h ≤ 6) (hg : g ≤ 6) (hgh : g + h = 6) (K : List Int → Option R) (bad : Option R) {i fu : Nat} (hi : i ≤ 3) (hf : 64 ≤ fu) :
    whl (lB [(a0 : Int), (a1 : Int), (a2 : Int), (a3 : Int), (a4 : Int)] (h : Int) (i : Int) K bad) fu (0, List.replicate 5 0) = K (nxs a0 a1 a2 a3 h g (i + 1)) := by
  obtain ⟨f, rfl⟩ : ∃ f, fu = f + 5 := ⟨fu - 5, by omega⟩
  have e0 : ((0 : Int), List.replicate 5 (0 : Int)) = (((0 : Nat) : Int), nxs a0 a1 a2 a3 h g 0) := rfl
  rw [e0]
  have st := fun (c n : Nat) (hc : c ≤ 3) (hi' : (c : Int) ≤ (i : Int)) => lB_step (a4 := a4) h0 h1 h2 h3 hh hg hgh K bad (n := n) hc hi'
  rcases (by omega : i = 0 ∨ i = 1 ∨ i = 2 ∨ i = 3) with r | r | r | r <;> subst r
  · rw [st 0 (f + 4) (by omega) (by omega), lB_end K bad (by omega)]
  · rw [st 0 (f + 4) (by omega) (by omega), st 1 (f + 3) (by omega) (by omega), lB_end K bad (by omega)]
  · rw [st 0 (f + 4) (by omega) (by omega), st 1 (f + 3) (by omega) (by omega), st 2 (f + 2) (by omega) (by omega), lB_end K bad (by omega)]
  · rw [st 0 (f + 4) (by omega) (by omega), st 1 (f + 3) (by omega) (by omega), st 2 (f + 2) (by omega) (by omega), st 3 (f + 1) (by omega) (by omega), lB_end K bad (by omega)]
theorem nxs_tab (b : Int) (p : List (List Int)) {d : List Int} (hd : Die6 d) (hl : p.length ≤ 3) : nxs ((csF b p).count 0) ((csF b p).count 1) ((csF b p).count 2) ((csF b p).count 3) (hitsOf b d) (6 - hitsOf b d) (p.length + 1) = tab (csF b (p ++ [d])) := by
  unfold tab
  rw [csF_count b p hd, csF_count b p hd, csF_count b p hd, csF_count b p hd, csF_count b p hd]
  have z := fun c (hc : p.length < c) => csF_none b p hc
  rcases (by omega : p.length = 0 ∨ p.length = 1 ∨ p.length = 2 ∨ p.length = 3) with r | r | r | r <;> rw [r] at z ⊢
  · rw [z 1 (by omega), z 2 (by omega), z 3 (by omega), z 4 (by omega)]
    simp [nxs]
  · rw [z 2 (by omega), z 3 (by omega), z 4 (by omega)]
    simp [nxs, Int.add_comm]
  · rw [z 3 (by omega), z 4 (by omega)]
    simp [nxs, Int.add_comm]
  · rw [z 4 (by omega)]
    simp [nxs, Int.add_comm]
theorem l4Hits_eq {fu : Nat} (hf : 64 ≤ fu) {p : List (List Int)} (hl : p.length ≤ 4) (hd : ∀ d ∈ p, Die6 d) (b : Int) : p_spec_l4Hits fu p b = some (tab (csF b p)) := by
  unfold p_spec_l4Hits
  refine cnt_ind0 p.length (fun i s => s = tab (csF b (p.take i))) (fun r => r = some (tab (csF b p))) (by omega) ?_ (fun s hs => ?_) (fun i s1 c3 hi hI hc => ?_)
  · rfl
  · rw [hs, List.take_length]
  · have hdi : Die6 (p.getD i (List.replicate 6 0)) := by
      rw [List.getD_eq_getElem?_getD, List.getElem?_eq_getElem hi]
      exact hd _ (List.getElem_mem _)
    have et : p.take (i + 1) = p.take i ++ [p.getD i (List.replicate 6 0)] := by
      rw [List.take_add_one, List.getD_eq_getElem?_getD, List.getElem?_eq_getElem hi]; rfl
    rw [Int.toNat_natCast]
    generalize p.getD i (List.replicate 6 0) = d at hdi et
    have hlt : (p.take i).length = i := by rw [List.length_take]; omega
    have hbd : ∀ c, (csF b (p.take i)).count c ≤ 100000 := fun c => by
      refine Nat.le_trans List.count_le_length ?_
      unfold csF
      rw [csN_len, hlt]
      exact Nat.le_trans (Nat.pow_le_pow_right (n := 6) (by omega) (by omega : i ≤ 4)) (by omega)
    rw [cnt_list (fun (a : Int) (s : Int) (c : Int → Option (List Int)) => if b ≤ a then c (IntKind.wrap .i64 (s + 1)) else c s) d 0 (by rw [die6_len hdi]; rfl) (fun _ _ _ _ _ => rfl)]
    have hr := hits_lrun (R := Option (List Int)) b (fun s8 => whl (lB s1 s8 (i : Int) c3 none) fu (0, (List.replicate 5 0))) d 0 (by rw [die6_len hdi]; omega)
    have hh := hits_le b d
    rw [die6_len hdi] at hh
    have key : whl (lB s1 ((0 + hitsOf b d : Nat) : Int) (i : Int) c3 none) fu (0, (List.replicate 5 0)) = some (tab (csF b p)) := by
      rw [hI, Nat.zero_add]
      unfold tab
      rw [lB_run (g := 6 - hitsOf b d) (hbd 0) (hbd 1) (hbd 2) (hbd 3) hh (by omega) (by omega) c3 none (by omega) hf]
      refine hc _ ?_
      rw [et, ← nxs_tab b (p.take i) hdi (by omega), hlt]
    exact hr.trans key
end Go.GA
