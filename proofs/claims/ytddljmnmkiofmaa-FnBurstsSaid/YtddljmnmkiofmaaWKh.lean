/- Plain law of FnBursts: the reference's tables of explosions. -/
import Derived.Test.YtddljmnmkiofmaaWKg
namespace Go.GA.E
open Go
set_option maxRecDepth 100000
def sF {Q : Type} (fu : Nat) (x now : List Int) (i j k : Int) : Int → List Int × List Int → (List Int × List Int → Option Q) → Option Q := fun f s22 c24 => (if (now.getD i.toNat 0) = 0 then c24 (s22.1, s22.2) else (if ((decide (f = (x.getD 5 0))) && (decide (j < k))) = true then if 0 ≤ (IntKind.wrap .i64 (i + f)) then if (IntKind.wrap .i64 (i + f)) < 121 then c24 (s22.1, (s22.2.set (IntKind.wrap .i64 (i + f)).toNat (IntKind.wrap .i64 ((s22.2.getD (IntKind.wrap .i64 (i + f)).toNat 0) + (now.getD i.toNat 0))))) else none else none else if 0 ≤ (IntKind.wrap .i64 (i + f)) then if (IntKind.wrap .i64 (i + f)) < 121 then (p_spec_l2All fu (IntKind.wrap .i64 (k - j))).bind (fun r47 => c24 ((s22.1.set (IntKind.wrap .i64 (i + f)).toNat (IntKind.wrap .i64 ((s22.1.getD (IntKind.wrap .i64 (i + f)).toNat 0) + (IntKind.wrap .i64 ((now.getD i.toNat 0) * r47))))), s22.2)) else none else none))
def tS (top : Int) (b : Bool) (p : Nat) (v : Int) (T : List Int) (f : Int) : List Int := if f = top ∧ b = true then T else addAt T (p + f.toNat) v
def nS (top : Int) (b : Bool) (p : Nat) (c : Int) (N : List Int) (f : Int) : List Int := if f = top ∧ b = true then addAt N (p + f.toNat) c else N
theorem sF_skip {Q : Type} {fu : Nat} {x now : List Int} {i j k : Int} (h0 : now.getD i.toNat 0 = 0) (K : List Int × List Int → Option Q) : ∀ (y : List Int) (s : List Int × List Int), lrun (sF fu x now i j k) K y s = K s
  | [], _ => rfl
  | f :: y, s => by
    rw [lrun.eq_2]
    unfold sF
    rw [if_pos h0]
    exact sF_skip h0 K y s
theorem sF_run {Q : Type} {fu : Nat} {x now : List Int} {p c l : Nat} {j k : Int} {b : Bool} (hc : 0 < c) (hnow : now.getD p 0 = (c : Int)) (hb : decide (j < k) = b) (hk : k - j = (l : Int)) (hl : l ≤ 3) (hf : 100 < fu) (hp : p ≤ 90) (hcl : c * 6 ^ l ≤ 10000) (hc2 : c ≤ 10000) (K : List Int × List Int → Option Q) : ∀ (y T N : List Int), (∀ f ∈ y, 0 ≤ f ∧ f ≤ 30) → T.length = 121 → N.length = 121 → NN T → NN N → T.sum + (y.length : Int) * ((c * 6 ^ l : Nat) : Int) ≤ 1000000 → N.sum + (y.length : Int) * (c : Int) ≤ 1000000 →
    lrun (sF fu x now (p : Int) j k) K y (T, N) = K (y.foldl (tS (x.getD 5 0) b p ((c * 6 ^ l : Nat) : Int)) T, y.foldl (nS (x.getD 5 0) b p (c : Int)) N)
  | [], T, N, _, _, _, _, _, _, _ => rfl
  | a :: y, T, N, hy, hT, hN, nT, nN, bT, bN => by
    have ih := fun T N => sF_run (x := x) hc hnow hb hk hl hf hp hcl hc2 K y T N (fun f hf' => hy f (by simp [hf']))
    have ha := hy a (by simp)
    rw [List.length_cons, Int.natCast_add, Int.add_mul] at bT bN
    have h1 : 0 ≤ (y.length : Int) * ((c * 6 ^ l : Nat) : Int) := Int.mul_nonneg (by omega) (Int.natCast_nonneg _)
    have h2 : 0 ≤ (y.length : Int) * (c : Int) := Int.mul_nonneg (by omega) (by omega)
    have h3 := Int.natCast_nonneg (c * 6 ^ l)
    rw [lrun.eq_2]
    have ew : IntKind.wrap .i64 ((p : Int) + a) = ((p + a.toNat : Nat) : Int) := by rw [wrap_i64 (by omega) (by omega)]; omega
    rw [List.foldl_cons, List.foldl_cons]
    by_cases ht : a = x.getD 5 0 ∧ b = true
    · have e : ∀ W : List Int × List Int → Option Q, sF fu x now (p : Int) j k a (T, N) W = W (T, addAt N (p + a.toNat) (c : Int)) := fun W => by
        unfold sF
        rw [Int.toNat_natCast, hnow, if_neg (by omega), if_pos (by rw [hb, decide_eq_true ht.1, ht.2]; rfl), ew, if_pos (by omega), if_pos (by omega), Int.toNat_natCast, addAt_wrap nN (by omega) (by omega)]
      rw [e]
      have et : tS (x.getD 5 0) b p ((c * 6 ^ l : Nat) : Int) T a = T := by unfold tS; rw [if_pos ht]
      have en : nS (x.getD 5 0) b p (c : Int) N a = addAt N (p + a.toNat) (c : Int) := by unfold nS; rw [if_pos ht]
      rw [et, en]
      exact ih _ _ hT (by rw [addAt_len, hN]) nT (addAt_nn nN (by omega) (by omega)) (by omega) (by rw [addAt_sum (by omega)]; omega)
    · have e : ∀ W : List Int × List Int → Option Q, sF fu x now (p : Int) j k a (T, N) W = W (addAt T (p + a.toNat) ((c * 6 ^ l : Nat) : Int), N) := fun W => by
        unfold sF
        have hm : IntKind.wrap .i64 ((c : Int) * ((6 ^ l : Nat) : Int)) = ((c * 6 ^ l : Nat) : Int) := by
          rw [← Int.natCast_mul]; exact wrap_nat (by omega)
        rw [Int.toNat_natCast, hnow, if_neg (by omega), if_neg (by rw [hb]; simp only [Bool.and_eq_true, decide_eq_true_eq]; exact ht), ew, if_pos (by omega), if_pos (by omega), hk, wrap_i64 (by omega) (by omega), all_power, power_eq l (by omega) (by omega), Option.bind_some, Int.toNat_natCast, hm, addAt_wrap nT h3 (by omega)]
      rw [e]
      have et : tS (x.getD 5 0) b p ((c * 6 ^ l : Nat) : Int) T a = addAt T (p + a.toNat) ((c * 6 ^ l : Nat) : Int) := by unfold tS; rw [if_neg ht]
      have en : nS (x.getD 5 0) b p (c : Int) N a = N := by unfold nS; rw [if_neg ht]
      rw [et, en]
      exact ih _ _ (by rw [addAt_len, hT]) hN (addAt_nn nT h3 (by omega)) nN (by rw [addAt_sum (by omega)]; omega) (by omega)
def oneAt (p c : Nat) : List Int := (List.replicate 121 0).set p (c : Int)
theorem oneAt_get {p c : Nat} (hp : p < 121) (i : Nat) : (oneAt p c).getD i 0 = if i = p then (c : Int) else 0 := by
  unfold oneAt
  by_cases h : i = p
  · subst h
    rw [if_pos rfl, List.getD_eq_getElem?_getD, List.getElem?_set_self (by simpa using hp)]; rfl
  · rw [if_neg h, List.getD_eq_getElem?_getD, List.getElem?_set_ne (Ne.symm h)]
    by_cases hi : i < 121
    · rw [List.getElem?_replicate_of_lt hi]; rfl
    · rw [List.getElem?_eq_none (by simp; omega)]; rfl
theorem rep_get (i : Nat) : (List.replicate 121 (0 : Int)).getD i 0 = 0 := by
  rw [List.getD_eq_getElem?_getD]
  by_cases hi : i < 121
  · rw [List.getElem?_replicate_of_lt hi]; rfl
  · rw [List.getElem?_eq_none (by simp; omega)]; rfl
theorem nn_oneAt {p c : Nat} (hp : p < 121) : NN (oneAt p c) := fun i => by
  rw [oneAt_get hp]; split <;> omega
/-- all that lead on stand at one place -/
theorem n_fold (top : Int) (p c : Nat) (h0 : 0 ≤ top) (hp : p + top.toNat < 121) : ∀ (y : List Int) (v : Nat), y.foldl (nS top true p (c : Int)) (oneAt (p + top.toNat) v) = oneAt (p + top.toNat) (v + c * y.count top)
  | [], v => by simp
  | f :: y, v => by
    rw [List.foldl_cons, List.count_cons]
    unfold nS
    by_cases h : f = top
    · subst h
      rw [if_pos ⟨rfl, rfl⟩]
      have e : addAt (oneAt (p + f.toNat) v) (p + f.toNat) (c : Int) = oneAt (p + f.toNat) (v + c) := by
        unfold addAt
        rw [oneAt_get hp, if_pos rfl]
        unfold oneAt
        rw [List.set_set]; rfl
      rw [e]
      refine (n_fold f p c h0 hp y (v + c)).trans ?_
      simp only [beq_self_eq_true, if_true]
      rw [Nat.mul_succ]
      congr 1; omega
    · rw [if_neg (fun hh => h hh.1)]
      have : (f == top) = false := by simpa using h
      rw [this]
      exact n_fold top p c h0 hp y v
theorem t_lin {φ : List Int → Int} {g : Nat → Int} (L : Lin φ g) (top : Int) (b : Bool) {p : Nat} (v : Int) (hp : p ≤ 90) (y T : List Int) (hy : ∀ f ∈ y, 0 ≤ f ∧ f ≤ 30) (hT : T.length = 121) : (y.foldl (tS top b p v) T).length = 121 ∧ φ (y.foldl (tS top b p v) T) = φ T + (y.map (fun f => if f = top ∧ b = true then 0 else v * g (p + f.toNat))).sum := by
  refine fold_lin (φ := φ) _ _ y T (fun f hf T hT => ?_) hT
  have := hy f hf
  unfold tS
  split
  · exact ⟨hT, by omega⟩
  · exact ⟨by rw [addAt_len, hT], L.add T _ _ hT (by omega)⟩
theorem t_nn (top : Int) (b : Bool) {p : Nat} {v : Int} (hv : 0 ≤ v) (hp : p ≤ 90) : ∀ (y T : List Int), (∀ f ∈ y, 0 ≤ f ∧ f ≤ 30) → T.length = 121 → NN T → NN (y.foldl (tS top b p v) T)
  | [], T, _, _, h => h
  | f :: y, T, hy, hT, hn => by
    have := hy f (by simp)
    rw [List.foldl_cons]
    refine t_nn top b hv hp y _ (fun g hg => hy g (by simp [hg])) ?_ ?_
    · unfold tS; split
      · exact hT
      · rw [addAt_len, hT]
    · unfold tS; split
      · exact hn
      · exact addAt_nn hn hv (by omega)
/-- what is added now, and what leads on -/
theorem split_sum {x : List Int} (top : Int) (g : Nat → Int) (l p c : Nat) : ∀ y : List Int, (y.map (fun f => if f = top ∧ true = true then 0 else ((c * 6 ^ (l + 1) : Nat) : Int) * g (p + f.toNat))).sum + ((c * y.count top : Nat) : Int) * cF x top g l (p + top.toNat) = (c : Int) * (y.map (fun f => if f = top then cF x top g l (p + f.toNat) else ((6 ^ (l + 1) : Nat) : Int) * g (p + f.toNat))).sum
  | [] => by simp
  | f :: y => by
    have ih := split_sum (x := x) top g l p c y
    rw [List.map_cons, List.map_cons, List.sum_cons, List.sum_cons, List.count_cons, Int.mul_add, ← ih]
    by_cases h : f = top
    · subst h
      rw [if_pos ⟨rfl, rfl⟩, if_pos rfl]
      simp only [beq_self_eq_true, if_true]
      rw [Nat.mul_succ, Int.natCast_add, Int.add_mul]
      omega
    · rw [if_neg (fun hh => h hh.1), if_neg h]
      have : (f == top) = false := by simpa using h
      rw [this]
      simp only [Bool.false_eq_true, if_false, Nat.add_zero]
      rw [Int.natCast_mul, Int.mul_assoc]
      omega
def spB (fu : Nat) (x : List Int) (k : Int) : Int × List Int × List Int → (Int × List Int × List Int → Option (List Int × Bool)) → Option (List Int × Bool) := fun (s8 : Int × (List Int) × (List Int)) c10 => (if s8.1 ≤ k then cnt (fun i16 (s15 : (List Int) × (List Int)) c17 _ => cnt (fun i23 (s22 : (List Int) × (List Int)) c24 _ => sF fu x s8.2.1 i16 s8.1 k (x.getD i23.toNat 0) s22 c24) (fun i23 (s22 : (List Int) × (List Int)) => c17 (s22.1, s22.2)) (Int.toNat (6 - 0)) 0 (s15.1, s15.2)) (fun i16 (s15 : (List Int) × (List Int)) => c10 ((IntKind.wrap .i64 (s8.1 + 1)), s15.2, s15.1)) (Int.toNat (121 - 0)) 0 (s8.2.2, (List.replicate 121 0)) else some (s8.2.2, true))
theorem sp_step {x : List Int} (h : x.length = 6) (hx : Fa x) {fu p c l : Nat} {j k : Int} {b : Bool} (hc : 0 < c) (hb : decide (j < k) = b) (hk : k - j = (l : Int)) (hj : 0 ≤ j) (hl : l ≤ 3) (hf : 100 < fu) (hp : p ≤ 90) (hcl : c * 6 ^ l ≤ 10000) (hc2 : c ≤ 10000) {T : List Int} (hT : T.length = 121) (nT : NN T) (bT : T.sum ≤ 100000) (W : Int × List Int × List Int → Option (List Int × Bool)) : spB fu x k (j, oneAt p c, T) W = W (IntKind.wrap .i64 (j + 1), x.foldl (nS (x.getD 5 0) b p (c : Int)) (List.replicate 121 0), x.foldl (tS (x.getD 5 0) b p ((c * 6 ^ l : Nat) : Int)) T) := by
  unfold spB
  simp only
  rw [if_pos (by omega)]
  have hrun := fun (K : List Int × List Int → Option (List Int × Bool)) => sF_run (x := x) (now := oneAt p c) (fu := fu) hc (by rw [oneAt_get (by omega), if_pos rfl]) hb hk hl hf hp hcl hc2 K x T (List.replicate 121 0) hx hT (by simp) nT (fun i => by rw [rep_get]; omega) (by rw [h]; omega) (by
    have : (List.replicate 121 (0 : Int)).sum = 0 := by decide
    rw [h, this]; omega)
  generalize x.foldl (tS (x.getD 5 0) b p ((c * 6 ^ l : Nat) : Int)) T = T' at hrun ⊢
  generalize x.foldl (nS (x.getD 5 0) b p (c : Int)) (List.replicate 121 0) = N' at hrun ⊢
  refine cnt_ind0 121 (fun i st => st = if i ≤ p then (T, List.replicate 121 0) else (T', N')) (fun r => r = W (IntKind.wrap .i64 (j + 1), N', T')) rfl (by rw [if_pos (by omega)]) (fun st hs => by rw [hs, if_neg (by omega)]) (fun i st c17 hi hs hcc => ?_)
  rw [cnt_list (sF fu x (oneAt p c) (i : Int) j k) x 0 (by rw [h]; rfl) (fun _ _ _ _ _ => rfl)]
  by_cases hip : i = p
  · subst hip
    rw [if_pos (Nat.le_refl _)] at hs
    rw [hs]
    refine (hrun (fun s22 => c17 (s22.1, s22.2))).symm ▸ ?_
    exact hcc _ (by rw [if_neg (by omega)])
  · rw [sF_skip (by rw [Int.toNat_natCast, oneAt_get (by omega), if_neg hip])]
    refine hcc _ ?_
    rw [hs]
    by_cases hle : i ≤ p
    · rw [if_pos hle, if_pos (by omega)]
    · rw [if_neg hle, if_neg (by omega)]
theorem sp_run {x : List Int} (h : x.length = 6) (hx : Fa x) (hin : x.getD 5 0 ∈ x) {k fu : Nat} (hk3 : k ≤ 3) (hf : 100 < fu) : ∀ (l j p c : Nat) (T : List Int) (d : Nat), k = j + l → l + 3 < d → 0 < c → p ≤ 30 * j → c * 6 ^ (l + 1) + T.sum.toNat ≤ 10000 → T.length = 121 → NN T → ∃ U, whl (spB fu x (k : Int)) d ((j : Int), oneAt p c, T) = some (U, true) ∧ U.length = 121 ∧ ∀ q, U.getD q 0 = T.getD q 0 + (c : Int) * cF x (x.getD 5 0) (fun j => if q = j then 1 else 0) l p
  | 0, j, p, c, T, d, hk, hd, hc, hp, hcl, hT, nT => by
    obtain ⟨e, rfl⟩ : ∃ e, d = e + 2 := ⟨d - 2, by omega⟩
    have hs0 := sum_nn nT
    rw [show ∀ z, whl (spB fu x (k : Int)) (e + 2) z = spB fu x (k : Int) z (whl (spB fu x (k : Int)) (e + 1)) from fun _ => rfl]
    rw [sp_step h hx (l := 0) (b := false) hc (by rw [decide_eq_false]; omega) (by omega) (by omega) (by omega) hf (by omega) (by omega) (by omega) hT nT (by omega)]
    refine ⟨x.foldl (tS (x.getD 5 0) false p ((c * 6 ^ 0 : Nat) : Int)) T, ?_, ?_, fun q => ?_⟩
    · show spB fu x (k : Int) _ _ = _
      unfold spB
      simp only
      rw [wrap_i64 (by omega) (by omega), if_neg (by omega)]
    · exact (t_lin lin_sum _ _ _ (by omega) x T hx hT).1
    · rw [(t_lin (lin_get q) (x.getD 5 0) false _ (by omega) x T hx hT).2]
      congr 1
      show (x.map (fun f => if f = x.getD 5 0 ∧ false = true then 0 else ((c * 6 ^ 0 : Nat) : Int) * (if q = p + f.toNat then 1 else 0))).sum = (c : Int) * (x.map (fun f => if q = p + f.toNat then 1 else 0)).sum
      have : ∀ y : List Int, (y.map (fun f => if f = x.getD 5 0 ∧ false = true then 0 else ((c * 6 ^ 0 : Nat) : Int) * (if q = p + f.toNat then 1 else 0))).sum = (c : Int) * (y.map (fun (f : Int) => if q = p + f.toNat then (1 : Int) else 0)).sum := fun y => by
        induction y with
        | nil => simp
        | cons f y ih =>
          rw [List.map_cons, List.map_cons, List.sum_cons, List.sum_cons, ih, Int.mul_add]
          simp
      exact this x
  | l + 1, j, p, c, T, d, hk, hd, hc, hp, hcl, hT, nT => by
    obtain ⟨e, rfl⟩ : ∃ e, d = e + 1 := ⟨d - 1, by omega⟩
    have hs0 := sum_nn nT
    have ht := hx _ hin
    have hw : 1 ≤ x.count (x.getD 5 0) := List.count_pos_iff.2 hin
    have hw6 : x.count (x.getD 5 0) ≤ 6 := h ▸ List.count_le_length
    have hpw : c * 6 ^ (l + 1 + 1) = c * 6 ^ (l + 1) * 6 := by rw [Nat.pow_succ, Nat.mul_assoc]
    have h6 : 1 ≤ 6 ^ (l + 1) := Nat.pow_pos (by omega)
    have hcc : c ≤ c * 6 ^ (l + 1) := Nat.le_mul_of_pos_right _ h6
    have hone : ∀ f ∈ x, 0 ≤ f ∧ f ≤ 30 := hx
    rw [show ∀ z, whl (spB fu x (k : Int)) (e + 1) z = spB fu x (k : Int) z (whl (spB fu x (k : Int)) e) from fun _ => rfl]
    rw [sp_step h hx (l := l + 1) (b := true) hc (by rw [decide_eq_true]; omega) (by omega) (by omega) (by omega) hf (by omega) (by omega) (by omega) hT nT (by omega)]
    have en : x.foldl (nS (x.getD 5 0) true p (c : Int)) (List.replicate 121 0) = oneAt (p + (x.getD 5 0).toNat) (c * x.count (x.getD 5 0)) := by
      have e0 : (List.replicate 121 (0 : Int)) = oneAt (p + (x.getD 5 0).toNat) 0 := by
        exact (List.set_replicate_self (a := (0 : Int))).symm
      rw [e0, n_fold _ p c ht.1 (by omega) x 0, Nat.zero_add]
    obtain ⟨t1, t2⟩ := t_lin lin_sum (x.getD 5 0) true ((c * 6 ^ (l + 1) : Nat) : Int) (p := p) (by omega) x T hx hT
    have tn := t_nn (x.getD 5 0) true (v := ((c * 6 ^ (l + 1) : Nat) : Int)) (Int.natCast_nonneg _) (p := p) (by omega) x T hx hT nT
    have hsp := split_sum (x := x) (x.getD 5 0) (fun _ => 1) l p c x
    have hcf := cF_one h (x.getD 5 0) l (p + (x.getD 5 0).toNat)
    have hcf2 := cF_one h (x.getD 5 0) (l + 1) p
    have hcf3 : (x.map (fun f => if f = x.getD 5 0 then cF x (x.getD 5 0) (fun _ => 1) l (p + f.toNat) else ((6 ^ (l + 1) : Nat) : Int) * 1)).sum = ((6 ^ (l + 1 + 1) : Nat) : Int) := hcf2
    rw [hcf, hcf3, ← Int.natCast_mul, ← Int.natCast_mul] at hsp
    have tq := fun q => (t_lin (lin_get q) (x.getD 5 0) true ((c * 6 ^ (l + 1) : Nat) : Int) (p := p) (by omega) x T hx hT).2
    have spq := fun q => split_sum (x := x) (x.getD 5 0) (fun j => if q = j then 1 else 0) l p c x
    generalize x.foldl (tS (x.getD 5 0) true p ((c * 6 ^ (l + 1) : Nat) : Int)) T = T' at t1 t2 tn tq ⊢
    have hT' : T'.sum + ((c * x.count (x.getD 5 0) * 6 ^ (l + 1) : Nat) : Int) = T.sum + ((c * 6 ^ (l + 1 + 1) : Nat) : Int) := by
      rw [t2]; omega
    have hs1 := sum_nn tn
    rw [en, wrap_i64 (by omega) (by omega), show (j : Int) + 1 = ((j + 1 : Nat) : Int) from rfl]
    obtain ⟨U, u1, u2, u3⟩ := sp_run h hx hin hk3 hf l (j + 1) (p + (x.getD 5 0).toNat) (c * x.count (x.getD 5 0)) T' e (by omega) (by omega) (Nat.mul_pos hc hw) (by omega) (by omega) t1 tn
    refine ⟨U, u1, u2, fun q => ?_⟩
    rw [u3 q, tq q]
    have e := spq q
    show _ = T.getD q 0 + (c : Int) * (x.map (fun f => if f = x.getD 5 0 then cF x (x.getD 5 0) (fun j => if q = j then 1 else 0) l (p + f.toNat) else ((6 ^ (l + 1) : Nat) : Int) * (if q = p + f.toNat then 1 else 0))).sum
    rw [← e, Int.add_assoc]
end Go.GA.E
