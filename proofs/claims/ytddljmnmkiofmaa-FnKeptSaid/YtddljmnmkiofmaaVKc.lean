/- Plain law of FnKept: moments of tables, tables of sums. -/
import Derived.Test.YtddljmnmkiofmaaVKb
namespace Go.GA
open Go
set_option maxRecDepth 100000
/-! ### moments -/
def momF : Nat → List Int → Int
  | _, [] => 0
  | b, a :: l => (b : Int) * a + momF (b + 1) l
theorem momF_nn : ∀ (b : Nat) (l : List Int), (∀ a ∈ l, 0 ≤ a) → 0 ≤ momF b l
  | _, [], _ => by simp [momF]
  | b, a :: l, h => by
    have h1 := momF_nn (b + 1) l (fun x hx => h x (by simp [hx]))
    have h2 : 0 ≤ (b : Int) * a := Int.mul_nonneg (by omega) (h a (by simp))
    simp only [momF]; omega
theorem sum_nn2 : ∀ (l : List Int), (∀ a ∈ l, 0 ≤ a) → 0 ≤ l.sum
  | [], _ => by simp
  | a :: l, h => by
    have h1 := sum_nn2 l (fun x hx => h x (by simp [hx]))
    have h2 := h a (by simp)
    rw [List.sum_cons]; omega
theorem drop_nn {T : List Int} (h : ∀ a ∈ T, 0 ≤ a) (k : Nat) : ∀ a ∈ T.drop k, 0 ≤ a := fun a ha => h a (List.mem_of_mem_drop ha)
theorem pick_one (g : Nat → Int) (v : Nat) : ∀ L, ((List.range L).map (fun j => g j * ((if v == j then 1 else 0 : Nat) : Int))).sum = if v < L then g v else 0
  | 0 => by simp
  | L + 1 => by
    rw [List.range_succ, List.map_append, List.sum_append, pick_one g v L]
    simp only [List.map_cons, List.map_nil, List.sum_cons, List.sum_nil]
    by_cases h : v < L
    · have h2 : (v == L) = false := by simp; omega
      rw [if_pos h, if_pos (show v < L + 1 by omega), h2]; simp
    · by_cases h3 : v = L
      · subst h3; simp
      · have h2 : (v == L) = false := by simp; omega
        rw [if_neg h, if_neg (show ¬ v < L + 1 by omega), h2]; simp
theorem sum_addI {α : Type} (f g : α → Int) : ∀ l : List α, (l.map (fun a => f a + g a)).sum = (l.map f).sum + (l.map g).sum
  | [] => by simp
  | a :: l => by simp only [List.map_cons, List.sum_cons, sum_addI f g l]; omega
theorem weigh (g : Nat → Int) (L : Nat) : ∀ vs : List Nat, (∀ v ∈ vs, v < L) → ((List.range L).map (fun j => g j * ((vs.count j : Nat) : Int))).sum = (vs.map g).sum
  | [], _ => by
    have : (List.range L).map (fun j => g j * ((([] : List Nat).count j : Nat) : Int)) = (List.range L).map (fun _ => (0 : Int)) := List.map_congr_left (fun j _ => by simp)
    rw [this]
    have z : ∀ l : List Nat, (l.map (fun _ => (0 : Int))).sum = 0 := fun l => by induction l with
      | nil => rfl
      | cons a l ih => simp only [List.map_cons, List.sum_cons, ih]; rfl
    rw [z]; rfl
  | v :: vs, h => by
    have ih := weigh g L vs (fun w hw => h w (by simp [hw]))
    have hv := h v (by simp)
    rw [List.map_cons, List.sum_cons, ← ih]
    have : (List.range L).map (fun j => g j * (((v :: vs).count j : Nat) : Int)) = (List.range L).map (fun j => g j * ((if v == j then 1 else 0 : Nat) : Int) + g j * ((vs.count j : Nat) : Int)) := List.map_congr_left (fun j _ => by
      rw [List.count_cons, Int.natCast_add, Int.mul_add]; omega)
    rw [this, sum_addI, pick_one, if_pos hv]
theorem momF_map (f : Nat → Int) : ∀ (n b : Nat), momF b ((List.range' b n).map f) = ((List.range' b n).map (fun (j : Nat) => (j : Int) * f j)).sum
  | 0, b => rfl
  | n + 1, b => by
    rw [List.range'_succ, List.map_cons, List.map_cons, List.sum_cons, ← momF_map f n (b + 1)]
    rfl
theorem natsum_cast : ∀ l : List Nat, (l.map (fun (v : Nat) => (v : Int))).sum = ((l.sum : Nat) : Int)
  | [] => rfl
  | v :: l => by simp only [List.map_cons, List.sum_cons, natsum_cast l, Int.natCast_add]
theorem tabV_mom {L : Nat} {vs : List Nat} (h : ∀ v ∈ vs, v < L) : momF 0 (tabV L vs) = ((vs.sum : Nat) : Int) := by
  unfold tabV
  rw [List.range_eq_range', momF_map, ← List.range_eq_range', weigh (fun (j : Nat) => (j : Int)) L vs h, natsum_cast]
theorem tabV_sum {L : Nat} {vs : List Nat} (h : ∀ v ∈ vs, v < L) : (tabV L vs).sum = (vs.length : Int) := by
  have := weigh (fun _ => 1) L vs h
  unfold tabV
  simp only [Int.one_mul] at this
  rw [this]
  clear this h
  induction vs with
  | nil => rfl
  | cons v vs ih => simp only [List.map_cons, List.sum_cons, ih, List.length_cons]; omega
/-! ### sums of dice -/
def addD (d : List Int) (v : Nat) : List Nat := d.map (fun f => v + f.toNat)
theorem getD_inner (i : Nat) (v : Int) (q : Nat) : ∀ (d s : List Int), (v = 0 ∨ InT i d) → s.length = 121 → (inner i v d s).getD q 0 = s.getD q 0 + v * (((d.map (fun f => i + f.toNat)).count q : Nat) : Int)
  | [], s, _, _ => by simp [inner]
  | f :: d, s, hd, hl => by
    have e : inner i v (f :: d) s = inner i v d (addAt s (i + f.toNat) v) := rfl
    rw [e, List.map_cons, List.count_cons]
    rcases hd with h0 | hd
    · subst h0
      rw [addAt_zero, getD_inner i 0 q d s (.inl rfl) hl]; simp
    · obtain ⟨f0, f1⟩ := hd f (by simp)
      rw [getD_inner i v q d _ (.inr (fun g hg => hd g (by simp [hg]))) (by rw [addAt_len]; exact hl), addAt_getD s _ v q (by omega), Int.natCast_add, Int.mul_add]
      by_cases hq : q = i + f.toNat
      · subst hq; simp; omega
      · have : (i + f.toNat == q) = false := by simp; omega
        rw [if_neg hq, this]; simp
theorem innr_len (i : Nat) (v : Int) : ∀ (d s : List Int), (inner i v d s).length = s.length
  | [], s => rfl
  | f :: d, s => by
    have e : inner i v (f :: d) s = inner i v d (addAt s (i + f.toNat) v) := rfl
    rw [e, innr_len i v d, addAt_len]
theorem getD_convL {T d : List Int} (q : Nat) : ∀ (l : List Nat) (s : List Int), (∀ i ∈ l, T.getD i 0 = 0 ∨ InT i d) → s.length = 121 → (convL T d l s).getD q 0 = s.getD q 0 + (l.map (fun i => T.getD i 0 * (((d.map (fun f => i + f.toNat)).count q : Nat) : Int))).sum
  | [], s, _, _ => by simp [convL]
  | i :: l, s, h, hl => by
    have e : convL T d (i :: l) s = convL T d l (inner i (T.getD i 0) d s) := rfl
    rw [e, getD_convL q l _ (fun j hj => h j (by simp [hj])) (by rw [innr_len]; exact hl), getD_inner i _ q d s (h i (by simp)) hl, List.map_cons, List.sum_cons]
    omega
theorem convL_len {T d : List Int} : ∀ (l : List Nat) (s : List Int), (convL T d l s).length = s.length
  | [], s => rfl
  | i :: l, s => by
    have e : convL T d (i :: l) s = convL T d l (inner i (T.getD i 0) d s) := rfl
    rw [e, convL_len l, innr_len]
theorem count_flat (f : Nat → List Nat) (q : Nat) : ∀ vs : List Nat, (vs.flatMap f).count q = (vs.map (fun v => (f v).count q)).sum
  | [] => rfl
  | v :: vs => by rw [List.flatMap_cons, List.count_append, count_flat f q vs, List.map_cons, List.sum_cons]
theorem conv_tabV {vs : List Nat} {d : List Int} (hv : ∀ v ∈ vs, v ≤ 90) (hd : ∀ f ∈ d, 0 ≤ f ∧ f ≤ 30) : conv (tabV 121 vs) d = tabV 121 (vs.flatMap (addD d)) := by
  refine List.ext_getElem (by unfold conv; rw [convL_len, tabV_len]; rfl) (fun q h1 h2 => ?_)
  have hq : q < 121 := by rw [tabV_len] at h2; exact h2
  have e1 : (conv (tabV 121 vs) d)[q] = (conv (tabV 121 vs) d).getD q 0 := by rw [List.getD_eq_getElem?_getD, List.getElem?_eq_getElem h1]; rfl
  have e2 : (tabV 121 (vs.flatMap (addD d)))[q] = (tabV 121 (vs.flatMap (addD d))).getD q 0 := by rw [List.getD_eq_getElem?_getD, List.getElem?_eq_getElem h2]; rfl
  refine e1.trans (Eq.trans ?_ e2.symm)
  rw [tabV_get _ _ hq]
  unfold conv
  have hin : ∀ i ∈ List.range 121, (tabV 121 vs).getD i 0 = 0 ∨ InT i d := fun i hi => by
    by_cases h90 : i ≤ 90
    · exact .inr (inT_of hd h90)
    · rw [tabV_get _ _ (List.mem_range.1 hi)]
      have : vs.count i = 0 := List.count_eq_zero.2 (fun hm => h90 (hv i hm))
      exact .inl (by rw [this]; rfl)
  rw [getD_convL q _ _ hin (by simp), count_flat]
  have z : (List.replicate 121 (0 : Int)).getD q 0 = 0 := by
    rw [List.getD_eq_getElem?_getD, List.getElem?_replicate_of_lt hq]; rfl
  rw [z, Int.zero_add]
  have e3 : (List.range 121).map (fun i => (tabV 121 vs).getD i 0 * (((d.map (fun f => i + f.toNat)).count q : Nat) : Int)) = (List.range 121).map (fun i => (((d.map (fun f => i + f.toNat)).count q : Nat) : Int) * ((vs.count i : Nat) : Int)) := List.map_congr_left (fun i hi => by
    rw [tabV_get _ _ (List.mem_range.1 hi), Int.mul_comm])
  rw [e3, weigh (fun i => (((d.map (fun f => i + f.toNat)).count q : Nat) : Int)) 121 vs (fun v hv' => by have := hv v hv'; omega), ← natsum_cast, List.map_map]
  rfl
/-- the sum of an outcome -/
def sv (p : List (List Int)) (n : Nat) : Nat := (rollF p n).sum.toNat
theorem sv_le {p : List (List Int)} (hd : ∀ d ∈ p, Die6 d) (n : Nat) : 0 ≤ (rollF p n).sum ∧ sv p n ≤ 30 * p.length := by
  have := fc_sum (rollF_fc hd n)
  rw [rollF_len] at this
  unfold sv; omega
theorem sv_snoc {p : List (List Int)} (hp : ∀ d ∈ p, Die6 d) {d : List Int} (hd : Die6 d) : ∀ n, (List.range (6 * n)).map (sv (p ++ [d])) = ((List.range n).map (sv p)).flatMap (addD d)
  | 0 => rfl
  | n + 1 => by
    have ih := sv_snoc hp hd n
    have e : ∀ k, k < 6 → sv (p ++ [d]) (6 * n + k) = sv p n + (d.getD k 0).toNat := fun k hk => by
      have h1 := (sv_le hp n).1
      have h2 := die6_get hd hk
      unfold sv
      rw [rollF_snoc, show (6 * n + k) / 6 = n by omega, show (6 * n + k) % 6 = k by omega, List.sum_append, List.sum_singleton]
      omega
    have e0 := e 0 (by omega)
    have e1 := e 1 (by omega)
    have e2 := e 2 (by omega)
    have e3 := e 3 (by omega)
    have e4 := e 4 (by omega)
    have e5 := e 5 (by omega)
    rw [show 6 * (n + 1) = 6 * n + 1 + 1 + 1 + 1 + 1 + 1 by omega, List.range_succ, List.range_succ, List.range_succ, List.range_succ, List.range_succ, List.range_succ, List.range_succ]
    simp only [List.map_append, List.map_cons, List.map_nil, ih, List.flatMap_append, List.flatMap_cons, List.flatMap_nil]
    rw [show 6 * n + 1 + 1 = 6 * n + 2 by omega, show 6 * n + 2 + 1 = 6 * n + 3 by omega, show 6 * n + 3 + 1 = 6 * n + 4 by omega, show 6 * n + 4 + 1 = 6 * n + 5 by omega, e1, e2, e3, e4, e5, show sv (p ++ [d]) (6 * n) = sv (p ++ [d]) (6 * n + 0) from rfl, e0]
    obtain ⟨a, b, c, e, f, g, rfl, h⟩ := hd
    simp [addD]
theorem sums_tab : ∀ (q p : List (List Int)), (∀ d ∈ p, Die6 d) → (∀ d ∈ q, Die6 d) → p.length + q.length ≤ 4 → q.foldl conv (tabV 121 (valsOf p (sv p))) = tabV 121 (valsOf (p ++ q) (sv (p ++ q)))
  | [], p, _, _, _ => by simp
  | d :: q, p, hp, hq, hl => by
    simp only [List.length_cons] at hl
    have hd := hq d (by simp)
    have hv : ∀ v ∈ valsOf p (sv p), v ≤ 90 := fun v hv => by
      obtain ⟨n, _, rfl⟩ := List.mem_map.1 hv
      have := (sv_le hp n).2
      omega
    rw [List.foldl_cons, conv_tabV hv (fun f hf => ⟨(hd.face f hf).1, (hd.face f hf).2.1⟩)]
    have e : (valsOf p (sv p)).flatMap (addD d) = valsOf (p ++ [d]) (sv (p ++ [d])) := by
      unfold valsOf
      rw [List.length_append, List.length_singleton, Nat.pow_succ, Nat.mul_comm, sv_snoc hp hd]
    rw [e, sums_tab q (p ++ [d]) (fun x hx => by
      rcases List.mem_append.1 hx with h | h
      · exact hp x h
      · have : x = d := by simpa using h
        rw [this]; exact hd) (fun x hx => hq x (by simp [hx])) (by simp; omega), List.append_assoc]
    rfl
theorem sums_eq {p : List (List Int)} (hl : p.length ≤ 4) (hd : ∀ d ∈ p, Die6 d) : p_impl_sums p = some (tabV 121 (valsOf p (sv p))) := by
  obtain ⟨a1, a2⟩ := lrun_conv (F := stepI) (fun m T d c h hm hd => stepI_eq h hm hd c) p 0 _ tab_one (by omega) (fun d h => ⟨(hd d h).len, fun f hf => ⟨((hd d h).face f hf).1, ((hd d h).face f hf).2.1⟩⟩)
  have e1 : p_impl_sums p = some (tabOf p) := by
    unfold p_impl_sums
    rw [cnt_list stepI p (List.replicate 6 0) (by omega) (fun _ _ _ _ _ => rfl)]
    exact a1
  have e2 : (List.replicate 121 (0 : Int)).set 0 1 = tabV 121 (valsOf [] (sv [])) := by decide
  rw [e1]
  unfold tabOf
  rw [e2, sums_tab p [] (fun d h => by cases h) hd (by simpa using hl)]
  rfl
theorem kv_all {p : List (List Int)} (hd : ∀ d ∈ p, Die6 d) (n : Nat) : kv p p.length n = sv p n := by
  unfold kv sv
  rw [List.take_of_length_le (by rw [R_len]; omega)]
  unfold R
  rw [perm_sum (srt_perm _)]
end Go.GA
