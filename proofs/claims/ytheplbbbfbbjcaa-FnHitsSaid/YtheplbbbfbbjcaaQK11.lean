/- Plain law of FnHits. -/
import Derived.Test.YtheplbbbfbbjcaaQK10
namespace Go.GA
open Go
set_option maxRecDepth 100000
def EA (fu : Nat) (p : List (List Int)) (b k : Int) (T : List Int) (ok : Bool) (C : List Int) (okc : Bool) : Option Bool :=
  (if ok = true then cnt (fun i175 (s174 : Int × Int) c176 _ => (if (okc && (decide (k ≤ i175))) = true then c176 ((IntKind.wrap .i64 (s174.1 + (T.getD i175.toNat 0))), (IntKind.wrap .i64 (s174.2 + (T.getD i175.toNat 0)))) else c176 ((IntKind.wrap .i64 (s174.1 + (T.getD i175.toNat 0))), s174.2))) (fun i175 (s174 : Int × Int) => (p_laws_vSix fu (p.length : Int)).bind (fun r188 => (if ((!(decide (s174.1 = r188))) || (okc && (!(decide ((IntKind.wrap .i64 (s174.2 * (C.getD 1 0))) = (IntKind.wrap .i64 ((C.getD 0 0) * s174.1))))))) = true then some false else (if (okc && (decide (b < 31))) = true then (p_impl_ChanceHits fu p (IntKind.wrap .i64 (b + 1)) k).bind (fun r241 => some (r241.2 && (!(p_laws_vLess C r241.1)))) else some true)))) (Int.toNat (5 - 0)) 0 (0, 0) else some true)
def EB (fu : Nat) (p : List (List Int)) (k t bt s : Int) (ok : Bool) (K : Unit → Option Bool) : Option Bool :=
  (if ok = true then (p_impl_ChanceHits fu p s k).bind (fun r247 => (if ((!r247.2) || (decide ((IntKind.wrap .i64 ((r247.1.getD 0 0) * bt)) < (IntKind.wrap .i64 (t * (r247.1.getD 1 0)))))) = true then some false else (if s < 31 then (p_impl_ChanceHits fu p (IntKind.wrap .i64 (s + 1)) k).bind (fun r264 => (if ((!r264.2) || (decide ((IntKind.wrap .i64 (t * (r264.1.getD 1 0))) ≤ (IntKind.wrap .i64 ((r264.1.getD 0 0) * bt))))) = true then some false else K ())) else K ()))) else K ())
theorem sums_two (c : Int → Bool) {R : Type} (K : Int → Int × Int → R) {a0 a1 a2 a3 a4 : Nat} (h0 : a0 ≤ 10000) (h1 : a1 ≤ 10000) (h2 : a2 ≤ 10000) (h3 : a3 ≤ 10000) (h4 : a4 ≤ 10000) {k : Nat} (hk : k ≤ 4) :
    cnt (fun i175 (s174 : Int × Int) c176 _ => (if decide ((k : Int) ≤ i175) = true then c176 ((IntKind.wrap .i64 (s174.1 + ([(a0 : Int), (a1 : Int), (a2 : Int), (a3 : Int), (a4 : Int)].getD i175.toNat 0))), (IntKind.wrap .i64 (s174.2 + ([(a0 : Int), (a1 : Int), (a2 : Int), (a3 : Int), (a4 : Int)].getD i175.toNat 0)))) else c176 ((IntKind.wrap .i64 (s174.1 + ([(a0 : Int), (a1 : Int), (a2 : Int), (a3 : Int), (a4 : Int)].getD i175.toNat 0))), s174.2))) K (Int.toNat (5 - 0)) 0 (0, 0) = K 5 ([(a0 : Int), (a1 : Int), (a2 : Int), (a3 : Int), (a4 : Int)].sum, ([(a0 : Int), (a1 : Int), (a2 : Int), (a3 : Int), (a4 : Int)].drop k).sum) := by
  have e5 : Int.toNat (5 - 0) = 5 := rfl
  rw [e5]
  rcases (by omega : k = 0 ∨ k = 1 ∨ k = 2 ∨ k = 3 ∨ k = 4) with r | r | r | r | r <;> subst r <;>
  · simp [cnt]
    simp (disch := omega) only [wr]
    congr 1
    refine Prod.ext ?_ ?_
    all_goals first | rfl | (dsimp only; omega)
theorem sums_one {R : Type} (K : Int → Int × Int → R) {a0 a1 a2 a3 a4 : Nat} (h0 : a0 ≤ 10000) (h1 : a1 ≤ 10000) (h2 : a2 ≤ 10000) (h3 : a3 ≤ 10000) (h4 : a4 ≤ 10000) :
    cnt (fun i175 (s174 : Int × Int) c176 _ => c176 ((IntKind.wrap .i64 (s174.1 + ([(a0 : Int), (a1 : Int), (a2 : Int), (a3 : Int), (a4 : Int)].getD i175.toNat 0))), s174.2)) K (Int.toNat (5 - 0)) 0 (0, 0) = K 5 ([(a0 : Int), (a1 : Int), (a2 : Int), (a3 : Int), (a4 : Int)].sum, 0) := by
  have e5 : Int.toNat (5 - 0) = 5 := rfl
  rw [e5]
  simp [cnt]
  simp (disch := omega) only [wr]
  congr 1
  refine Prod.ext ?_ ?_
  all_goals first | rfl | (dsimp only; omega)
theorem csF_cnt_le {b : Int} {p : List (List Int)} (hl : p.length ≤ 4) (c : Nat) : (csF b p).count c ≤ 10000 := by
  refine Nat.le_trans List.count_le_length ?_
  unfold csF
  rw [csN_len]
  have := pow_le hl
  omega
theorem tab_all {b : Int} {p : List (List Int)} (hl : p.length ≤ 4) : (tab (csF b p)).sum = ((6 ^ p.length : Nat) : Int) := by
  have := tail_sum (k := 0) (by omega) (csF b p) (csF_lt hl)
  rw [List.drop_zero] at this
  rw [this, ← tailN_all (b := b)]
  rfl
theorem ea_ok {fu : Nat} (hf : 10000 ≤ fu) {p : List (List Int)} (h6 : Six p) (b k : Int) : EA fu p b k (if okT p b = true then (tab (csF b p), true) else (List.replicate 5 0, false)).1 (if okT p b = true then (tab (csF b p), true) else (List.replicate 5 0, false)).2 (if okC p b k = true then (cutF (tailN b p k.toNat) (6 ^ p.length), true) else (List.replicate 2 0, false)).1 (if okC p b k = true then (cutF (tailN b p k.toNat) (6 ^ p.length), true) else (List.replicate 2 0, false)).2 = some true := by
  unfold EA
  by_cases hT : okT p b = true
  · rw [if_pos hT]
    have hT' := hT
    unfold okT at hT'
    simp only [Bool.and_eq_true] at hT'
    obtain ⟨c1, c2⟩ := hT'
    simp only [pwithin_eq, decide_eq_true_eq] at c2
    obtain ⟨_, hl, hd⟩ := pool_six h6 c1
    have hp6 := pow_le hl
    have hp60 : 0 < 6 ^ p.length := Nat.pow_pos (by omega)
    have hsix : p_laws_vSix fu (p.length : Int) = some ((6 ^ p.length : Nat) : Int) := power_eq (by omega) (by omega)
    have hall := tab_all (b := b) hl
    simp only [↓reduceIte]
    by_cases hC : okC p b k = true
    · rw [if_pos hC]
      unfold okC at hC
      simp only [Bool.and_eq_true] at hC
      obtain ⟨_, c3⟩ := hC
      simp only [pwithin_eq, decide_eq_true_eq] at c3
      obtain ⟨k', rfl⟩ : ∃ k' : Nat, k = (k' : Int) := ⟨k.toNat, by omega⟩
      have hk : k' ≤ 4 := by omega
      rw [Int.toNat_natCast]
      have hs := tail_sum hk (csF b p) (csF_lt hl)
      simp only [Bool.true_and]
      unfold tab at hs hall ⊢
      rw [sums_two (fun _ => true) _ (csF_cnt_le hl 0) (csF_cnt_le hl 1) (csF_cnt_le hl 2) (csF_cnt_le hl 3) (csF_cnt_le hl 4) hk, hsix, Option.bind_some, hs, hall]
      have ht := tailN_le (b := b) (p := p) k'
      obtain ⟨u, v, e, q1, q2, q3, q4, q5⟩ := cut_of (x := ((tailN b p k' : Nat) : Int)) (N := 6 ^ p.length) (by omega) hp60
      rw [Int.toNat_natCast] at e
      rw [if_neg]
      · by_cases hb : b < 31
        · rw [if_pos (by simpa using hb), wr (by omega) (by omega), chI hf h6, Option.bind_some]
          have hok : okC p (b + 1) (k' : Int) = true := by
            unfold okC
            rw [c1, pwithin_eq, pwithin_eq]
            simp; omega
          rw [if_pos hok]
          have ha := tailN_anti (b := b) (b' := b + 1) (by omega) p k'
          have ht2 := tailN_le (b := b + 1) (p := p) k'
          have hl := less_cut (x := ((tailN b p k' : Nat) : Int)) (y := ((tailN (b + 1) p k' : Nat) : Int)) (N := 6 ^ p.length) (by omega) (by omega) hp60 (by omega) (by omega) (by omega)
          rw [Int.toNat_natCast, Int.toNat_natCast] at hl
          have : p_laws_vLess (cutF (tailN b p k') (6 ^ p.length)) (cutF (tailN (b + 1) p k') (6 ^ p.length)) = false := by
            unfold p_laws_vLess
            rw [decide_eq_false_iff_not, hl]
            omega
          rw [Int.toNat_natCast, this]
          rfl
        · rw [if_neg (by simpa using hb)]
      · rw [e]
        have q1' : ((tailN b p k' : Nat) : Int) * v = u * ((6 ^ p.length : Nat) : Int) := q1.symm
        unfold tailN at q1'
        show ¬ ((!decide (((6 ^ p.length : Nat) : Int) = ((6 ^ p.length : Nat) : Int)) || !decide (IntKind.wrap .i64 (_ * v) = IntKind.wrap .i64 (u * _))) = true)
        rw [q1']
        simp
    · rw [if_neg hC]
      simp only [Bool.false_and, Bool.false_eq_true, ↓reduceIte]
      unfold tab at hall ⊢
      rw [sums_one _ (csF_cnt_le hl 0) (csF_cnt_le hl 1) (csF_cnt_le hl 2) (csF_cnt_le hl 3) (csF_cnt_le hl 4), hsix, Option.bind_some, hall]
      simp
  · rw [if_neg hT]
    rfl
theorem eb_ok {fu : Nat} (hf : 10000 ≤ fu) {p : List (List Int)} (h6 : Six p) (k t bt : Int) (K : Unit → Option Bool) : EB fu p k t bt (if okB p k t bt = true then findB p k.toNat t bt 32 else (0, false)).1 (if okB p k t bt = true then findB p k.toNat t bt 32 else (0, false)).2 K = K () := by
  unfold EB
  by_cases hc : okB p k t bt = true
  · rw [if_pos hc]
    by_cases h2 : (findB p k.toNat t bt 32).2 = true
    · rw [if_pos h2]
      obtain ⟨s0, s1, s2, s3⟩ := findB_ok 32 h2 (fun b h1 h2 => by omega)
      generalize (findB p k.toNat t bt 32).1 = s at s0 s1 s2 s3
      unfold okB at hc
      simp only [Bool.and_eq_true] at hc
      obtain ⟨⟨⟨c1, c2⟩, c3⟩, c4⟩ := hc
      simp only [pwithin_eq, decide_eq_true_eq] at c2 c3 c4
      obtain ⟨_, hl, hd⟩ := pool_six h6 c1
      obtain ⟨k', rfl⟩ : ∃ k' : Nat, k = (k' : Int) := ⟨k.toNat, by omega⟩
      rw [Int.toNat_natCast] at s2 s3
      have hp6 := pow_le hl
      have hp60 : 0 < 6 ^ p.length := Nat.pow_pos (by omega)
      have hok : ∀ b : Int, 0 ≤ b → b ≤ 31 → okC p b (k' : Int) = true := fun b h1 h2 => by
        unfold okC
        rw [c1, pwithin_eq, pwithin_eq]
        simp; omega
      have hle : ∀ u v : Int, 0 ≤ u → u ≤ 1296 → 1 ≤ v → v ≤ 1296 → IntKind.wrap .i64 (u * bt) = u * bt ∧ IntKind.wrap .i64 (t * v) = t * v := fun u v u0 u1 v0 v1 => by
        have b1 : u * bt ≤ 1296 * 1000 := Int.mul_le_mul (by omega) (by omega) (by omega) (by omega)
        have b2 : 0 ≤ u * bt := Int.mul_nonneg (by omega) (by omega)
        have b3 : t * v ≤ 1000 * 1296 := Int.mul_le_mul (by omega) (by omega) (by omega) (by omega)
        have b4 : 0 ≤ t * v := Int.mul_nonneg (by omega) (by omega)
        exact ⟨wr (by omega) (by omega), wr (by omega) (by omega)⟩
      have ht := tailN_le (b := s) (p := p) k'
      rw [chI hf h6, if_pos (hok s s0 (by omega)), Option.bind_some, Int.toNat_natCast]
      obtain ⟨u, v, e, u0, u1, v0, v1, hiff⟩ := cut_vs (x := tailN s p k') hp60 hp6 (by omega) (t := t) (bt := bt) (by omega) (by omega)
      obtain ⟨w1, w2⟩ := hle u v u0 u1 v0 v1
      rw [e]
      simp only [List.getD_cons_zero, List.getD_cons_succ]
      rw [w1, w2, if_neg]
      · by_cases hs : s < 31
        · rw [if_pos hs, wr (by omega) (by omega), chI hf h6, if_pos (hok (s + 1) (by omega) (by omega)), Option.bind_some, Int.toNat_natCast]
          have ht := tailN_le (b := s + 1) (p := p) k'
          obtain ⟨u', v', e', u0', u1', v0', v1', hiff'⟩ := cut_vs (x := tailN (s + 1) p k') hp60 hp6 (by omega) (t := t) (bt := bt) (by omega) (by omega)
          obtain ⟨w1', w2'⟩ := hle u' v' u0' u1' v0' v1'
          rw [e']
          simp only [List.getD_cons_zero, List.getD_cons_succ]
          rw [w1', w2', if_neg]
          have := s3 (s + 1) (by omega) (by omega)
          unfold enough at this
          rw [decide_eq_false_iff_not] at this
          have := hiff'.2 (by omega)
          simp; omega
        · rw [if_neg hs]
      · unfold enough at s2
        rw [decide_eq_true_eq] at s2
        have : ¬ u * bt < t * v := fun h => by have := hiff.1 h; omega
        simp; omega
    · rw [if_neg h2]
  · rw [if_neg hc]
    rfl
theorem law_FnHits {x : List Int} (hx : Bytes x) {fu : Nat} (hf : 10000 ≤ fu) : p_laws_FnHits fu x = some true := by
  unfold p_laws_FnHits
  by_cases hb : p_laws_vBig x = true
  · rw [if_pos hb]
  · rw [if_neg hb]
    have hlen : x.length ≤ 65536 := by
      unfold p_laws_vBig at hb
      simp at hb
      omega
    obtain ⟨p, b, k, d1, h6⟩ := draw1 hx (fu := fu) (by omega)
    obtain ⟨y, d2, hy⟩ := cut_bytes hx hlen
    obtain ⟨p', k', t, bt, d3, h6'⟩ := draw2 hy (fu := fu) (by omega)
    rw [d1, Option.bind_some]
    simp only
    rw [htI hf h6, Option.bind_some, htS hf h6, Option.bind_some, chI hf h6, Option.bind_some, chS hf h6, Option.bind_some, d2, Option.bind_some, d3, Option.bind_some]
    simp only
    rw [bfI hf h6', Option.bind_some, bfS hf h6', Option.bind_some]
    have hct : ((if okC p b k = true then (cutF (tailN b p k.toNat) (6 ^ p.length), true) else (List.replicate 2 0, false)).2 && !(if okT p b = true then (tab (csF b p), true) else (List.replicate 5 0, false)).2) = false := by
      unfold okC okT
      cases p_impl_IsPool p <;> cases p_impl_within b 0 31 <;> cases p_impl_within k 0 4 <;> rfl
    have ha := ea_ok hf h6 b k
    have hbk := eb_ok hf h6' k' t bt
    generalize (if okC p b k = true then (cutF (tailN b p k.toNat) (6 ^ p.length), true) else (List.replicate 2 0, false)) = c at *
    generalize (if okT p b = true then (tab (csF b p), true) else (List.replicate 5 0, false)) = e at *
    generalize (if okB p' k' t bt = true then findB p' k'.toNat t bt 32 else (0, false)) = z at *
    rw [if_neg (by simp [hct])]
    show EB fu p' k' t bt z.1 z.2 (fun _ => EA fu p b k e.1 e.2 c.1 c.2) = some true
    rw [hbk]
    exact ha
theorem pure_FnHits {x : List Int} (o : OkT (.slice (.int .u8)) x) : ∃ fu, p_laws_FnHits fu x = some true := by
  have hx : Bytes x := fun b hb => by
    have h : (Lit.int .u8 b).wf = true := o.2 b hb
    simp only [Lit.wf, Bool.and_eq_true, decide_eq_true_eq] at h
    have e1 : IntKind.u8.min = 0 := by decide
    have e2 : IntKind.u8.max = 255 := by decide
    rw [e1, e2] at h
    exact h
  exact ⟨10000, law_FnHits hx (by omega)⟩
end Go.GA
