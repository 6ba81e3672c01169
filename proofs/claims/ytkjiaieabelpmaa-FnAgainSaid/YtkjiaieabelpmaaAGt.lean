/- Plain law of FnAgain: the reference's values; best sets. -/
import Derived.Test.YtkjiaieabelpmaaAGs
namespace Go.GA.E
open Go
set_option maxRecDepth 100000
set_option linter.unusedVariables false
section
variable {p : List (List Int)} {g : Gl} {fu : Nat}
theorem most_eq (a b : Nat) : p_spec_l1Most (a : Int) (b : Int) = ((max a b : Nat) : Int) := by
  unfold p_spec_l1Most; split <;> omega
theorem most_loop (h3 : p.length ≤ 3) (hf : 1999 < fu) {v : Nat → Nat} {r19 : List Int} (hr : r19.length = 6 ^ p.length) (hv : ∀ t, t < 6 ^ p.length → v t ≤ 1000000000) {R : Type} (K : List Int → Option R) :
    ∀ (d m fu' : Nat), d + m = 2 ^ p.length → d < fu' → whl (fun (s21 : Int × List Int) c23 => (if s21.1 < (shlI .i64 1 (p.length : Int)) then (p_spec_l6Sums fu (p.length : Int) (tb (6 ^ p.length) v) s21.1).bind (fun r28 => cnt (fun i31 (s30 : List Int) c32 _ => if i31 < (r28.length : Int) then c32 (s30.set i31.toNat (p_spec_l1Most (s30.getD i31.toNat 0) (r28.getD i31.toNat 0))) else none) (fun i31 (s30 : List Int) => c23 ((IntKind.wrap .i64 (s21.1 + 1)), s30)) (Int.toNat ((r19.length : Int) - 0)) 0 s21.2) else K s21.2)) fu' ((m : Int), tb (6 ^ p.length) (fun t => mxs (sv p.length v t) m)) = K (tb (6 ^ p.length) (fun t => mxs (sv p.length v t) (2 ^ p.length)))
  | 0, m, fu', h, hf' => by
    obtain ⟨f, rfl⟩ : ∃ f, fu' = f + 1 := ⟨fu' - 1, by omega⟩
    simp only [whl]
    rw [shl_fin p.length (by omega), if_neg (by omega), show m = 2 ^ p.length by omega]
  | d + 1, m, fu', h, hf' => by
    obtain ⟨f, rfl⟩ : ∃ f, fu' = f + 1 := ⟨fu' - 1, by omega⟩
    obtain ⟨_, _, h8, _⟩ := pow3 h3
    have ih := most_loop h3 hf hr hv K d (m + 1) f (by omega) (by omega)
    simp only [whl]
    rw [shl_fin p.length (by omega)] at ih ⊢
    rw [if_pos (by omega), sums_eq h3 (by omega) hf hv, Option.bind_some, hr]
    rw [hr] at ih
    refine (cnt_upd (N := 6 ^ p.length) (v := fun t => mxs (sv p.length v t) m) (w := fun t => mxs (sv p.length v t) (m + 1)) (fun s30 => whl _ f ((IntKind.wrap .i64 ((m : Int) + 1)), s30)) (by omega) rfl (fun s => rfl) (fun i c hi => ?_)).trans ?_
    · rw [tb_len, if_pos (by omega), Int.toNat_natCast, upd_get hi, tb_get _ hi, most_eq]; rfl
    · rw [show (m : Int) + 1 = ((m + 1 : Nat) : Int) from rfl, wrap_nat (by omega)]
      exact ih
theorem vals_loop (h3 : p.length ≤ 3) (hf : 1999 < fu) {r : Nat} (hr : r ≤ 2) {vs : Nat → Nat → Nat} (hvs : ∀ k t, vs (k + 1) t = mxs (sv p.length (vs k) t) (2 ^ p.length)) (hv : ∀ k, k ≤ 2 → ∀ t, t < 6 ^ p.length → vs k t ≤ 1000000000) :
    ∀ (d k fu' : Nat), d + k = r → d < fu' → whl (fun (s12 : Int × List Int) c14 => (if s12.1 < (r : Int) then (p_spec_l6Sums fu (p.length : Int) s12.2 0).bind (fun r19 => whl (fun (s21 : Int × List Int) c23 => (if s21.1 < (shlI .i64 1 (p.length : Int)) then (p_spec_l6Sums fu (p.length : Int) s12.2 s21.1).bind (fun r28 => cnt (fun i31 (s30 : List Int) c32 _ => if i31 < (r28.length : Int) then c32 (s30.set i31.toNat (p_spec_l1Most (s30.getD i31.toNat 0) (r28.getD i31.toNat 0))) else none) (fun i31 (s30 : List Int) => c23 ((IntKind.wrap .i64 (s21.1 + 1)), s30)) (Int.toNat ((r19.length : Int) - 0)) 0 s21.2) else c14 ((IntKind.wrap .i64 (s12.1 + 1)), s21.2))) fu (1, r19)) else some s12.2)) fu' ((k : Int), tb (6 ^ p.length) (vs k)) = some (tb (6 ^ p.length) (vs r))
  | 0, k, fu', h, hf' => by
    obtain ⟨f, rfl⟩ : ∃ f, fu' = f + 1 := ⟨fu' - 1, by omega⟩
    simp only [whl]
    rw [if_neg (by omega), show k = r by omega]
  | d + 1, k, fu', h, hf' => by
    obtain ⟨f, rfl⟩ : ∃ f, fu' = f + 1 := ⟨fu' - 1, by omega⟩
    obtain ⟨_, _, h8, h1⟩ := pow3 h3
    have ih := vals_loop h3 hf hr hvs hv d (k + 1) f (by omega) (by omega)
    have hk := hv k (by omega)
    have e0 := sums_eq (fu := fu) (set := 0) h3 (by omega) hf hk
    simp only [Int.natCast_zero] at e0
    simp only [whl]
    rw [if_pos (by omega), e0, Option.bind_some]
    have e1 : tb (6 ^ p.length) (fun t => sv p.length (vs k) t 0) = tb (6 ^ p.length) (fun t => mxs (sv p.length (vs k) t) 1) := tb_congr fun t ht => by simp [mxs]
    have hl := most_loop (fu := fu) h3 hf (v := vs k) (r19 := tb (6 ^ p.length) (fun t => mxs (sv p.length (vs k) t) 1)) (tb_len _ _) hk (R := List Int)
    rw [e1]
    refine (hl (fun s => whl (fun (s12 : Int × List Int) c14 => (if s12.1 < (r : Int) then (p_spec_l6Sums fu (p.length : Int) s12.2 0).bind (fun r19 => whl (fun (s21 : Int × List Int) c23 => (if s21.1 < (shlI .i64 1 (p.length : Int)) then (p_spec_l6Sums fu (p.length : Int) s12.2 s21.1).bind (fun r28 => cnt (fun i31 (s30 : List Int) c32 _ => if i31 < (r28.length : Int) then c32 (s30.set i31.toNat (p_spec_l1Most (s30.getD i31.toNat 0) (r28.getD i31.toNat 0))) else none) (fun i31 (s30 : List Int) => c23 ((IntKind.wrap .i64 (s21.1 + 1)), s30)) (Int.toNat ((r19.length : Int) - 0)) 0 s21.2) else c14 ((IntKind.wrap .i64 (s12.1 + 1)), s21.2))) fu (1, r19)) else some s12.2)) f ((IntKind.wrap .i64 ((k : Int) + 1)), s)) (2 ^ p.length - 1) 1 fu (by omega) (by omega)).trans ?_
    rw [show (k : Int) + 1 = ((k + 1 : Nat) : Int) from rfl, wrap_nat (by omega)]
    rw [tb_congr (w := vs (k + 1)) (fun t _ => (hvs k t).symm)]
    exact ih
theorem scoresS_loop (hg : p_impl_IsGoal g = true) (h1 : 1 ≤ p.length) (h3 : p.length ≤ 3) (hp : FP p) (hf : 1999 < fu) {R : Type} (K : List Int → Option R) :
    ∀ (d m fu' : Nat), d + m = 6 ^ p.length → d < fu' → whl (fun (s1 : Int × List Int) c3 => (p_spec_l2All fu (p.length : Int)).bind (fun r5 => (if s1.1 < r5 then (p_spec_l2Roll fu p s1.1).bind (fun r9 => if (s1.2.length : Int) + 1 ≤ 1000000000 then c3 ((IntKind.wrap .i64 (s1.1 + 1)), (s1.2 ++ [(p_spec_l6Score (g.1, (g.2.1, ())) r9)])) else none) else K s1.2))) fu' ((m : Int), tb m (sc p g)) = K (tb (6 ^ p.length) (sc p g))
  | 0, m, fu', h, hf' => by
    obtain ⟨f, rfl⟩ : ∃ f, fu' = f + 1 := ⟨fu' - 1, by omega⟩
    simp only [whl]
    rw [all6 (by omega) hf, Option.bind_some, if_neg (by omega), show m = 6 ^ p.length by omega]
  | d + 1, m, fu', h, hf' => by
    obtain ⟨f, rfl⟩ : ∃ f, fu' = f + 1 := ⟨fu' - 1, by omega⟩
    obtain ⟨h216, _, h8, _⟩ := pow3 h3
    have ih := scoresS_loop hg h1 h3 hp hf K d (m + 1) f (by omega) (by omega)
    obtain ⟨_, _, s3⟩ := sc_ok hg h1 h3 hp m
    simp only [whl]
    rw [all6 (by omega) hf] at ih ⊢
    rw [Option.bind_some, if_pos (by omega), rollS_eq (by omega) (by omega) hf, Option.bind_some, geta, s3, tb_len, if_pos (by omega), show (m : Int) + 1 = ((m + 1 : Nat) : Int) from rfl, wrap_nat (by omega), ← tb_succ]
    rw [geta] at ih
    exact ih
theorem values_eq (hg : p_impl_IsGoal g = true) (h1 : 1 ≤ p.length) (h3 : p.length ≤ 3) (hp : FP p) {r : Nat} (hr : r ≤ 2) (hf : 1999 < fu) : p_spec_l6Values fu p g (r : Int) = some (tb (6 ^ p.length) (vls p.length (sc p g) r)) := by
  obtain ⟨h216, _, h8, _⟩ := pow3 h3
  unfold p_spec_l6Values
  refine (scoresS_loop (R := List Int) hg h1 h3 hp hf (fun l => whl (fun (s12 : Int × List Int) c14 => (if s12.1 < (r : Int) then (p_spec_l6Sums fu (p.length : Int) s12.2 0).bind (fun r19 => whl (fun (s21 : Int × List Int) c23 => (if s21.1 < (shlI .i64 1 (p.length : Int)) then (p_spec_l6Sums fu (p.length : Int) s12.2 s21.1).bind (fun r28 => cnt (fun i31 (s30 : List Int) c32 _ => if i31 < (r28.length : Int) then c32 (s30.set i31.toNat (p_spec_l1Most (s30.getD i31.toNat 0) (r28.getD i31.toNat 0))) else none) (fun i31 (s30 : List Int) => c23 ((IntKind.wrap .i64 (s21.1 + 1)), s30)) (Int.toNat ((r19.length : Int) - 0)) 0 s21.2) else c14 ((IntKind.wrap .i64 (s12.1 + 1)), s21.2))) fu (1, r19)) else some s12.2)) fu (0, l)) (6 ^ p.length) 0 fu (by omega) (by omega)).trans ?_
  exact vals_loop (fu := fu) h3 hf hr (vs := vls p.length (sc p g)) (fun k t => rfl) (fun k hk t ht => by have := vls_b hg h1 h3 hp hk t ht; omega) r 0 fu (by omega) (by omega)
/-! ### Best sets -/
def bl (f : Nat → Nat) (M m : Nat) : List Int := (bsts f M m).map fun j => ((j : Nat) : Int)
theorem bl_succ (f : Nat → Nat) (M m : Nat) : bl f M (m + 1) = bl f M m ++ (if f m = M then [(m : Int)] else []) := by
  unfold bl
  rw [bsts_succ, List.map_append]
  congr 1
  split <;> rfl
theorem bl_len (f : Nat → Nat) (M m : Nat) : (bl f M m).length ≤ m := by
  unfold bl bsts
  rw [List.length_map]
  have := List.length_filter_le (fun set => decide (f set = M)) (List.range m)
  rwa [List.length_range] at this
theorem best_loop (h3 : p.length ≤ 3) {x4 : List (List Int)} {t k : Nat} {v w : Nat → Nat} (ht : t < 6 ^ p.length) (hf : 1999 < fu) (hk1 : 1 ≤ k) (hk : k < x4.length) (hk2 : k ≤ 100) (hx : x4.getD (k - 1) [] = tb (6 ^ p.length) v) (hw : x4.getD k [] = tb (6 ^ p.length) w) (hv : ∀ t, t < 6 ^ p.length → v t ≤ 1000000000) :
    ∀ (d m fu' : Nat), d + m = 2 ^ p.length → d < fu' → whl (fun (s1 : Int × List Int) c3 => (if s1.1 < (p_impl_again_sets p x4) then (p_impl_again_setValue fu (t : Int) s1.1 (k : Int) p x4).bind (fun r8 => if 0 ≤ (k : Int) then if (k : Int) < (x4.length : Int) then if 0 ≤ (t : Int) then if (t : Int) < ((x4.getD (k : Int).toNat []).length : Int) then (if r8 = ((x4.getD (k : Int).toNat []).getD (t : Int).toNat 0) then if (s1.2.length : Int) + 1 ≤ 1000000000 then c3 ((IntKind.wrap .i64 (s1.1 + 1)), (s1.2 ++ [s1.1])) else none else c3 ((IntKind.wrap .i64 (s1.1 + 1)), s1.2)) else none else none else none else none) else some s1.2)) fu' ((m : Int), bl (sv p.length v t) (w t) m) = some (bl (sv p.length v t) (w t) (2 ^ p.length))
  | 0, m, fu', h, hf' => by
    obtain ⟨f, rfl⟩ : ∃ f, fu' = f + 1 := ⟨fu' - 1, by omega⟩
    simp only [whl]
    rw [sets_eq h3, if_neg (by omega), show m = 2 ^ p.length by omega]
  | d + 1, m, fu', h, hf' => by
    obtain ⟨f, rfl⟩ : ∃ f, fu' = f + 1 := ⟨fu' - 1, by omega⟩
    obtain ⟨_, _, h8, _⟩ := pow3 h3
    have ih := best_loop h3 ht hf hk1 hk hk2 hx hw hv d (m + 1) f (by omega) (by omega)
    have hl := bl_len (sv p.length v t) (w t) m
    simp only [whl]
    rw [sets_eq h3] at ih ⊢
    rw [if_pos (by omega), setV_eq h3 (by omega) ht hf hk1 (by omega) hk2 hx hv, Option.bind_some, if_pos (by omega), if_pos (by omega), if_pos (by omega), Int.toNat_natCast, Int.toNat_natCast, hw, tb_len, if_pos (by omega), tb_get w ht, show (m : Int) + 1 = ((m + 1 : Nat) : Int) from rfl, wrap_nat (by omega)]
    simp only [Int.toNat_natCast, hw, tb_len] at ih
    rw [bl_succ] at ih
    by_cases e : sv p.length v t m = w t
    · rw [if_pos (by omega), if_pos (by omega)]
      rw [if_pos e] at ih
      rw [tb_get w ht] at ih
      exact ih
    · rw [if_neg (by omega)]
      rw [if_neg e, List.append_nil] at ih
      rw [tb_get w ht] at ih
      exact ih
/-- the most of the first m sets, as the reference keeps it -/
def mo (f : Nat → Nat) : Nat → Int
  | 0 => -1
  | m + 1 => ((mxs f (m + 1) : Nat) : Int)
theorem bestS_loop (h3 : p.length ≤ 3) {t : Nat} {v : Nat → Nat} (ht : t < 6 ^ p.length) (hf : 1999 < fu) (hv : ∀ t, t < 6 ^ p.length → v t ≤ 1000000000) :
    ∀ (d m fu' : Nat), d + m = 2 ^ p.length → d < fu' → whl (fun (s3 : Int × Int × List Int) c5 => (if s3.2.1 < (shlI .i64 1 (p.length : Int)) then (p_spec_l6Sums fu (p.length : Int) (tb (6 ^ p.length) v) s3.2.1).bind (fun r10 => if 0 ≤ (t : Int) then if (t : Int) < (r10.length : Int) then jn (fun (s14 : Int × List Int) => (if (r10.getD (t : Int).toNat 0) = s14.1 then if (s14.2.length : Int) + 1 ≤ 1000000000 then c5 (s14.1, (IntKind.wrap .i64 (s3.2.1 + 1)), (s14.2 ++ [s3.2.1])) else none else c5 (s14.1, (IntKind.wrap .i64 (s3.2.1 + 1)), s14.2))) (fun k15 => (if s3.1 < (r10.getD (t : Int).toNat 0) then k15 ((r10.getD (t : Int).toNat 0), []) else k15 (s3.1, s3.2.2))) else none else none) else some s3.2.2)) fu' (mo (sv p.length v t) m, (m : Int), bl (sv p.length v t) (mxs (sv p.length v t) m) m) = some (bl (sv p.length v t) (mxs (sv p.length v t) (2 ^ p.length)) (2 ^ p.length))
  | 0, m, fu', h, hf' => by
    obtain ⟨f, rfl⟩ : ∃ f, fu' = f + 1 := ⟨fu' - 1, by omega⟩
    simp only [whl]
    rw [shl_fin p.length (by omega), if_neg (by omega), show m = 2 ^ p.length by omega]
  | d + 1, m, fu', h, hf' => by
    obtain ⟨f, rfl⟩ : ∃ f, fu' = f + 1 := ⟨fu' - 1, by omega⟩
    obtain ⟨_, _, h8, _⟩ := pow3 h3
    have ih := bestS_loop h3 ht hf hv d (m + 1) f (by omega) (by omega)
    have hl := bl_len (sv p.length v t) (mxs (sv p.length v t) m) m
    simp only [whl, jn]
    rw [shl_fin p.length (by omega)] at ih ⊢
    rw [if_pos (by omega), sums_eq h3 (by omega) hf hv, Option.bind_some, if_pos (by omega), tb_len, if_pos (by omega), Int.toNat_natCast, tb_get _ ht, show (m : Int) + 1 = ((m + 1 : Nat) : Int) from rfl, wrap_nat (by omega)]
    have em : mo (sv p.length v t) (m + 1) = ((max (mxs (sv p.length v t) m) (sv p.length v t m) : Nat) : Int) := rfl
    have es : mxs (sv p.length v t) (m + 1) = max (mxs (sv p.length v t) m) (sv p.length v t m) := rfl
    have hge := mxs_ge (sv p.length v t) m
    rw [em, es, bl_succ] at ih
    simp only [Int.toNat_natCast, jn] at ih
    generalize sv p.length v t = F at *
    by_cases hlt : mo F m < ((F m : Nat) : Int)
    · rw [if_pos hlt, if_pos trivial, if_pos (by simp)]
      have hall : m = 0 ∨ mxs F m < F m := by
        cases m with
        | zero => exact .inl rfl
        | succ q => right; simp only [mo] at hlt; omega
      have hmax : max (mxs F m) (F m) = F m := by
        rcases hall with h | h
        · subst h; simp [mxs]
        · omega
      rw [hmax, if_pos rfl] at ih
      have e0 : bl F (F m) m = [] := by
        unfold bl
        rw [bsts_none (fun j hj => ?_)]
        · rfl
        · rcases hall with h | h
          · omega
          · have := hge j hj; omega
      rw [e0] at ih
      exact ih
    · rw [if_neg hlt]
      have hm : ∃ q, m = q + 1 := ⟨m - 1, by
        rcases Nat.eq_zero_or_pos m with h0 | h0
        · subst h0; simp only [mo] at hlt; omega
        · omega⟩
      obtain ⟨q, rfl⟩ := hm
      have emo : mo F (q + 1) = ((mxs F (q + 1) : Nat) : Int) := rfl
      rw [emo] at hlt ⊢
      have hmax : max (mxs F (q + 1)) (F (q + 1)) = mxs F (q + 1) := by omega
      rw [hmax] at ih
      by_cases e : F (q + 1) = mxs F (q + 1)
      · rw [if_pos (by omega), if_pos (by omega)]
        rw [if_pos e] at ih
        exact ih
      · rw [if_neg (by omega)]
        rw [if_neg e, List.append_nil] at ih
        exact ih
end
end Go.GA.E
