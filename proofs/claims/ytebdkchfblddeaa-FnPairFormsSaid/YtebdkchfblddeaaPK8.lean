/- Plain law of FnPairForms: pairs. -/
import Derived.Test.YtebdkchfblddeaaPK7
namespace Go.GA
open Go
set_option maxRecDepth 100000
set_option linter.unusedSectionVars false
/-- which comes first -/
def lexC : List Int → List Int → Int
  | a :: l, b :: m => if a < b then -1 else if b < a then 1 else lexC l m
  | _, _ => 0
theorem cmp_eq (a b : Int) : p_cmp_Compare_int a b = if a < b then -1 else if b < a then 1 else 0 := by
  unfold p_cmp_Compare_int p_cmp_isNaN_int
  simp
theorem cmp_step (a b : Int) (X : Int) : (if p_cmp_Compare_int a b = 0 then X else p_cmp_Compare_int a b) = if a < b then -1 else if b < a then 1 else X := by
  rw [cmp_eq]
  by_cases h : a < b
  · rw [if_pos h, if_pos h]; rfl
  · rw [if_neg h, if_neg h]
    by_cases h2 : b < a
    · rw [if_pos h2, if_pos h2]; rfl
    · rw [if_neg h2, if_neg h2]; rfl
theorem before_step (a b : Int) (X : Bool) (Y : Int) (h : X = decide (Y < 0)) : (if a = b then X else decide (a < b)) = decide ((if a < b then -1 else if b < a then 1 else Y) < 0) := by
  subst h
  by_cases h : a < b
  · rw [if_pos h, if_neg (by omega)]; simp [h]
  · rw [if_neg h]
    by_cases h2 : b < a
    · rw [if_pos h2, if_neg (by omega)]; simp [h]
    · rw [if_neg h2, if_pos (by omega)]
theorem compare_eq {x y : List Int} (hx : x.length = 6) (hy : y.length = 6) : p_impl_compareDice x y = lexC x y := by
  obtain ⟨a, b, c, d, e, f, rfl⟩ := len6 hx
  obtain ⟨a', b', c', d', e', f', rfl⟩ := len6 hy
  have e0 : p_impl_compareDice [a, b, c, d, e, f] [a', b', c', d', e', f'] = (if p_cmp_Compare_int a a' = 0 then (if p_cmp_Compare_int b b' = 0 then (if p_cmp_Compare_int c c' = 0 then (if p_cmp_Compare_int d d' = 0 then (if p_cmp_Compare_int e e' = 0 then (if p_cmp_Compare_int f f' = 0 then 0 else p_cmp_Compare_int f f') else p_cmp_Compare_int e e') else p_cmp_Compare_int d d') else p_cmp_Compare_int c c') else p_cmp_Compare_int b b') else p_cmp_Compare_int a a') := rfl
  rw [e0, cmp_step, cmp_step, cmp_step, cmp_step, cmp_step, cmp_step]
  rfl
theorem before_eq {x y : List Int} (hx : x.length = 6) (hy : y.length = 6) : p_spec_l2Before x y = decide (lexC x y < 0) := by
  obtain ⟨a, b, c, d, e, f, rfl⟩ := len6 hx
  obtain ⟨a', b', c', d', e', f', rfl⟩ := len6 hy
  have e0 : p_spec_l2Before [a, b, c, d, e, f] [a', b', c', d', e', f'] = (if a = a' then (if b = b' then (if c = c' then (if d = d' then (if e = e' then (if f = f' then false else decide (f < f')) else decide (e < e')) else decide (d < d')) else decide (c < c')) else decide (b < b')) else decide (a < a')) := rfl
  rw [e0]
  exact before_step _ _ _ _ (before_step _ _ _ _ (before_step _ _ _ _ (before_step _ _ _ _ (before_step _ _ _ _ (before_step _ _ _ _ rfl)))))
theorem lex_anti : ∀ (x y : List Int), lexC x y = - lexC y x
  | [], [] => rfl
  | [], _ :: _ => rfl
  | _ :: _, [] => rfl
  | a :: l, b :: m => by
    have := lex_anti l m
    simp only [lexC]
    by_cases h : a < b
    · rw [if_pos h, if_neg (by omega), if_pos h]
    · rw [if_neg h]
      by_cases h2 : b < a
      · rw [if_pos h2, if_pos h2]; rfl
      · rw [if_neg h2, if_neg h2, if_neg h]; exact this
theorem lex_zero : ∀ (x y : List Int), x.length = y.length → lexC x y = 0 → x = y
  | [], [], _, _ => rfl
  | [], _ :: _, h, _ => by simp at h
  | _ :: _, [], h, _ => by simp at h
  | a :: l, b :: m, hl, h => by
    simp only [lexC] at h
    by_cases h1 : a < b
    · rw [if_pos h1] at h; omega
    · rw [if_neg h1] at h
      by_cases h2 : b < a
      · rw [if_pos h2] at h; omega
      · rw [if_neg h2] at h
        have := lex_zero l m (by simpa using hl) h
        rw [this, show a = b by omega]
/-- two dice in order -/
def prO (x y : List Int) : List Int × (List Int × Unit) := if 0 < lexC x y then (y, (x, ())) else (x, (y, ()))
theorem pairI_eq {x y : List Int} (hx : x.length = 6) (hy : y.length = 6) : p_impl_pairOf x y = prO x y := by
  unfold p_impl_pairOf prO
  rw [compare_eq hx hy]
theorem pairS_eq {x y : List Int} (hx : x.length = 6) (hy : y.length = 6) : p_spec_l5Pair x y = prO x y := by
  unfold p_spec_l5Pair prO
  rw [before_eq hy hx, lex_anti y x]
  by_cases h : 0 < lexC x y
  · rw [if_pos (by simp; omega), if_pos h]
  · rw [if_neg (by simp; omega), if_neg h]
theorem prO_le {x y : List Int} (h : lexC x y ≤ 0) : prO x y = (x, (y, ())) := by unfold prO; rw [if_neg (by omega)]
theorem prO_ge {x y : List Int} (hl : x.length = y.length) (h : lexC x y ≤ 0) : prO y x = (x, (y, ())) := by
  unfold prO
  have ha := lex_anti x y
  by_cases h0 : 0 < lexC y x
  · rw [if_pos h0]
  · rw [if_neg h0, lex_zero x y hl (by omega)]
theorem prO_or (x y : List Int) : (prO x y = (x, (y, ())) ∧ lexC x y ≤ 0) ∨ (prO x y = (y, (x, ())) ∧ lexC y x ≤ 0) := by
  unfold prO
  have ha := lex_anti x y
  by_cases h0 : 0 < lexC x y
  · rw [if_pos h0]; exact .inr ⟨rfl, by omega⟩
  · rw [if_neg h0]; exact .inl ⟨rfl, by omega⟩
def bse (x : List Int) : List Int := x.map (fun a => a - x.getD 0 0)
def opp : List Int → List Int
  | [a, b, c, e, f, g] => [a, a + g - f, a + g - e, a + g - c, a + g - b, g]
  | l => l
theorem base_I {x : List Int} (h : Die6 x) : p_impl_base x = bse x := by
  obtain ⟨a, b, c, e, f, g, rfl, h⟩ := h
  have e0 : p_impl_base [a, b, c, e, f, g] = [IntKind.wrap .i64 (a + IntKind.wrap .i64 (0 - a)), IntKind.wrap .i64 (b + IntKind.wrap .i64 (0 - a)), IntKind.wrap .i64 (c + IntKind.wrap .i64 (0 - a)), IntKind.wrap .i64 (e + IntKind.wrap .i64 (0 - a)), IntKind.wrap .i64 (f + IntKind.wrap .i64 (0 - a)), IntKind.wrap .i64 (g + IntKind.wrap .i64 (0 - a))] := rfl
  rw [e0, wr (n := 0 - a) (by omega) (by omega), wr (by omega) (by omega), wr (by omega) (by omega), wr (by omega) (by omega), wr (by omega) (by omega), wr (by omega) (by omega), wr (by omega) (by omega)]
  show [a + (0 - a), b + (0 - a), c + (0 - a), e + (0 - a), f + (0 - a), g + (0 - a)] = [a - a, b - a, c - a, e - a, f - a, g - a]
  congr 1
  · omega
  · congr 1
    · omega
    · congr 1
      · omega
      · congr 1
        · omega
        · congr 1
          · omega
          · congr 1; omega
theorem base_S {x : List Int} (h : Die6 x) : p_spec_l5Base x = bse x := by
  obtain ⟨a, b, c, e, f, g, rfl, h⟩ := h
  have e0 : p_spec_l5Base [a, b, c, e, f, g] = [IntKind.wrap .i64 (a - a), IntKind.wrap .i64 (b - a), IntKind.wrap .i64 (c - a), IntKind.wrap .i64 (e - a), IntKind.wrap .i64 (f - a), IntKind.wrap .i64 (g - a)] := rfl
  rw [e0, wr (by omega) (by omega), wr (by omega) (by omega), wr (by omega) (by omega), wr (by omega) (by omega), wr (by omega) (by omega), wr (by omega) (by omega)]
  rfl
theorem bse_die {x : List Int} (h : Die6 x) : Die6 (bse x) := by
  obtain ⟨a, b, c, e, f, g, rfl, h⟩ := h
  exact ⟨a - a, b - a, c - a, e - a, f - a, g - a, rfl, by omega, by omega, by omega, by omega, by omega, by omega, by omega⟩
theorem bse_zero {x : List Int} (h : Die6 x) : (bse x).getD 0 0 = 0 := by
  obtain ⟨a, b, c, e, f, g, rfl, h⟩ := h
  show a - a = 0
  omega
theorem opp_I {x : List Int} (h : Die6 x) : p_impl_opposite x = opp x := by
  obtain ⟨a, b, c, e, f, g, rfl, h⟩ := h
  have e0 : p_impl_opposite [a, b, c, e, f, g] = [IntKind.wrap .i64 (IntKind.wrap .i64 (a + g) - g), IntKind.wrap .i64 (IntKind.wrap .i64 (a + g) - f), IntKind.wrap .i64 (IntKind.wrap .i64 (a + g) - e), IntKind.wrap .i64 (IntKind.wrap .i64 (a + g) - c), IntKind.wrap .i64 (IntKind.wrap .i64 (a + g) - b), IntKind.wrap .i64 (IntKind.wrap .i64 (a + g) - a)] := rfl
  rw [e0, wr (n := a + g) (by omega) (by omega), wr (by omega) (by omega), wr (by omega) (by omega), wr (by omega) (by omega), wr (by omega) (by omega), wr (by omega) (by omega), wr (by omega) (by omega)]
  show [a + g - g, a + g - f, a + g - e, a + g - c, a + g - b, a + g - a] = [a, a + g - f, a + g - e, a + g - c, a + g - b, g]
  rw [show a + g - g = a by omega, show a + g - a = g by omega]
theorem opp_S {x : List Int} (h : Die6 x) (hd : p_impl_IsDie x = true) : p_spec_OppositeDie x = some (opp x, true) := by
  have h6 := h.len
  unfold p_spec_OppositeDie
  rw [l2Die_eq h6, Option.bind_some, if_pos hd]
  obtain ⟨a, b, c, e, f, g, rfl, h⟩ := h
  have e0 : cnt (fun i4 (s3 : (List Int)) (c5 : List Int → Option (List Int × Bool)) _ => c5 (s3.set i4.toNat (IntKind.wrap .i64 ((IntKind.wrap .i64 (([a, b, c, e, f, g].getD 0 0) + ([a, b, c, e, f, g].getD 5 0))) - ([a, b, c, e, f, g].getD (5 - i4).toNat 0))))) (fun i4 (s3 : (List Int)) => some (s3, true)) (Int.toNat (6 - 0)) 0 (List.replicate 6 0) = some ([IntKind.wrap .i64 (IntKind.wrap .i64 (a + g) - g), IntKind.wrap .i64 (IntKind.wrap .i64 (a + g) - f), IntKind.wrap .i64 (IntKind.wrap .i64 (a + g) - e), IntKind.wrap .i64 (IntKind.wrap .i64 (a + g) - c), IntKind.wrap .i64 (IntKind.wrap .i64 (a + g) - b), IntKind.wrap .i64 (IntKind.wrap .i64 (a + g) - a)], true) := rfl
  rw [e0, wr (n := a + g) (by omega) (by omega), wr (by omega) (by omega), wr (by omega) (by omega), wr (by omega) (by omega), wr (by omega) (by omega), wr (by omega) (by omega), wr (by omega) (by omega)]
  show some ([a + g - g, a + g - f, a + g - e, a + g - c, a + g - b, a + g - a], true) = some ([a, a + g - f, a + g - e, a + g - c, a + g - b, g], true)
  rw [show a + g - g = a by omega, show a + g - a = g by omega]
theorem opp_die {x : List Int} (h : Die6 x) : Die6 (opp x) := by
  obtain ⟨a, b, c, e, f, g, rfl, h⟩ := h
  exact ⟨a, a + g - f, a + g - e, a + g - c, a + g - b, g, rfl, by omega, by omega, by omega, by omega, by omega, by omega, by omega⟩
theorem opp_opp {x : List Int} (h : Die6 x) : opp (opp x) = x := by
  obtain ⟨a, b, c, e, f, g, rfl, h⟩ := h
  show [a, a + g - (a + g - b), a + g - (a + g - c), a + g - (a + g - e), a + g - (a + g - f), g] = [a, b, c, e, f, g]
  rw [show a + g - (a + g - b) = b by omega, show a + g - (a + g - c) = c by omega, show a + g - (a + g - e) = e by omega, show a + g - (a + g - f) = f by omega]
def spr (d : List Int) : Int := 6 * sq d - d.sum * d.sum
theorem sq6 (a b c e f g : Int) : sq [a, b, c, e, f, g] = a * a + b * b + c * c + e * e + f * f + g * g := by simp [sq]; omega
theorem sum6 (a b c e f g : Int) : [a, b, c, e, f, g].sum = a + b + c + e + f + g := by simp; omega
theorem spr_bse {x : List Int} (h : Die6 x) : spr (bse x) = spr x := by
  obtain ⟨a, b, c, e, f, g, rfl, h⟩ := h
  have e0 : bse [a, b, c, e, f, g] = [a - a, b - a, c - a, e - a, f - a, g - a] := rfl
  unfold spr
  rw [e0, sq6, sq6, sum6, sum6]
  grind
theorem spr_opp {x : List Int} (h : Die6 x) : spr (opp x) = spr x := by
  obtain ⟨a, b, c, e, f, g, rfl, h⟩ := h
  have e0 : opp [a, b, c, e, f, g] = [a, a + g - f, a + g - e, a + g - c, a + g - b, g] := rfl
  unfold spr
  rw [e0, sq6, sq6, sum6, sum6]
  grind
theorem die_of6 {x : List Int} (h : Die6 x) : p_impl_IsDie x = true := by
  obtain ⟨a, b, c, e, f, g, rfl, h⟩ := h
  exact (isDie6 a b c e f g).2 h
theorem isPair_eq {x y : List Int} (hx : x.length = 6) (hy : y.length = 6) : p_impl_IsPair (x, (y, ())) = ((p_impl_IsDie x && p_impl_IsDie y) && decide (lexC x y ≤ 0)) := by
  unfold p_impl_IsPair
  rw [compare_eq hx hy]
theorem good_eq {x y : List Int} (hx : x.length = 6) (hy : y.length = 6) : p_spec_l5Good (x, (y, ())) = some (p_impl_IsPair (x, (y, ()))) := by
  unfold p_spec_l5Good
  simp only
  rw [l2Die_eq hx, l2Die_eq hy, Option.bind_some, if_pos (by simp), Option.getD_some, isPair_eq hx hy, before_eq hy hx, lex_anti y x]
  congr 2
  by_cases h : lexC x y ≤ 0
  · have : ¬ - lexC x y < 0 := by omega
    simp [h, this]
  · have : - lexC x y < 0 := by omega
    simp [h, this]
    try omega
theorem prO_pair {x y : List Int} (hx : Die6 x) (hy : Die6 y) : p_impl_IsPair ((prO x y).1, ((prO x y).2.1, ())) = true := by
  rcases prO_or x y with ⟨e, h⟩ | ⟨e, h⟩
  · rw [e, isPair_eq hx.len hy.len, die_of6 hx, die_of6 hy]; simpa using h
  · rw [e, isPair_eq hy.len hx.len, die_of6 hx, die_of6 hy]; simpa using h
theorem eqT_pair (x : List Int × (List Int × Unit)) : eqT (.pair (.arr 6 (.int .i64)) (.pair (.arr 6 (.int .i64)) .unit)) x x = true := by
  show (eqIs x.1 x.1 && (eqIs x.2.1 x.2.1 && true)) = true
  simp [eqIs]
end Go.GA
