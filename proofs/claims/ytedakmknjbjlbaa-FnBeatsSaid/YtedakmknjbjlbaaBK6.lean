/- Plain law of FnBeats: dice compared. -/
import Derived.Test.YtedakmknjbjlbaaBK5
namespace Go.GA
open Go
set_option maxRecDepth 100000
/-- which of three counts -/
def kOf (a b : Int) : Nat := if b < a then 0 else if a = b then 1 else 2
def gC (a b : Int) (s : List Int) : List Int := s.set (kOf a b) (IntKind.wrap .i64 (s.getD (kOf a b) 0 + 1))
theorem cmp_k (a b : Int) : IntKind.wrap .i64 (1 - p_cmp_Compare_int a b) = (kOf a b : Int) := by
  unfold p_cmp_Compare_int p_cmp_isNaN_int kOf
  simp only [decide_true, Bool.not_true, Bool.false_eq_true, if_false]
  by_cases h1 : a < b
  · rw [if_pos h1, if_neg (by omega), if_neg (by omega)]; rfl
  · rw [if_neg h1]
    by_cases h2 : b < a
    · rw [if_pos h2, if_pos h2]; rfl
    · rw [if_neg h2, if_neg h2, if_pos (by omega)]; rfl
theorem kOf_lt (a b : Int) : kOf a b < 3 := by
  unfold kOf
  split
  · omega
  · split <;> omega
def rowC (x y : List Int) (i : Int) (s : List Int) : List Int := iter (fun j s => gC (x.getD i.toNat 0) (y.getD j.toNat 0) s) 6 0 s
def cmpL (x y : List Int) : List Int := iter (fun i s => rowC x y i s) 6 0 (List.replicate 3 0)
theorem compared_eq (x y : List Int) : p_impl_compared x y = some (cmpL x y) := by
  unfold p_impl_compared
  rw [cnt_congr (g := fun i (s : List Int) (c : List Int → Option (List Int)) _ => c (rowC x y i s)) (fun i s c => by
    rw [cnt_congr (g := fun j (s8 : List Int) (c10 : List Int → Option (List Int)) _ => c10 (gC (x.getD i.toNat 0) (y.getD j.toNat 0) s8)) (fun j s8 c10 => by
      rw [cmp_k]
      have := kOf_lt (x.getD i.toNat 0) (y.getD j.toNat 0)
      rw [if_pos (by omega), if_pos (by omega), Int.toNat_natCast]
      rfl)]
    rw [cnt_iter]
    rfl)]
  rw [cnt_iter]
  rfl
theorem l3Compare_eq (x y : List Int) : p_spec_l3Compare x y = cmpL x y := by
  unfold p_spec_l3Compare
  rw [cnt_congr (g := fun i (s : List Int) (c : List Int → List Int) _ => c (rowC x y i s)) (fun i s c => by
    rw [cnt_congr (g := fun j (s8 : List Int) (c10 : List Int → List Int) _ => c10 (gC (x.getD i.toNat 0) (y.getD j.toNat 0) s8)) (fun j s8 c10 => by
      unfold gC kOf
      split
      · rfl
      · split <;> rfl)]
    rw [cnt_iter]
    rfl)]
  rw [cnt_iter]
  rfl
theorem compareDice_eq {x y : List Int} (hx : x.length = 6) (hy : y.length = 6) : p_spec_CompareDice x y = p_impl_CompareDice x y := by
  unfold p_spec_CompareDice p_impl_CompareDice
  rw [l2Die_eq hx, l2Die_eq hy, compared_eq, l3Compare_eq, Option.bind_some]
  simp only [Option.isSome_some, Option.getD_some, implies_true, if_true, Option.bind_some]
theorem beats_eq (x y : List Int) : p_impl_beats x y = some (p_cmp_Compare_int ((cmpL x y).getD 0 0) ((cmpL x y).getD 2 0)) := by
  unfold p_impl_beats
  rw [compared_eq, Option.bind_some]
theorem cmp_pos (a b : Int) : 0 < p_cmp_Compare_int a b ↔ b < a := by
  unfold p_cmp_Compare_int p_cmp_isNaN_int
  simp only [decide_true, Bool.not_true, Bool.false_eq_true, if_false]
  split
  · omega
  · split <;> omega
def btB (x y : List Int) : Bool := decide ((cmpL x y).getD 2 0 < (cmpL x y).getD 0 0)
theorem l3Beats_eq (x y : List Int) : p_spec_l3Beats x y = btB x y := by
  unfold p_spec_l3Beats btB
  rw [l3Compare_eq]
theorem doesBeat_impl (x y : List Int) : p_impl_DoesBeat x y = some (if (p_impl_IsDie x && p_impl_IsDie y) = true then (btB x y, true) else (false, false)) := by
  unfold p_impl_DoesBeat
  rw [beats_eq, Option.bind_some]
  unfold btB
  cases p_impl_IsDie x <;> cases p_impl_IsDie y <;> simp [cmp_pos]
theorem doesBeat_eq {x y : List Int} (hx : x.length = 6) (hy : y.length = 6) : p_spec_DoesBeat x y = p_impl_DoesBeat x y := by
  unfold p_spec_DoesBeat
  rw [doesBeat_impl, l2Die_eq hx, l2Die_eq hy, l3Beats_eq, Option.bind_some]
  cases p_impl_IsDie x <;> cases p_impl_IsDie y <;> simp
theorem doesCover_eq {x y : List Int} (hx : x.length = 6) (hy : y.length = 6) : p_spec_DoesCover x y = some (p_impl_DoesCover x y) := by
  unfold p_spec_DoesCover p_impl_DoesCover
  rw [l2Die_eq hx, l2Die_eq hy, Option.bind_some]
  simp only [Option.isSome_some, Option.getD_some, implies_true, if_true]
  split
  · rfl
  · simp only [cnt, show Int.toNat (6 - 0) = 6 from rfl]
    repeat' split
    all_goals rfl
end Go.GA
