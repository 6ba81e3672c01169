/- Plain law of FnBursts: what other laws use too. -/
import Derived.Test.YtddljmnmkiofmaaWK3
namespace Go.GA
open Go
set_option maxRecDepth 100000
def tabV (L : Nat) (vs : List Nat) : List Int := (List.range L).map (fun j => ((vs.count j : Nat) : Int))
theorem tabV_len (L : Nat) (vs : List Nat) : (tabV L vs).length = L := by simp [tabV]
theorem tabV_get (L : Nat) (vs : List Nat) {j : Nat} (h : j < L) : (tabV L vs).getD j 0 = (vs.count j : Int) := by
  rw [List.getD_eq_getElem?_getD, List.getElem?_eq_getElem (by rw [tabV_len]; exact h)]
  simp [tabV]
theorem tabV_inc {L : Nat} {vs : List Nat} {c : Nat} (hc : c < L) (hl : vs.length ≤ 100000) : (tabV L vs).set c (IntKind.wrap .i64 ((tabV L vs).getD c 0 + 1)) = tabV L (vs ++ [c]) := by
  have hb : vs.count c ≤ 100000 := Nat.le_trans List.count_le_length hl
  rw [tabV_get L vs hc, wr (by omega) (by omega)]
  refine List.ext_getElem (by simp [tabV]) (fun j h1 h2 => ?_)
  rw [List.getElem_set]
  have hj : j < L := by simpa [tabV] using h2
  by_cases e : c = j
  · subst e
    rw [if_pos rfl]
    simp [tabV, List.count_append]
  · rw [if_neg e]
    simp [tabV, List.count_append, List.count_singleton, e]
theorem tabV_nil (L : Nat) : tabV L [] = List.replicate L 0 := by
  refine List.ext_getElem (by simp [tabV]) (fun j h1 h2 => ?_)
  simp [tabV]
theorem pick_one (g : Nat → Int) (v : Nat) : ∀ L, ((List.range L).map (fun j => g j * ((if v == j then 1 else 0 : Nat) : Int))).sum = if v < L then g v else 0
  | 0 => by simp
  | L + 1 => by
    rw [List.range_succ, List.map_append, List.sum_append, pick_one g v L]
    simp only [List.map_cons, List.map_nil, List.sum_cons, List.sum_nil]
    by_cases h : v < L
    · have h2 : (v == L) = false := by simp; omega
      rw [if_pos h, if_pos (show v < L + 1 by omega), h2]; simp
    · by_cases h3 : v = L
      · subst h3; simp
      · have h2 : (v == L) = false := by simp; omega
        rw [if_neg h, if_neg (show ¬ v < L + 1 by omega), h2]; simp
theorem sum_addI {α : Type} (f g : α → Int) : ∀ l : List α, (l.map (fun a => f a + g a)).sum = (l.map f).sum + (l.map g).sum
  | [] => by simp
  | a :: l => by simp only [List.map_cons, List.sum_cons, sum_addI f g l]; omega
theorem weigh (g : Nat → Int) (L : Nat) : ∀ vs : List Nat, (∀ v ∈ vs, v < L) → ((List.range L).map (fun j => g j * ((vs.count j : Nat) : Int))).sum = (vs.map g).sum
  | [], _ => by
    have : (List.range L).map (fun j => g j * ((([] : List Nat).count j : Nat) : Int)) = (List.range L).map (fun _ => (0 : Int)) := List.map_congr_left (fun j _ => by simp)
    rw [this]
    have z : ∀ l : List Nat, (l.map (fun _ => (0 : Int))).sum = 0 := fun l => by induction l with
      | nil => rfl
      | cons a l ih => simp only [List.map_cons, List.sum_cons, ih]; rfl
    rw [z]; rfl
  | v :: vs, h => by
    have ih := weigh g L vs (fun w hw => h w (by simp [hw]))
    have hv := h v (by simp)
    rw [List.map_cons, List.sum_cons, ← ih]
    have : (List.range L).map (fun j => g j * (((v :: vs).count j : Nat) : Int)) = (List.range L).map (fun j => g j * ((if v == j then 1 else 0 : Nat) : Int) + g j * ((vs.count j : Nat) : Int)) := List.map_congr_left (fun j _ => by
      rw [List.count_cons, Int.natCast_add, Int.mul_add]; omega)
    rw [this, sum_addI, pick_one, if_pos hv]
end Go.GA
