/- Plain law of FnCounts: distances of all counts together. -/
import Derived.Test.YtalieojbaiiioaaXKp
namespace Go.GA.E
open Go
set_option maxRecDepth 100000
def comps : Nat → Nat → List (List Nat)
  | _, 0 => [[]]
  | 0, _ + 1 => []
  | f + 1, n + 1 => (List.range (n + 1)).flatMap (fun k => (comps f (n - k)).map (fun r => (k + 1) :: r))
theorem comps_mem : ∀ (ws : List Nat) (f : Nat), (∀ w ∈ ws, 1 ≤ w) → ws.length ≤ f → ws ∈ comps f ws.sum
  | [], f, _, _ => by cases f <;> simp [comps]
  | w :: ws, f, h, hl => by
    have hw := h w (by simp)
    simp only [List.length_cons] at hl
    obtain ⟨g, rfl⟩ : ∃ g, f = g + 1 := ⟨f - 1, by omega⟩
    obtain ⟨k, rfl⟩ : ∃ k, w = k + 1 := ⟨w - 1, by omega⟩
    have ih := comps_mem ws g (fun v hv => h v (by simp [hv])) (by omega)
    rw [List.sum_cons, show k + 1 + ws.sum = (k + ws.sum) + 1 by omega]
    show _ ∈ (List.range (k + ws.sum + 1)).flatMap (fun j => (comps g (k + ws.sum - j)).map (fun r => (j + 1) :: r))
    rw [List.mem_flatMap]
    refine ⟨k, List.mem_range.2 (by omega), List.mem_map.2 ⟨ws, ?_, rfl⟩⟩
    rw [show k + ws.sum - k = ws.sum by omega]
    exact ih
section
variable {x y : List Int} {fu : Nat}
theorem wsF_pos : ∀ w ∈ wsF x, 1 ≤ w := fun w hw => by
  obtain ⟨v, hv, rfl⟩ := List.mem_map.1 hw
  exact List.count_pos_iff.2 ((dd_mem x v).1 hv)
theorem in_comps (h : x.length = 6) (hd : p_impl_IsDie x = true) : wsF x ∈ comps 6 6 := by
  have hdl : (dd x).length ≤ 6 := h ▸ dd_len x
  have := comps_mem (wsF x) 6 wsF_pos (by rw [wsF_len]; omega)
  rw [wsF_sum h hd] at this
  exact this
end
/-- the distance of counts, from the weights -/
def dW (n : Nat) (ws : List Nat) (r : List Int) : Nat := dA (fun i => (6 * ((r.getD i 0).toNat : Int) - (n : Int) * ((ws.getD i 0 : Nat) : Int)).natAbs * (6 * ((r.getD i 0).toNat : Int) - (n : Int) * ((ws.getD i 0 : Nat) : Int)).natAbs * (60 / ws.getD i 0)) ws.length
theorem fin_far : ∀ ws ∈ comps 6 6, ∀ n < 9, ((vec ws.length n).map (fun r => chN ws r * dW n ws r)).sum = (ws.length - 1) * 6 ^ n * (360 * n) := by decide +kernel
theorem dA_congr {f g : Nat → Nat} : ∀ n, (∀ i, i < n → f i = g i) → dA f n = dA g n
  | 0, _ => rfl
  | n + 1, h => by
    show dA f n + f n = dA g n + g n
    rw [dA_congr n (fun i hi => h i (by omega)), h n (by omega)]
section
variable {x y : List Int} {fu : Nat}
theorem distN_W {m n : Nat} (t : TD x m n) {r : List Int} (hr : r ∈ vec (m + 1) n) : distN x r = dW n (wsF x) r := by
  unfold distN dW
  rw [wsF_len]
  refine dA_congr _ (fun i hi => ?_)
  have e : wt x i = (wsF x).getD i 0 := by
    unfold wt wsF
    rw [List.getD_eq_getElem?_getD, List.getD_eq_getElem?_getD, List.getElem?_map, List.getElem?_eq_getElem hi]; rfl
  unfold distT offN
  rw [e, (vec_mem m n r hr).2.2]
theorem far_all {m n : Nat} (t : TD x m n) : ((vec (m + 1) n).map (fun r => chN (wsF x) r * distN x r)).sum = m * 6 ^ n * (360 * n) := by
  have := fin_far _ (in_comps t.h t.hd) n (by have := t.hn; omega)
  rw [wsF_len, t.hm] at this
  rw [show m * 6 ^ n * (360 * n) = (m + 1 - 1) * 6 ^ n * (360 * n) from rfl, ← this]
  congr 1
  exact map_congr_mem _ _ _ (fun r hr => by rw [distN_W t hr])
end
end Go.GA.E
