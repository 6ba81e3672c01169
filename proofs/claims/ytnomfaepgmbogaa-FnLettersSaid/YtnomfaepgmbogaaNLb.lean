/- Plain law of FnLetters: tieless pools, letters of pools. -/
import Derived.Test.YtnomfaepgmbogaaNLa
import Derived.Test.YtnomfaepgmbogaaLTg
namespace Go.GA.E
open Go
set_option maxRecDepth 100000
theorem has_eq (l : List Int) (v : Int) : p_impl_has l v = l.any (fun y => decide (v = y)) := by
  unfold p_impl_has p_slices_Contains_int_int p_slices_Index_int_int
  exact anyI v l
theorem anyF (x y : List Int) : p_slices_ContainsFunc_int_intv1 x y = x.any (fun u => p_impl_has y u) := by
  unfold p_slices_ContainsFunc_int_intv1 p_slices_IndexFunc_int_intv1 p_impl_isTieless_1
  have h := cnt_find (fun u => p_impl_has y u) (0 : Int) x x.length 0 (by omega)
  simp only [Int.sub_zero, Int.toNat_natCast]
  simp only [Int.natCast_zero, List.drop_zero] at h
  exact h
theorem six_cases {d : List Int} (h : d.length = 6) : ∃ a b c e f g, d = [a, b, c, e, f, g] := by
  match d, h with
  | [a, b, c, e, f, g], _ => exact ⟨a, b, c, e, f, g, rfl⟩
theorem weight_impl {d : List Int} (h : d.length = 6) (v : Int) : p_impl_weight d v = ((d.count v : Nat) : Int) := by
  unfold p_impl_weight
  refine cnt_ind0 6 (fun i s => s = (((d.take i).count v : Nat) : Int)) (fun r => r = ((d.count v : Nat) : Int)) rfl rfl (fun s e => by rw [e, ← h, List.take_length]) (fun i s c hi e hc => hc _ ?_)
  have hc6 : (d.take i).count v ≤ 6 := by
    have := List.count_le_length (a := v) (l := d.take i)
    rw [List.length_take] at this
    omega
  rw [count_get d (by omega) v, e, Int.toNat_natCast]
  unfold p_impl_truth
  by_cases hq : d.getD i 0 = v
  · rw [if_pos (decide_eq_true hq), if_pos hq]
    exact wrap_i64 (by omega) (by omega)
  · rw [if_neg (by rw [decide_eq_false hq]; exact Bool.false_ne_true), if_neg hq, Int.add_zero, Nat.add_zero]
    exact wrap_i64 (by omega) (by omega)
theorem weight_spec {d : List Int} (h : d.length = 6) (v : Int) : p_spec_l8Weight d v = ((d.count v : Nat) : Int) := by
  unfold p_spec_l8Weight
  refine cnt_ind0 6 (fun i s => s = (((d.take i).count v : Nat) : Int)) (fun r => r = ((d.count v : Nat) : Int)) rfl rfl (fun s e => by rw [e, ← h, List.take_length]) (fun i s c hi e hc => ?_)
  have hc6 : (d.take i).count v ≤ 6 := by
    have := List.count_le_length (a := v) (l := d.take i)
    rw [List.length_take] at this
    omega
  rw [e, Int.toNat_natCast]
  by_cases hq : d.getD i 0 = v
  · rw [if_pos hq]
    refine hc _ ?_
    rw [count_get d (by omega) v, if_pos hq]
    exact wrap_i64 (by omega) (by omega)
  · rw [if_neg hq]
    refine hc _ ?_
    rw [count_get d (by omega) v, if_neg hq, Nat.add_zero]
theorem any_loop {R : Type} (b : Nat → Bool) (r t : R) : ∀ (d i : Nat), cnt (fun i6 (s5 : Unit) c7 _ => if b i6.toNat = true then r else c7 ()) (fun _ _ => t) d (i : Int) () = if (List.range' i d).any b = true then r else t
  | 0, i => by simp [cnt]
  | d + 1, i => by
    simp only [cnt, Int.toNat_natCast]
    rw [List.range'_succ, List.any_cons]
    by_cases h : b i = true
    · rw [if_pos h, h]; simp
    · rw [if_neg h]
      have h2 : b i = false := by simpa using h
      rw [h2, Bool.false_or]
      exact any_loop b r t d (i + 1)
def rw6 (p : List (List Int)) (i : Nat) : List Int := p.getD i (List.replicate 6 0)
/-- two dice share a face -/
def share (p : List (List Int)) (i k : Nat) : Bool := (rw6 p i).any fun u => decide (u ∈ rw6 p k)
def tied (p : List (List Int)) : Bool := (List.range' 0 p.length).any fun i => (List.range' 0 i).any fun k => share p i k
theorem any_congr {f g : Nat → Bool} {i d : Nat} (h : ∀ k, i ≤ k → k < i + d → f k = g k) : (List.range' i d).any f = (List.range' i d).any g := by
  rw [Bool.eq_iff_iff, List.any_eq_true, List.any_eq_true]
  constructor
  · rintro ⟨k, hk, e⟩
    have := List.mem_range'_1.1 hk
    exact ⟨k, hk, by rw [← h k this.1 this.2]; exact e⟩
  · rintro ⟨k, hk, e⟩
    have := List.mem_range'_1.1 hk
    exact ⟨k, hk, by rw [h k this.1 this.2]; exact e⟩
theorem tieless_impl (fu : Nat) (p : List (List Int)) : p_impl_isTieless fu p = some (!tied p) := by
  unfold p_impl_isTieless
  have e1 : Int.toNat ((p.length : Int) - 0) = p.length := by omega
  rw [e1]
  rw [cnt_congr (g := fun i2 (s1 : Unit) c3 _ => if ((List.range' 0 i2.toNat).any fun k => (rw6 p i2.toNat).any fun u => p_impl_has ((p.take i2.toNat).getD k (List.replicate 6 0)) u) = true then some false else c3 ()) (fun i s c => by
    have h0 := any_loop (fun k => p_slices_ContainsFunc_int_intv1 (p.getD i.toNat (List.replicate 6 0)) ((p.take i.toNat).getD k (List.replicate 6 0))) (some false) (c ()) i.toNat 0
    have e2 : Int.toNat ((i - 0) - 0) = i.toNat := by omega
    rw [e2]
    simp only [Int.natCast_zero] at h0
    rw [h0]
    simp only [anyF]
    rfl)]
  have h1 := any_loop (fun i => (List.range' 0 i).any fun k => (rw6 p i).any fun u => p_impl_has ((p.take i).getD k (List.replicate 6 0)) u) (some false) (some true) p.length 0
  simp only [Int.natCast_zero] at h1
  rw [h1]
  have h2 : (List.range' 0 p.length).any (fun i => (List.range' 0 i).any fun k => (rw6 p i).any fun u => p_impl_has ((p.take i).getD k (List.replicate 6 0)) u) = tied p := by
    unfold tied
    refine any_congr fun i _ hi => any_congr fun k _ hk => ?_
    unfold share
    congr 1
    funext u
    rw [has_eq]
    have e3 : (p.take i).getD k (List.replicate 6 0) = rw6 p k := by
      unfold rw6
      rw [List.getD_eq_getElem?_getD, List.getD_eq_getElem?_getD, List.getElem?_take_of_lt (by omega)]
    rw [e3, Bool.eq_iff_iff, List.any_eq_true, decide_eq_true_eq]
    constructor
    · rintro ⟨y, hy, e⟩
      rw [of_decide_eq_true e]; exact hy
    · intro h; exact ⟨u, h, by simp⟩
  rw [h2]
  cases tied p <;> rfl
theorem tieless_spec (fu : Nat) {p : List (List Int)} (hp : Six p) : p_spec_l10Tieless fu p = some (!tied p) := by
  unfold p_spec_l10Tieless
  have h6 : ∀ i, (rw6 p i).length = 6 := fun i => by
    unfold rw6
    by_cases hi : i < p.length
    · exact getD_six hp hi
    · rw [List.getD_eq_getElem?_getD, List.getElem?_eq_none (by omega)]; rfl
  have e1 : Int.toNat ((p.length : Int) - 0) = p.length := by omega
  rw [e1]
  have inner : ∀ (i k : Int) (t : Option Bool), cnt (fun i16 (s15 : Unit) c17 _ => (if 0 < (p_spec_l8Weight (p.getD k.toNat (List.replicate 6 0)) ((p.getD i.toNat (List.replicate 6 0)).getD i16.toNat 0)) then some false else c17 ())) (fun i16 (s15 : Unit) => t) (Int.toNat (6 - 0)) 0 () = if share p i.toNat k.toNat = true then some false else t := by
    intro i k t
    have h0 := any_loop (fun j => decide ((rw6 p i.toNat).getD j 0 ∈ rw6 p k.toNat)) (some false) t 6 0
    simp only [Int.natCast_zero] at h0
    rw [cnt_congr (g := fun i16 (s15 : Unit) c17 _ => if decide ((rw6 p i.toNat).getD i16.toNat 0 ∈ rw6 p k.toNat) = true then some false else c17 ()) (fun j s c => by
      show (if 0 < p_spec_l8Weight (rw6 p k.toNat) ((rw6 p i.toNat).getD j.toNat 0) then _ else _) = _
      rw [weight_spec (h6 _)]
      by_cases hm : (rw6 p i.toNat).getD j.toNat 0 ∈ rw6 p k.toNat
      · have := List.count_pos_iff.2 hm
        rw [if_pos (by omega), if_pos (decide_eq_true hm)]
      · rw [List.count_eq_zero.2 hm, if_neg (by omega), if_neg (by rw [decide_eq_false hm]; exact Bool.false_ne_true)])]
    refine Eq.trans h0 ?_
    have : (List.range' 0 6).any (fun j => decide ((rw6 p i.toNat).getD j 0 ∈ rw6 p k.toNat)) = share p i.toNat k.toNat := by
      unfold share
      obtain ⟨a, b, c, e, f, g, hd⟩ := six_cases (h6 i.toNat)
      rw [hd]
      rfl
    rw [this]
  rw [cnt_congr (g := fun i2 (s1 : Unit) c3 _ => if ((List.range' 0 i2.toNat).any fun k => share p i2.toNat k) = true then some false else c3 ()) (fun i s c => by
    have h0 := any_loop (fun k => share p i.toNat k) (some false) (c ()) i.toNat 0
    have e2 : Int.toNat (i - 0) = i.toNat := by omega
    rw [e2]
    simp only [Int.natCast_zero] at h0
    rw [← h0]
    exact cnt_congr (fun k s2 c2 => inner i k (c2 ())) _ _ _)]
  have h1 := any_loop (fun i => (List.range' 0 i).any fun k => share p i k) (some false) (some true) p.length 0
  simp only [Int.natCast_zero] at h1
  rw [h1]
  show (if tied p = true then _ else _) = _
  cases tied p <;> rfl
theorem isTieless_eq {fu : Nat} {p : List (List Int)} (hp : Six p) : p_impl_IsTieless fu p = some (if p_impl_IsPool p = true then (!tied p, true) else (false, false)) ∧ p_spec_IsTieless fu p = some (if p_impl_IsPool p = true then (!tied p, true) else (false, false)) := by
  unfold p_impl_IsTieless p_spec_IsTieless
  rw [tieless_impl, pool_eq hp, Option.bind_some, tieless_spec fu hp]
  by_cases h : p_impl_IsPool p = true
  · rw [h]; exact ⟨rfl, rfl⟩
  · rw [Bool.not_eq_true] at h; rw [h]; exact ⟨rfl, rfl⟩
end Go.GA.E
