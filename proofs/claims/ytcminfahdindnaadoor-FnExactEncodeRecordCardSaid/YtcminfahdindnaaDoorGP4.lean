/- Plain laws of strings. -/
import Derived.Test.YtcminfahdindnaaDoorGP3
import Derived.Test.YtcminfahdindnaaDoorGA27
namespace Go.GA
open Go
theorem loop_eq (s : ByteArray) : ∀ (d i : Nat) (r : List UInt8), d + i = s.size → ByteArray.toList.loop s i r = r.reverse ++ s.data.toList.drop i
  | 0, i, r, h => by
    unfold ByteArray.toList.loop
    rw [if_neg (by omega), List.drop_eq_nil_of_le (by rw [Array.length_toList]; exact Nat.le_of_eq (by omega : s.size = i)), List.append_nil]
  | d + 1, i, r, h => by
    unfold ByteArray.toList.loop
    have hi : i < s.size := by omega
    have hi' : i < s.data.toList.length := by rw [Array.length_toList]; exact hi
    rw [if_pos hi, loop_eq s d (i + 1) _ (by omega), List.drop_eq_getElem_cons hi']
    have e : s.get! i = s.data.toList[i] := by
      show s.data[i]! = _
      rw [getElem!_pos s.data i hi, Array.getElem_toList]
    rw [e]
    simp
theorem toList_data (s : ByteArray) : s.toList = s.data.toList := by
  unfold ByteArray.toList
  rw [loop_eq s s.size 0 [] (by omega)]
  simp
theorem eqS_data (a b : ByteArray) : eqS a b = (a.data.toList == b.data.toList) := by
  unfold eqS; rw [toList_data, toList_data]
theorem eqS_iff {a b : ByteArray} : eqS a b = true ↔ a = b := by
  rw [eqS_data, beq_iff_eq]
  constructor
  · intro h
    cases a; cases b
    simp only at h
    rw [Array.toList_inj.1 h]
  · intro h; rw [h]
theorem size_toList (s : ByteArray) : s.data.toList.length = s.size := by rw [Array.length_toList]; rfl
theorem index_ge (c : UInt8) : ∀ (l : List UInt8), -1 ≤ Lib.indexByte l c
  | [] => Int.le_refl _
  | b :: l => by
    have ih := index_ge c l
    show -1 ≤ (if b == c then (0 : Int) else if Lib.indexByte l c == -1 then -1 else Lib.indexByte l c + 1)
    split
    · omega
    · split <;> omega
theorem index_iff (c : UInt8) : ∀ (l : List UInt8), 0 ≤ Lib.indexByte l c ↔ l.any (· == c) = true
  | [] => by simp [Lib.indexByte]
  | b :: l => by
    have ih := index_iff c l
    have hge := index_ge c l
    show 0 ≤ (if b == c then (0 : Int) else if Lib.indexByte l c == -1 then -1 else Lib.indexByte l c + 1) ↔ _
    rw [List.any_cons]
    by_cases hb : (b == c) = true
    · rw [if_pos hb, hb]; simp
    · rw [if_neg hb, Bool.eq_false_iff.2 hb, Bool.false_or, ← ih]
      by_cases h : (Lib.indexByte l c == -1) = true
      · rw [if_pos h]
        have h2 := beq_iff_eq.1 h
        omega
      · rw [if_neg h]
        have h2 : Lib.indexByte l c ≠ -1 := fun e => h (beq_iff_eq.2 e)
        omega
theorem index_mem (c : UInt8) (l : List UInt8) : decide (0 ≤ Lib.indexByte l c) = l.any (· == c) := by
  by_cases h : 0 ≤ Lib.indexByte l c
  · rw [decide_eq_true h, (index_iff c l).1 h]
  · rw [decide_eq_false h]
    cases e : l.any (· == c) with
    | false => rfl
    | true => exact absurd ((index_iff c l).2 e) h
end Go.GA
