/- Plain laws of logs: bytes. -/
import Derived.Test.YtiimmhnekpmnlaaDoorTMa
namespace Go.GA
open Go
set_option maxRecDepth 100000
theorem ba_ext2 {a b : ByteArray} (h : a.data.toList = b.data.toList) : a = b := by
  cases a; cases b
  simp only at h
  congr 1
  exact Array.toList_inj.1 h
theorem bytesB_list (xs : List Int) : (bytesB xs).data.toList = xs.map (fun n => UInt8.ofNat n.toNat) := by
  have key : ∀ (xs : List Int) (r : ByteArray), (xs.foldl (fun r n => r.push (UInt8.ofNat n.toNat)) r).data.toList = r.data.toList ++ xs.map (fun n => UInt8.ofNat n.toNat) := by
    intro xs
    induction xs with
    | nil => intro r; simp
    | cons a xs ih =>
      intro r
      rw [List.foldl_cons, ih]
      simp [ByteArray.push]
  have := key xs ByteArray.empty
  unfold bytesB
  rw [this]; rfl
theorem bytesB_app (xs ys : List Int) : bytesB (xs ++ ys) = bytesB xs ++ bytesB ys := by
  apply ba_ext2
  rw [ByteArray.data_append, Array.toList_append, bytesB_list, bytesB_list, bytesB_list, List.map_append]
theorem bytesB_bytesI (s : ByteArray) : bytesB (bytesI s) = s := by
  apply ba_ext2
  rw [bytesB_list, bytesI, List.map_map]
  conv => rhs; rw [← List.map_id s.data.toList]
  refine List.map_congr_left (fun b _ => ?_)
  simp
theorem bytesI_app (a b : ByteArray) : bytesI (a ++ b) = bytesI a ++ bytesI b := by
  unfold bytesI
  rw [ByteArray.data_append, Array.toList_append, List.map_append]
end Go.GA
