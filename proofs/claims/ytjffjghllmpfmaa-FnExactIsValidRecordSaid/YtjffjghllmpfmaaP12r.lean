/- Plain law of IsValidRecord. -/
import Derived.Test.YtjffjghllmpfmaaGp4
import Derived.Test.YtjffjghllmpfmaaC12rd
namespace Go.GA
open Go
set_option maxRecDepth 100000
theorem noneFunc {α : Type} (b : α → Bool) (dflt : α) (x : List α) : (!decide (0 ≤ cnt (fun i (s : Unit) c _ => if b (x.getD i.toNat dflt) = true then i else c ()) (fun _ _ => (-1 : Int)) (Int.toNat ((x.length : Int) - 0)) 0 ())) = x.all (fun a => !b a) := by
  have := cnt_find b dflt x x.length 0 (by omega)
  simp only [Int.sub_zero, Int.toNat_natCast]
  simp only [Int.natCast_zero] at this
  rw [this, List.drop_zero, List.not_any_eq_all_not]
/-- a byte is printed, and none of '#' -/
def okB (b : UInt8) : Bool := decide (32 ≤ (b.toNat : Int)) && decide ((b.toNat : Int) ≤ 126) && !(decide ((b.toNat : Int) = 35))
theorem bytes_spec (s : ByteArray) (m : Int) (h : s.size ≤ 2097152) : p_spec_l12Bytes s m = some (s.data.toList.all okB && decide ((s.size : Int) ≤ m)) := by
  unfold p_spec_l12Bytes
  rw [if_pos (by omega), cnt_list (fun b s' c => if (!okB b) = true then some false else c s') s.data.toList 0 (by rw [size_toList]; omega) (fun i s' c h0 h1 => ?_)]
  · rw [lrun_any (fun b => !okB b)]
    have e : (s.data.toList.any fun b => !okB b) = !s.data.toList.all okB := by rw [List.not_all_eq_any_not]
    rw [e]
    cases s.data.toList.all okB <;> simp
  · cases s'
    congr 2
    unfold okB p_spec_l1In
    generalize ((s.data.toList.getD i.toNat 0).toNat : Int) = x
    cases decide (32 ≤ x) <;> cases decide (x ≤ 126) <;> cases decide (x = 35) <;> rfl
theorem printed (s : ByteArray) (h : s.size ≤ 2097152) : p_impl_isPrinted s = some (s.data.toList.all okB) := by
  unfold p_impl_isPrinted p_impl_areAll_byte p_slices_ContainsFunc_byte_byte p_slices_IndexFunc_byte_byte
  rw [if_pos (by omega), noneFunc p_impl_areAll_byte_1]
  unfold bytesI
  rw [List.all_map]
  congr 2
  funext b
  simp [p_impl_areAll_byte_1, p_impl_isPrinted_1, okB]
theorem stands (s : ByteArray) (h : s.size ≤ 2097152) : p_spec_l1Stands s 64 = some (s.data.toList.any (· == 64)) := by
  unfold p_spec_l1Stands
  rw [if_pos (by omega), cnt_list (fun b s' c => if (b == 64) = true then some true else c s') s.data.toList 0 (by rw [size_toList]; omega) (fun i s' c h0 h1 => ?_)]
  · rw [lrun_any (fun b => b == 64)]
    cases s.data.toList.any (· == 64) <;> simp
  · cases s'
    have e : (((s.data.toList.getD i.toNat 0).toNat : Int) = 64) ↔ ((s.data.toList.getD i.toNat 0 == 64) = true) := by
      generalize s.data.toList.getD i.toNat 0 = b
      rw [beq_iff_eq]
      constructor
      · intro h
        have h2 : b.toNat = 64 := by omega
        exact UInt8.toNat_inj.1 h2
      · intro h; rw [h]; rfl
    by_cases hc : ((s.data.toList.getD i.toNat 0).toNat : Int) = 64
    · rw [if_pos hc, if_pos (e.1 hc)]
    · rw [if_neg hc, if_neg (fun h => hc (e.2 h))]
theorem contains_at (s : ByteArray) : p_strings_Contains s = s.data.toList.any (· == 64) := by
  unfold p_strings_Contains p_strings_Index p_internal_stringslite_Index p_internal_stringslite_IndexByte
  have e : (((ByteArray.mk #[64]).data.toList.getD 0 0).toNat : Int).toNat.toUInt8 = 64 := rfl
  rw [e]
  by_cases h : eqS (ByteArray.mk #[64]) s = true
  · rw [if_pos h]
    have := eqS_iff.1 h
    rw [← this]; rfl
  · rw [if_neg h, index_mem]
theorem record_eq {x : ByteArray × (ByteArray × Unit)} (h1 : x.1.size ≤ 2097152) (h2 : x.2.1.size ≤ 2097152) : ∃ q, p_spec_IsValidRecord x = some q ∧ p_impl_IsValidRecord x = some q := by
  unfold p_spec_IsValidRecord p_spec_l12Record p_impl_IsValidRecord p_impl_isCommand
  simp only [bytes_spec _ _ h1, bytes_spec _ _ h2, stands _ h1, printed _ h1, printed _ h2, contains_at, Option.isSome_some, implies_true, if_true, Option.getD_some, Option.bind_some, p_impl_within]
  rw [if_pos (by omega)]
  simp only [Option.bind_some]
  refine ⟨_, rfl, ?_⟩
  have he : eqS x.1 (ByteArray.mk #[]) = decide (x.1.size = 0) := by
    by_cases hz : x.1.size = 0
    · rw [decide_eq_true hz, eqS_data]
      have : x.1.data.toList = [] := List.eq_nil_of_length_eq_zero (by rw [size_toList]; exact hz)
      rw [this]; rfl
    · rw [decide_eq_false hz, eqS_data]
      have hl := size_toList x.1
      cases hd : x.1.data.toList with
      | nil => rw [hd] at hl; simp at hl; omega
      | cons b l => rfl
  rw [he]
  congr 1
  generalize x.1.data.toList.all okB = a
  generalize x.2.1.data.toList.all okB = b
  generalize x.1.data.toList.any (· == 64) = c
  by_cases c1 : x.1.size = 0 <;> by_cases c2 : (x.1.size : Int) ≤ 160 <;> by_cases c3 : (x.2.1.size : Int) ≤ 250 <;> by_cases c4 : 1 ≤ (x.1.size : Int) <;> first | (exfalso; omega) | (simp only [c1, c2, c3, c4, decide_true, decide_false]; cases a <;> cases b <;> cases c <;> rfl)
theorem pure_FnExactIsValidRecord {x : ByteArray × (ByteArray × Unit)} (o : OkT (.pair .str (.pair .str .unit)) x) : p_laws_FnExactIsValidRecord x = some true := by
  have o1 : x.1.size ≤ 9223372036854775807 := o.1
  have o2 : x.2.1.size ≤ 9223372036854775807 := o.2.1
  unfold p_laws_FnExactIsValidRecord
  show (if p_laws_szLogRecord x 1048576 < 0 then some true else (p_spec_IsValidRecord x).bind (fun r4 => (p_impl_IsValidRecord x).bind _)) = some true
  by_cases hs : p_laws_szLogRecord x 1048576 < 0
  · rw [if_pos hs]
  · rw [if_neg hs]
    have hb : x.1.size ≤ 2097152 ∧ x.2.1.size ≤ 2097152 := by
      unfold p_laws_szLogRecord at hs
      have e1 : IntKind.wrap .i64 (1048576 - (x.1.size : Int)) = 1048576 - (x.1.size : Int) := wrap_id (by omega) (by omega)
      rw [e1] at hs
      by_cases h1 : 1048576 - (x.1.size : Int) < 0
      · rw [if_pos h1] at hs; omega
      · rw [if_neg h1] at hs
        have e2 : IntKind.wrap .i64 (1048576 - (x.1.size : Int) - (x.2.1.size : Int)) = 1048576 - (x.1.size : Int) - (x.2.1.size : Int) := wrap_id (by omega) (by omega)
        rw [e2] at hs
        by_cases h2 : 1048576 - (x.1.size : Int) - (x.2.1.size : Int) < 0
        · rw [if_pos h2] at hs; omega
        · omega
    obtain ⟨q, e1, e2⟩ := record_eq hb.1 hb.2
    rw [e1, e2]
    simp
end Go.GA
