/- Plain law of EncodeRecord. -/
import Derived.Test.YtcminfahdindnaaDoorGP5
import Derived.Test.YtcminfahdindnaaDoorGP2
import Derived.Test.YtcminfahdindnaaDoorGP3
import Derived.Test.YtcminfahdindnaaDoorC13ew
namespace Go.GA
open Go
set_option maxRecDepth 100000
theorem num_spec : ∀ (fu n : Nat), 1 ≤ fu → n < 10 ^ fu → n ≤ 9223372036854775807 → p_spec_l1Num fu (n : Int) = some (numB n)
  | 0, _, h, _, _ => by omega
  | fu + 1, n, _, h, hm => by
    unfold p_spec_l1Num
    rw [if_neg (by omega)]
    have hsz : ((ByteArray.mk #[48, 49, 50, 51, 52, 53, 54, 55, 56, 57]).size : Int) = 10 := rfl
    by_cases hs : n < 10
    · rw [if_pos (by omega), hsz, if_pos (by omega)]
      have e1 : ((n : Int).toNat) = n := by omega
      have e2 : ((n : Int) + 1).toNat = n + 1 := by omega
      rw [e1, e2, one_digit' n hs]
    · rw [if_neg (by omega)]
      have hf : 1 ≤ fu := by
        rcases Nat.eq_zero_or_pos fu with rfl | h0
        · simp at h; omega
        · exact h0
      have ih := num_spec fu (n / 10) hf (by rw [Nat.pow_succ] at h; omega) (by omega)
      rw [tdiv10, tmod10]
      have ew : IntKind.wrap .i64 ((n / 10 : Nat) : Int) = ((n / 10 : Nat) : Int) := wrap_id (by omega) (by omega)
      have ew2 : IntKind.wrap .i64 (((n % 10 : Nat) : Int) + 1) = ((n % 10 : Nat) : Int) + 1 := wrap_id (by omega) (by omega)
      have hl : (numB (n / 10)).size ≤ 20 := by rw [numB_size]; exact Lib.nDigits_le20 _ (by omega)
      simp only [ew, ew2, ih, Option.bind_some, hsz]
      rw [if_pos (by omega), if_pos (by omega), if_pos (by omega)]
      have e1 : ((n % 10 : Nat) : Int).toNat = n % 10 := by omega
      have e2 : (((n % 10 : Nat) : Int) + 1).toNat = n % 10 + 1 := by omega
      have hl2 : (numB (n % 10)).size ≤ 20 := by rw [numB_size]; exact Lib.nDigits_le20 _ (by omega)
      rw [e1, e2, one_digit' _ (by omega), if_pos (by omega), numB_step hs]
/-- the sum over a text -/
theorem sum_spec (s : ByteArray) (h : s.size ≤ 2097152) : ∃ r : Nat, p_spec_l1Sum s = some (r : Int) ∧ r < 999979 ∧ p_impl_checksum s = some (r : Int) := by
  have e : p_impl_checksum s = p_spec_l1Sum s := rfl
  rw [e]
  suffices hh : ∃ r : Nat, p_spec_l1Sum s = some (r : Int) ∧ r < 999979 from by
    obtain ⟨r, h1, h2⟩ := hh
    exact ⟨r, h1, h2, h1⟩
  unfold p_spec_l1Sum
  rw [if_pos (by omega)]
  refine cnt_ind0 (S := Int) s.size (fun _ v => 0 ≤ v ∧ v < 999979) (fun r => ∃ q : Nat, r = some (q : Int) ∧ q < 999979) (by omega) (by omega) (fun v hv => ⟨v.toNat, by rw [show ((v.toNat : Nat) : Int) = v by omega], by omega⟩) (fun i v c _ hv hc => ?_)
  refine hc _ ?_
  have hb : (s.data.toList.getD (i : Int).toNat 0).toNat < 256 := UInt8.toNat_lt _
  have e1 : IntKind.wrap .i64 (41 * v) = 41 * v := wrap_id (by omega) (by omega)
  have e2 : IntKind.wrap .i64 (41 * v + ((s.data.toList.getD (i : Int).toNat 0).toNat : Int)) = 41 * v + ((s.data.toList.getD (i : Int).toNat 0).toNat : Int) := wrap_id (by omega) (by omega)
  have e3 : IntKind.wrap .i64 (41 * v + ((s.data.toList.getD (i : Int).toNat 0).toNat : Int) + 1) = 41 * v + ((s.data.toList.getD (i : Int).toNat 0).toNat : Int) + 1 := wrap_id (by omega) (by omega)
  rw [e1, e2, e3, Int.tmod_eq_emod_of_nonneg (by omega)]
  omega
theorem noneFunc {α : Type} (b : α → Bool) (dflt : α) (x : List α) : (!decide (0 ≤ cnt (fun i (s : Unit) c _ => if b (x.getD i.toNat dflt) = true then i else c ()) (fun _ _ => (-1 : Int)) (Int.toNat ((x.length : Int) - 0)) 0 ())) = x.all (fun a => !b a) := by
  have := cnt_find b dflt x x.length 0 (by omega)
  simp only [Int.sub_zero, Int.toNat_natCast]
  simp only [Int.natCast_zero] at this
  rw [this, List.drop_zero, List.not_any_eq_all_not]
/-- a byte is printed, and none of '#' -/
def okB (b : UInt8) : Bool := decide (32 ≤ (b.toNat : Int)) && decide ((b.toNat : Int) ≤ 126) && !(decide ((b.toNat : Int) = 35))
theorem bytes_spec (s : ByteArray) (m : Int) (h : s.size ≤ 2097152) : p_spec_l12Bytes s m = some (s.data.toList.all okB && decide ((s.size : Int) ≤ m)) := by
  unfold p_spec_l12Bytes
  rw [if_pos (by omega), cnt_list (fun b s' c => if (!okB b) = true then some false else c s') s.data.toList 0 (by rw [size_toList]; omega) (fun i s' c h0 h1 => ?_)]
  · rw [lrun_any (fun b => !okB b)]
    have e : (s.data.toList.any fun b => !okB b) = !s.data.toList.all okB := by rw [List.not_all_eq_any_not]
    rw [e]
    cases s.data.toList.all okB <;> simp
  · cases s'
    congr 2
    unfold okB p_spec_l1In
    generalize ((s.data.toList.getD i.toNat 0).toNat : Int) = x
    cases decide (32 ≤ x) <;> cases decide (x ≤ 126) <;> cases decide (x = 35) <;> rfl
theorem printed (s : ByteArray) (h : s.size ≤ 2097152) : p_impl_isPrinted s = some (s.data.toList.all okB) := by
  unfold p_impl_isPrinted p_impl_areAll_byte p_slices_ContainsFunc_byte_byte p_slices_IndexFunc_byte_byte
  rw [if_pos (by omega), noneFunc p_impl_areAll_byte_1]
  unfold bytesI
  rw [List.all_map]
  congr 2
  funext b
  simp [p_impl_areAll_byte_1, p_impl_isPrinted_1, okB]
theorem stands (s : ByteArray) (h : s.size ≤ 2097152) : p_spec_l1Stands s 64 = some (s.data.toList.any (· == 64)) := by
  unfold p_spec_l1Stands
  rw [if_pos (by omega), cnt_list (fun b s' c => if (b == 64) = true then some true else c s') s.data.toList 0 (by rw [size_toList]; omega) (fun i s' c h0 h1 => ?_)]
  · rw [lrun_any (fun b => b == 64)]
    cases s.data.toList.any (· == 64) <;> simp
  · cases s'
    have e : (((s.data.toList.getD i.toNat 0).toNat : Int) = 64) ↔ ((s.data.toList.getD i.toNat 0 == 64) = true) := by
      generalize s.data.toList.getD i.toNat 0 = b
      rw [beq_iff_eq]
      constructor
      · intro h
        have h2 : b.toNat = 64 := by omega
        exact UInt8.toNat_inj.1 h2
      · intro h; rw [h]; rfl
    by_cases hc : ((s.data.toList.getD i.toNat 0).toNat : Int) = 64
    · rw [if_pos hc, if_pos (e.1 hc)]
    · rw [if_neg hc, if_neg (fun h => hc (e.2 h))]
theorem contains_at (s : ByteArray) : p_strings_Contains s = s.data.toList.any (· == 64) := by
  unfold p_strings_Contains p_strings_Index p_internal_stringslite_Index p_internal_stringslite_IndexByte
  have e : (((ByteArray.mk #[64]).data.toList.getD 0 0).toNat : Int).toNat.toUInt8 = 64 := rfl
  rw [e]
  by_cases h : eqS (ByteArray.mk #[64]) s = true
  · rw [if_pos h]
    have := eqS_iff.1 h
    rw [← this]; rfl
  · rw [if_neg h, index_mem]
theorem contains_hash (s : ByteArray) : p_strings_Containsv1 s = s.data.toList.any (· == 35) := by
  unfold p_strings_Containsv1 p_strings_Indexv1 p_internal_stringslite_Indexv1 p_internal_stringslite_IndexByte
  have e : (((ByteArray.mk #[35]).data.toList.getD 0 0).toNat : Int).toNat.toUInt8 = 35 := rfl
  rw [e]
  by_cases h : eqS (ByteArray.mk #[35]) s = true
  · rw [if_pos h]
    have := eqS_iff.1 h
    rw [← this]; rfl
  · rw [if_neg h, index_mem]
theorem record_eq {x : ByteArray × (ByteArray × Unit)} (h1 : x.1.size ≤ 2097152) (h2 : x.2.1.size ≤ 2097152) : ∃ q, p_spec_l12Record x = some q ∧ p_impl_IsValidRecord x = some q ∧ (q = true → x.1.size ≤ 160 ∧ x.2.1.size ≤ 250 ∧ x.1.data.toList.all okB = true ∧ x.2.1.data.toList.all okB = true) := by
  unfold p_spec_l12Record p_impl_IsValidRecord p_impl_isCommand
  simp only [bytes_spec _ _ h1, bytes_spec _ _ h2, stands _ h1, printed _ h1, printed _ h2, contains_at, Option.isSome_some, implies_true, if_true, Option.getD_some, Option.bind_some, p_impl_within]
  rw [if_pos (by omega)]
  simp only [Option.bind_some]
  refine ⟨_, rfl, ?_, ?_⟩
  · have he : eqS x.1 (ByteArray.mk #[]) = decide (x.1.size = 0) := by
      by_cases hz : x.1.size = 0
      · rw [decide_eq_true hz, eqS_data]
        have : x.1.data.toList = [] := List.eq_nil_of_length_eq_zero (by rw [size_toList]; exact hz)
        rw [this]; rfl
      · rw [decide_eq_false hz, eqS_data]
        have hl := size_toList x.1
        cases hd : x.1.data.toList with
        | nil => rw [hd] at hl; simp at hl; omega
        | cons b l => rfl
    rw [he]
    congr 1
    generalize x.1.data.toList.all okB = a
    generalize x.2.1.data.toList.all okB = b
    generalize x.1.data.toList.any (· == 64) = c
    by_cases c1 : x.1.size = 0 <;> by_cases c2 : (x.1.size : Int) ≤ 160 <;> by_cases c3 : (x.2.1.size : Int) ≤ 250 <;> by_cases c4 : 1 ≤ (x.1.size : Int) <;> first | (exfalso; omega) | (simp only [c1, c2, c3, c4, decide_true, decide_false]; cases a <;> cases b <;> cases c <;> rfl)
  · intro hq
    simp only [Bool.and_eq_true, decide_eq_true_eq] at hq
    exact ⟨by omega, by omega, hq.1.1.2.1, hq.2.1⟩
/-- the text of a record, without its seal -/
def lineB (i : Nat) (x : ByteArray × (ByteArray × Unit)) : ByteArray := (((numB i ++ (ByteArray.mk #[32])) ++ x.1) ++ (ByteArray.mk #[64])) ++ x.2.1
theorem lineB_size {i : Nat} (hi : i ≤ 59) (x : ByteArray × (ByteArray × Unit)) : (lineB i x).size ≤ x.1.size + x.2.1.size + 4 ∧ (numB i).size ≤ 2 := by
  have h : (numB i).size ≤ 2 := by rw [numB_size]; exact nDigits_lt (by omega) (by omega)
  have e1 : (ByteArray.mk #[32]).size = 1 := rfl
  have e2 : (ByteArray.mk #[64]).size = 1 := rfl
  unfold lineB
  simp only [ba_append_size, e1, e2]
  omega
theorem lineB_hash {i : Nat} {x : ByteArray × (ByteArray × Unit)} (h1 : x.1.data.toList.all okB = true) (h2 : x.2.1.data.toList.all okB = true) : (lineB i x).data.toList.any (· == 35) = false := by
  rw [Bool.eq_false_iff]
  intro h
  rw [List.any_eq_true] at h
  obtain ⟨b, hb, he⟩ := h
  have he2 : b = 35 := by simpa using he
  subst he2
  unfold lineB at hb
  simp only [ba_append_list, List.mem_append, numB_list] at hb
  have ok : ∀ l : List UInt8, l.all okB = true → (35 : UInt8) ∈ l → False := by
    intro l hl hm
    have := List.all_eq_true.1 hl _ hm
    revert this
    decide
  rcases hb with (((hb | hb) | hb) | hb) | hb
  · have := dec_digit hb
    revert this
    decide
  · revert hb; decide
  · exact ok _ h1 hb
  · revert hb; decide
  · exact ok _ h2 hb
def sealedB (s : ByteArray) (r : Nat) : ByteArray := (s ++ (ByteArray.mk #[35])) ++ numB r
theorem seal_spec {fu : Nat} (hf : 6 ≤ fu) {s : ByteArray} (h : s.size ≤ 3000) : ∃ r : Nat, r < 999979 ∧ p_spec_l1Seal fu s = some (sealedB s r) ∧ (s.data.toList.any (· == 35) = false → p_impl_AppendChecksum s = some (sealedB s r, true)) := by
  obtain ⟨r, e1, hr, e2⟩ := sum_spec s (by omega)
  have hp : r < 10 ^ fu := Nat.lt_of_lt_of_le (show r < 10 ^ 6 by omega) (Nat.pow_le_pow_right (by omega) hf)
  have en := num_spec fu r (by omega) hp (by omega)
  have hn : (numB r).size ≤ 6 := by rw [numB_size]; exact nDigits_lt (by omega) (by omega)
  have e35 : (ByteArray.mk #[35]).size = 1 := rfl
  have hsz : (s ++ (ByteArray.mk #[35])).size = s.size + 1 := by rw [ba_append_size, e35]
  refine ⟨r, hr, ?_, fun hh => ?_⟩
  · unfold p_spec_l1Seal
    simp only [e1, en, Option.bind_some]
    rw [if_pos (by omega), if_pos (by rw [e35]; omega), if_pos (by rw [hsz]; omega)]
    rfl
  · unfold p_impl_AppendChecksum
    rw [if_pos (by omega), contains_hash, hh, if_neg (by simp; omega), if_pos (by rw [e35]; omega), e2]
    simp only [Option.bind_some, itoa_num r (by omega)]
    rw [if_pos (by rw [hsz]; omega), if_neg (by rw [ba_append_size, hsz]; omega)]
    rfl
theorem line_spec {fu : Nat} (hf : 6 ≤ fu) {i : Nat} (hi : i ≤ 59) {x : ByteArray × (ByteArray × Unit)} (b1 : x.1.size ≤ 160) (b2 : x.2.1.size ≤ 250) {T : ByteArray} (hT : T.size ≤ 500) (s1 : p_spec_l1Seal fu (lineB i x) = some T) : p_spec_l12Line fu (i : Int) x = some (T ++ ByteArray.mk #[10]) := by
  obtain ⟨hl, hn⟩ := lineB_size hi x
  have hp : i < 10 ^ fu := Nat.lt_of_lt_of_le (show i < 10 ^ 6 by omega) (Nat.pow_le_pow_right (by omega) hf)
  have f1 : (ByteArray.mk #[32]).size = 1 := rfl
  have f2 : (ByteArray.mk #[64]).size = 1 := rfl
  have f4 : (ByteArray.mk #[10]).size = 1 := rfl
  have g1 : (numB i ++ ByteArray.mk #[32]).size = (numB i).size + 1 := by rw [ba_append_size, f1]
  have g2 : ((numB i ++ ByteArray.mk #[32]) ++ x.1).size = (numB i).size + 1 + x.1.size := by rw [ba_append_size, g1]
  have g3 : (((numB i ++ ByteArray.mk #[32]) ++ x.1) ++ ByteArray.mk #[64]).size = (numB i).size + 1 + x.1.size + 1 := by rw [ba_append_size, g2, f2]
  have hL : (((numB i ++ (ByteArray.mk #[32])) ++ x.1) ++ (ByteArray.mk #[64])) ++ x.2.1 = lineB i x := rfl
  unfold p_spec_l12Line
  rw [num_spec fu i (by omega) hp (by omega), Option.bind_some, g1, g2, g3, f1, f2, hL, s1, Option.bind_some, f4, if_pos (by omega), if_pos (by omega), if_pos (by omega), if_pos (by omega), if_pos (by omega)]
theorem line_impl {i : Nat} (hi : i ≤ 59) {x : ByteArray × (ByteArray × Unit)} (b1 : x.1.size ≤ 160) (b2 : x.2.1.size ≤ 250) {T : ByteArray} (hT : T.size ≤ 500) (s3 : p_impl_AppendChecksum (lineB i x) = some (T, true)) :
    ((p_strconv_Itoa (i : Int)).bind (fun r8 => if (r8.size : Int) + ((ByteArray.mk #[32]).size : Int) ≤ 9223372036854775807 then if ((r8 ++ (ByteArray.mk #[32])).size : Int) + (x.1.size : Int) ≤ 9223372036854775807 then if (((r8 ++ (ByteArray.mk #[32])) ++ x.1).size : Int) + ((ByteArray.mk #[64]).size : Int) ≤ 9223372036854775807 then if ((((r8 ++ (ByteArray.mk #[32])) ++ x.1) ++ (ByteArray.mk #[64])).size : Int) + (x.2.1.size : Int) ≤ 9223372036854775807 then (p_impl_AppendChecksum ((((r8 ++ (ByteArray.mk #[32])) ++ x.1) ++ (ByteArray.mk #[64])) ++ x.2.1)).bind (fun r13 => (if r13.2 = true then if (r13.1.size : Int) + ((ByteArray.mk #[10]).size : Int) ≤ 9223372036854775807 then some ((r13.1 ++ (ByteArray.mk #[10])), true) else none else some ((ByteArray.mk #[]), false))) else none else none else none else none)) = some (T ++ ByteArray.mk #[10], true) := by
  obtain ⟨hl, hn⟩ := lineB_size hi x
  have f1 : (ByteArray.mk #[32]).size = 1 := rfl
  have f2 : (ByteArray.mk #[64]).size = 1 := rfl
  have f4 : (ByteArray.mk #[10]).size = 1 := rfl
  have g1 : (numB i ++ ByteArray.mk #[32]).size = (numB i).size + 1 := by rw [ba_append_size, f1]
  have g2 : ((numB i ++ ByteArray.mk #[32]) ++ x.1).size = (numB i).size + 1 + x.1.size := by rw [ba_append_size, g1]
  have g3 : (((numB i ++ ByteArray.mk #[32]) ++ x.1) ++ ByteArray.mk #[64]).size = (numB i).size + 1 + x.1.size + 1 := by rw [ba_append_size, g2, f2]
  have hL : (((numB i ++ (ByteArray.mk #[32])) ++ x.1) ++ (ByteArray.mk #[64])) ++ x.2.1 = lineB i x := rfl
  rw [itoa_num i (by omega), Option.bind_some, g1, g2, g3, f1, f2, hL, s3, Option.bind_some, f4, if_pos (by omega), if_pos (by omega), if_pos (by omega), if_pos (by omega), if_pos rfl, if_pos (show (T.size : Int) + ((1 : Nat) : Int) ≤ 9223372036854775807 by omega)]
theorem encode_eq {fu : Nat} (hf : 6 ≤ fu) {x0 : Int} {x : ByteArray × (ByteArray × Unit)} (h1 : x.1.size ≤ 2097152) (h2 : x.2.1.size ≤ 2097152) : ∃ q, p_spec_EncodeRecord fu x0 x = some q ∧ p_impl_EncodeRecord x0 x = some q := by
  obtain ⟨q, e1, e2, hq⟩ := record_eq h1 h2
  unfold p_spec_EncodeRecord p_impl_EncodeRecord
  have ew : p_impl_within x0 0 59 = p_spec_l1In x0 0 59 := rfl
  have ex : (x.1, (x.2.1, ())) = x := rfl
  rw [ew, ex, e1, e2]
  simp only [Option.isSome_some, implies_true, if_true, Option.getD_some]
  by_cases hc : (!p_spec_l1In x0 0 59 || !q) = true
  · rw [if_pos hc, if_pos hc]; exact ⟨_, rfl, rfl⟩
  · rw [if_neg hc, if_neg hc]
    simp only [Bool.or_eq_true, Bool.not_eq_true', not_or, Bool.not_eq_false] at hc
    obtain ⟨hin, hq1⟩ := hc
    obtain ⟨b1, b2, o1, o2⟩ := hq hq1
    unfold p_spec_l1In at hin
    simp only [Bool.and_eq_true, decide_eq_true_eq] at hin
    obtain ⟨i, rfl⟩ : ∃ i : Nat, x0 = (i : Int) := ⟨x0.toNat, by omega⟩
    have hi : i ≤ 59 := by omega
    obtain ⟨hl, hn⟩ := lineB_size hi x
    obtain ⟨r, hr, s1, s2⟩ := seal_spec hf (s := lineB i x) (by omega)
    have s3 := s2 (lineB_hash o1 o2)
    have hnr : (numB r).size ≤ 6 := by rw [numB_size]; exact nDigits_lt (by omega) (by omega)
    have f3 : (ByteArray.mk #[35]).size = 1 := rfl
    have g4 : (sealedB (lineB i x) r).size ≤ 500 := by unfold sealedB; rw [ba_append_size, ba_append_size, f3]; omega
    refine ⟨_, ?_, line_impl hi b1 b2 g4 s3⟩
    rw [line_spec hf hi b1 b2 g4 s1]
    rfl
theorem pure_EncodeRecord {x0 : Int} {x : ByteArray × (ByteArray × Unit)} (o : OkT (.pair .str (.pair .str .unit)) x) : p_laws_FnExactEncodeRecord 6 x0 x = some true := by
  have o1 : x.1.size ≤ 9223372036854775807 := o.1
  have o2 : x.2.1.size ≤ 9223372036854775807 := o.2.1
  unfold p_laws_FnExactEncodeRecord
  show (if p_laws_szLogRecord x 1048576 < 0 then some true else (p_spec_EncodeRecord 6 x0 x).bind (fun r4 => (p_impl_EncodeRecord x0 x).bind _)) = some true
  by_cases hs : p_laws_szLogRecord x 1048576 < 0
  · rw [if_pos hs]
  · rw [if_neg hs]
    have hb : x.1.size ≤ 2097152 ∧ x.2.1.size ≤ 2097152 := by
      unfold p_laws_szLogRecord at hs
      have e1 : IntKind.wrap .i64 (1048576 - (x.1.size : Int)) = 1048576 - (x.1.size : Int) := wrap_id (by omega) (by omega)
      rw [e1] at hs
      by_cases h1 : 1048576 - (x.1.size : Int) < 0
      · rw [if_pos h1] at hs; omega
      · rw [if_neg h1] at hs
        have e2 : IntKind.wrap .i64 (1048576 - (x.1.size : Int) - (x.2.1.size : Int)) = 1048576 - (x.1.size : Int) - (x.2.1.size : Int) := wrap_id (by omega) (by omega)
        rw [e2] at hs
        by_cases h2 : 1048576 - (x.1.size : Int) - (x.2.1.size : Int) < 0
        · rw [if_pos h2] at hs; omega
        · omega
    obtain ⟨q, e1, e2⟩ := encode_eq (fu := 6) (by omega) (x0 := x0) hb.1 hb.2
    rw [e1, e2]
    have h0 : eqS q.1 q.1 = true := eqS_iff.2 rfl
    simp [h0]
end Go.GA
