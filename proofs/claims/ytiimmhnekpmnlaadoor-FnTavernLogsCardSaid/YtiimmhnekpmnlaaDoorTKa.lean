/- Plain laws of logs: lines and their decoding. -/
import Derived.Test.YtiimmhnekpmnlaaDoorGpA
import Derived.Test.YtiimmhnekpmnlaaDoorC12td
namespace Go.GA
open Go
set_option maxRecDepth 100000
theorem num_spec : ∀ (fu n : Nat), 1 ≤ fu → n < 10 ^ fu → n ≤ 9223372036854775807 → p_spec_l1Num fu (n : Int) = some (numB n)
  | 0, _, h, _, _ => by omega
  | fu + 1, n, _, h, hm => by
    unfold p_spec_l1Num
    rw [if_neg (by omega)]
    have hsz : ((ByteArray.mk #[48, 49, 50, 51, 52, 53, 54, 55, 56, 57]).size : Int) = 10 := rfl
    by_cases hs : n < 10
    · rw [if_pos (by omega), hsz, if_pos (by omega)]
      have e1 : ((n : Int).toNat) = n := by omega
      have e2 : ((n : Int) + 1).toNat = n + 1 := by omega
      rw [e1, e2, one_digit' n hs]
    · rw [if_neg (by omega)]
      have hf : 1 ≤ fu := by
        rcases Nat.eq_zero_or_pos fu with rfl | h0
        · simp at h; omega
        · exact h0
      have ih := num_spec fu (n / 10) hf (by rw [Nat.pow_succ] at h; omega) (by omega)
      rw [tdiv10, tmod10]
      have ew : IntKind.wrap .i64 ((n / 10 : Nat) : Int) = ((n / 10 : Nat) : Int) := wrap_id (by omega) (by omega)
      have ew2 : IntKind.wrap .i64 (((n % 10 : Nat) : Int) + 1) = ((n % 10 : Nat) : Int) + 1 := wrap_id (by omega) (by omega)
      have hl : (numB (n / 10)).size ≤ 20 := by rw [numB_size]; exact Lib.nDigits_le20 _ (by omega)
      simp only [ew, ew2, ih, Option.bind_some, hsz]
      rw [if_pos (by omega), if_pos (by omega), if_pos (by omega)]
      have e1 : ((n % 10 : Nat) : Int).toNat = n % 10 := by omega
      have e2 : (((n % 10 : Nat) : Int) + 1).toNat = n % 10 + 1 := by omega
      have hl2 : (numB (n % 10)).size ≤ 20 := by rw [numB_size]; exact Lib.nDigits_le20 _ (by omega)
      rw [e1, e2, one_digit' _ (by omega), if_pos (by omega), numB_step hs]
/-- the sum over a text -/
theorem sum_spec (s : ByteArray) (h : s.size ≤ 2097152) : ∃ r : Nat, p_spec_l1Sum s = some (r : Int) ∧ r < 999979 ∧ p_impl_checksum s = some (r : Int) := by
  have e : p_impl_checksum s = p_spec_l1Sum s := rfl
  rw [e]
  suffices hh : ∃ r : Nat, p_spec_l1Sum s = some (r : Int) ∧ r < 999979 from by
    obtain ⟨r, h1, h2⟩ := hh
    exact ⟨r, h1, h2, h1⟩
  unfold p_spec_l1Sum
  rw [if_pos (by omega)]
  refine cnt_ind0 (S := Int) s.size (fun _ v => 0 ≤ v ∧ v < 999979) (fun r => ∃ q : Nat, r = some (q : Int) ∧ q < 999979) (by omega) (by omega) (fun v hv => ⟨v.toNat, by rw [show ((v.toNat : Nat) : Int) = v by omega], by omega⟩) (fun i v c _ hv hc => ?_)
  refine hc _ ?_
  have hb : (s.data.toList.getD (i : Int).toNat 0).toNat < 256 := UInt8.toNat_lt _
  have e1 : IntKind.wrap .i64 (41 * v) = 41 * v := wrap_id (by omega) (by omega)
  have e2 : IntKind.wrap .i64 (41 * v + ((s.data.toList.getD (i : Int).toNat 0).toNat : Int)) = 41 * v + ((s.data.toList.getD (i : Int).toNat 0).toNat : Int) := wrap_id (by omega) (by omega)
  have e3 : IntKind.wrap .i64 (41 * v + ((s.data.toList.getD (i : Int).toNat 0).toNat : Int) + 1) = 41 * v + ((s.data.toList.getD (i : Int).toNat 0).toNat : Int) + 1 := wrap_id (by omega) (by omega)
  rw [e1, e2, e3, Int.tmod_eq_emod_of_nonneg (by omega)]
  omega
theorem noneFunc {α : Type} (b : α → Bool) (dflt : α) (x : List α) : (!decide (0 ≤ cnt (fun i (s : Unit) c _ => if b (x.getD i.toNat dflt) = true then i else c ()) (fun _ _ => (-1 : Int)) (Int.toNat ((x.length : Int) - 0)) 0 ())) = x.all (fun a => !b a) := by
  have := cnt_find b dflt x x.length 0 (by omega)
  simp only [Int.sub_zero, Int.toNat_natCast]
  simp only [Int.natCast_zero] at this
  rw [this, List.drop_zero, List.not_any_eq_all_not]
/-- a byte is printed, and none of '#' -/
def okB (b : UInt8) : Bool := decide (32 ≤ (b.toNat : Int)) && decide ((b.toNat : Int) ≤ 126) && !(decide ((b.toNat : Int) = 35))
theorem bytes_spec (s : ByteArray) (m : Int) (h : s.size ≤ 2097152) : p_spec_l12Bytes s m = some (s.data.toList.all okB && decide ((s.size : Int) ≤ m)) := by
  unfold p_spec_l12Bytes
  rw [if_pos (by omega), cnt_list (fun b s' c => if (!okB b) = true then some false else c s') s.data.toList 0 (by rw [size_toList]; omega) (fun i s' c h0 h1 => ?_)]
  · rw [lrun_any (fun b => !okB b)]
    have e : (s.data.toList.any fun b => !okB b) = !s.data.toList.all okB := by rw [List.not_all_eq_any_not]
    rw [e]
    cases s.data.toList.all okB <;> simp
  · cases s'
    congr 2
    unfold okB p_spec_l1In
    generalize ((s.data.toList.getD i.toNat 0).toNat : Int) = x
    cases decide (32 ≤ x) <;> cases decide (x ≤ 126) <;> cases decide (x = 35) <;> rfl
theorem printed (s : ByteArray) (h : s.size ≤ 2097152) : p_impl_isPrinted s = some (s.data.toList.all okB) := by
  unfold p_impl_isPrinted p_impl_areAll_byte p_slices_ContainsFunc_byte_byte p_slices_IndexFunc_byte_byte
  rw [if_pos (by omega), noneFunc p_impl_areAll_byte_1]
  unfold bytesI
  rw [List.all_map]
  congr 2
  funext b
  simp [p_impl_areAll_byte_1, p_impl_isPrinted_1, okB]
theorem stands (s : ByteArray) (h : s.size ≤ 2097152) : p_spec_l1Stands s 64 = some (s.data.toList.any (· == 64)) := by
  unfold p_spec_l1Stands
  rw [if_pos (by omega), cnt_list (fun b s' c => if (b == 64) = true then some true else c s') s.data.toList 0 (by rw [size_toList]; omega) (fun i s' c h0 h1 => ?_)]
  · rw [lrun_any (fun b => b == 64)]
    cases s.data.toList.any (· == 64) <;> simp
  · cases s'
    have e : (((s.data.toList.getD i.toNat 0).toNat : Int) = 64) ↔ ((s.data.toList.getD i.toNat 0 == 64) = true) := by
      generalize s.data.toList.getD i.toNat 0 = b
      rw [beq_iff_eq]
      constructor
      · intro h
        have h2 : b.toNat = 64 := by omega
        exact UInt8.toNat_inj.1 h2
      · intro h; rw [h]; rfl
    by_cases hc : ((s.data.toList.getD i.toNat 0).toNat : Int) = 64
    · rw [if_pos hc, if_pos (e.1 hc)]
    · rw [if_neg hc, if_neg (fun h => hc (e.2 h))]
theorem contains_at (s : ByteArray) : p_strings_Contains s = s.data.toList.any (· == 64) := by
  unfold p_strings_Contains p_strings_Index p_internal_stringslite_Index p_internal_stringslite_IndexByte
  rw [show (decide (((ByteArray.mk #[64]).size : Int) = 0)) = false from rfl, Bool.false_or]
  have e : (((ByteArray.mk #[64]).data.toList.getD 0 0).toNat : Int).toNat.toUInt8 = 64 := rfl
  rw [e]
  by_cases h : eqS (ByteArray.mk #[64]) s = true
  · rw [if_pos h]
    have := eqS_iff.1 h
    rw [← this]; rfl
  · rw [if_neg h, index_mem]
theorem contains_hash (s : ByteArray) : p_strings_Containsv1 s = s.data.toList.any (· == 35) := by
  unfold p_strings_Containsv1 p_strings_Indexv1 p_internal_stringslite_Indexv1 p_internal_stringslite_IndexByte
  rw [show (decide (((ByteArray.mk #[35]).size : Int) = 0)) = false from rfl, Bool.false_or]
  have e : (((ByteArray.mk #[35]).data.toList.getD 0 0).toNat : Int).toNat.toUInt8 = 35 := rfl
  rw [e]
  by_cases h : eqS (ByteArray.mk #[35]) s = true
  · rw [if_pos h]
    have := eqS_iff.1 h
    rw [← this]; rfl
  · rw [if_neg h, index_mem]
theorem record_eq {x : ByteArray × (ByteArray × Unit)} (h1 : x.1.size ≤ 2097152) (h2 : x.2.1.size ≤ 2097152) : ∃ q, p_spec_l12Record x = some q ∧ p_impl_IsValidRecord x = some q ∧ (q = true → x.1.size ≤ 160 ∧ x.2.1.size ≤ 250 ∧ x.1.data.toList.all okB = true ∧ x.2.1.data.toList.all okB = true ∧ x.1.data.toList.any (· == 64) = false) := by
  unfold p_spec_l12Record p_impl_IsValidRecord p_impl_isCommand
  simp only [bytes_spec _ _ h1, bytes_spec _ _ h2, stands _ h1, printed _ h1, printed _ h2, contains_at, Option.isSome_some, implies_true, if_true, Option.getD_some, Option.bind_some, p_impl_within]
  rw [if_pos (by omega)]
  simp only [Option.bind_some]
  refine ⟨_, rfl, ?_, ?_⟩
  · have he : eqS x.1 (ByteArray.mk #[]) = decide (x.1.size = 0) := by
      by_cases hz : x.1.size = 0
      · rw [decide_eq_true hz, eqS_data]
        have : x.1.data.toList = [] := List.eq_nil_of_length_eq_zero (by rw [size_toList]; exact hz)
        rw [this]; rfl
      · rw [decide_eq_false hz, eqS_data]
        have hl := size_toList x.1
        cases hd : x.1.data.toList with
        | nil => rw [hd] at hl; simp at hl; omega
        | cons b l => rfl
    rw [he]
    congr 1
    generalize x.1.data.toList.all okB = a
    generalize x.2.1.data.toList.all okB = b
    generalize x.1.data.toList.any (· == 64) = c
    by_cases c1 : x.1.size = 0 <;> by_cases c2 : (x.1.size : Int) ≤ 160 <;> by_cases c3 : (x.2.1.size : Int) ≤ 250 <;> by_cases c4 : 1 ≤ (x.1.size : Int) <;> first | (exfalso; omega) | (simp only [c1, c2, c3, c4, decide_true, decide_false]; cases a <;> cases b <;> cases c <;> rfl)
  · intro hq
    simp only [Bool.and_eq_true, decide_eq_true_eq] at hq
    exact ⟨by omega, by omega, hq.1.1.2.1, hq.2.1, by simpa using hq.1.2⟩
/-- the text of a record, without its seal -/
def lineB (i : Nat) (x : ByteArray × (ByteArray × Unit)) : ByteArray := (((numB i ++ (ByteArray.mk #[32])) ++ x.1) ++ (ByteArray.mk #[64])) ++ x.2.1
theorem lineB_size {i : Nat} (hi : i ≤ 59) (x : ByteArray × (ByteArray × Unit)) : (lineB i x).size ≤ x.1.size + x.2.1.size + 4 ∧ (numB i).size ≤ 2 := by
  have h : (numB i).size ≤ 2 := by rw [numB_size]; exact nDigits_lt (by omega) (by omega)
  have e1 : (ByteArray.mk #[32]).size = 1 := rfl
  have e2 : (ByteArray.mk #[64]).size = 1 := rfl
  unfold lineB
  simp only [ba_append_size, e1, e2]
  omega
theorem lineB_hash {i : Nat} {x : ByteArray × (ByteArray × Unit)} (h1 : x.1.data.toList.all okB = true) (h2 : x.2.1.data.toList.all okB = true) : (lineB i x).data.toList.any (· == 35) = false := by
  rw [Bool.eq_false_iff]
  intro h
  rw [List.any_eq_true] at h
  obtain ⟨b, hb, he⟩ := h
  have he2 : b = 35 := by simpa using he
  subst he2
  unfold lineB at hb
  simp only [ba_append_list, List.mem_append, numB_list] at hb
  have ok : ∀ l : List UInt8, l.all okB = true → (35 : UInt8) ∈ l → False := by
    intro l hl hm
    have := List.all_eq_true.1 hl _ hm
    revert this
    decide
  rcases hb with (((hb | hb) | hb) | hb) | hb
  · have := dec_digit hb
    revert this
    decide
  · revert hb; decide
  · exact ok _ h1 hb
  · revert hb; decide
  · exact ok _ h2 hb
def sumN (s : ByteArray) : Nat := ((p_spec_l1Sum s).getD 0).toNat
def sealedB (s : ByteArray) (r : Nat) : ByteArray := (s ++ (ByteArray.mk #[35])) ++ numB r
theorem seal_spec {fu : Nat} (hf : 6 ≤ fu) {s : ByteArray} (h : s.size ≤ 3000) : ∃ r : Nat, r = sumN s ∧ r < 999979 ∧ p_spec_l1Seal fu s = some (sealedB s r) ∧ (s.data.toList.any (· == 35) = false → p_impl_AppendChecksum s = some (sealedB s r, true)) := by
  obtain ⟨r, e1, hr, e2⟩ := sum_spec s (by omega)
  have hp : r < 10 ^ fu := Nat.lt_of_lt_of_le (show r < 10 ^ 6 by omega) (Nat.pow_le_pow_right (by omega) hf)
  have en := num_spec fu r (by omega) hp (by omega)
  have hn : (numB r).size ≤ 6 := by rw [numB_size]; exact nDigits_lt (by omega) (by omega)
  have e35 : (ByteArray.mk #[35]).size = 1 := rfl
  have hsz : (s ++ (ByteArray.mk #[35])).size = s.size + 1 := by rw [ba_append_size, e35]
  refine ⟨r, by unfold sumN; rw [e1]; rfl, hr, ?_, fun hh => ?_⟩
  · unfold p_spec_l1Seal
    simp only [e1, en, Option.bind_some]
    rw [if_pos (by omega), if_pos (by rw [e35]; omega), if_pos (by rw [hsz]; omega)]
    rfl
  · unfold p_impl_AppendChecksum
    rw [if_pos (by omega), contains_hash, hh, if_neg (by simp; omega), if_pos (by rw [e35]; omega), e2]
    simp only [Option.bind_some, itoa_num r (by omega)]
    rw [if_pos (by rw [hsz]; omega), if_neg (by rw [ba_append_size, hsz]; omega)]
    rfl
theorem line_spec {fu : Nat} (hf : 6 ≤ fu) {i : Nat} (hi : i ≤ 59) {x : ByteArray × (ByteArray × Unit)} (b1 : x.1.size ≤ 160) (b2 : x.2.1.size ≤ 250) {T : ByteArray} (hT : T.size ≤ 500) (s1 : p_spec_l1Seal fu (lineB i x) = some T) : p_spec_l12Line fu (i : Int) x = some (T ++ ByteArray.mk #[10]) := by
  obtain ⟨hl, hn⟩ := lineB_size hi x
  have hp : i < 10 ^ fu := Nat.lt_of_lt_of_le (show i < 10 ^ 6 by omega) (Nat.pow_le_pow_right (by omega) hf)
  have f1 : (ByteArray.mk #[32]).size = 1 := rfl
  have f2 : (ByteArray.mk #[64]).size = 1 := rfl
  have f4 : (ByteArray.mk #[10]).size = 1 := rfl
  have g1 : (numB i ++ ByteArray.mk #[32]).size = (numB i).size + 1 := by rw [ba_append_size, f1]
  have g2 : ((numB i ++ ByteArray.mk #[32]) ++ x.1).size = (numB i).size + 1 + x.1.size := by rw [ba_append_size, g1]
  have g3 : (((numB i ++ ByteArray.mk #[32]) ++ x.1) ++ ByteArray.mk #[64]).size = (numB i).size + 1 + x.1.size + 1 := by rw [ba_append_size, g2, f2]
  have hL : (((numB i ++ (ByteArray.mk #[32])) ++ x.1) ++ (ByteArray.mk #[64])) ++ x.2.1 = lineB i x := rfl
  unfold p_spec_l12Line
  rw [num_spec fu i (by omega) hp (by omega), Option.bind_some, g1, g2, g3, f1, f2, hL, s1, Option.bind_some, f4, if_pos (by omega), if_pos (by omega), if_pos (by omega), if_pos (by omega), if_pos (by omega)]
theorem line_impl {i : Nat} (hi : i ≤ 59) {x : ByteArray × (ByteArray × Unit)} (b1 : x.1.size ≤ 160) (b2 : x.2.1.size ≤ 250) {T : ByteArray} (hT : T.size ≤ 500) (s3 : p_impl_AppendChecksum (lineB i x) = some (T, true)) :
    ((p_strconv_Itoa (i : Int)).bind (fun r8 => if (r8.size : Int) + ((ByteArray.mk #[32]).size : Int) ≤ 9223372036854775807 then if ((r8 ++ (ByteArray.mk #[32])).size : Int) + (x.1.size : Int) ≤ 9223372036854775807 then if (((r8 ++ (ByteArray.mk #[32])) ++ x.1).size : Int) + ((ByteArray.mk #[64]).size : Int) ≤ 9223372036854775807 then if ((((r8 ++ (ByteArray.mk #[32])) ++ x.1) ++ (ByteArray.mk #[64])).size : Int) + (x.2.1.size : Int) ≤ 9223372036854775807 then (p_impl_AppendChecksum ((((r8 ++ (ByteArray.mk #[32])) ++ x.1) ++ (ByteArray.mk #[64])) ++ x.2.1)).bind (fun r13 => (if r13.2 = true then if (r13.1.size : Int) + ((ByteArray.mk #[10]).size : Int) ≤ 9223372036854775807 then some ((r13.1 ++ (ByteArray.mk #[10])), true) else none else some ((ByteArray.mk #[]), false))) else none else none else none else none)) = some (T ++ ByteArray.mk #[10], true) := by
  obtain ⟨hl, hn⟩ := lineB_size hi x
  have f1 : (ByteArray.mk #[32]).size = 1 := rfl
  have f2 : (ByteArray.mk #[64]).size = 1 := rfl
  have f4 : (ByteArray.mk #[10]).size = 1 := rfl
  have g1 : (numB i ++ ByteArray.mk #[32]).size = (numB i).size + 1 := by rw [ba_append_size, f1]
  have g2 : ((numB i ++ ByteArray.mk #[32]) ++ x.1).size = (numB i).size + 1 + x.1.size := by rw [ba_append_size, g1]
  have g3 : (((numB i ++ ByteArray.mk #[32]) ++ x.1) ++ ByteArray.mk #[64]).size = (numB i).size + 1 + x.1.size + 1 := by rw [ba_append_size, g2, f2]
  have hL : (((numB i ++ (ByteArray.mk #[32])) ++ x.1) ++ (ByteArray.mk #[64])) ++ x.2.1 = lineB i x := rfl
  rw [itoa_num i (by omega), Option.bind_some, g1, g2, g3, f1, f2, hL, s3, Option.bind_some, f4, if_pos (by omega), if_pos (by omega), if_pos (by omega), if_pos (by omega), if_pos rfl, if_pos (show (T.size : Int) + ((1 : Nat) : Int) ≤ 9223372036854775807 by omega)]

abbrev Rec := ByteArray × (ByteArray × Unit)
/-- a record that may stand in a log -/
structure Vr (x : Rec) : Prop where
  ok : p_spec_l12Record x = some true
  s1 : x.1.size ≤ 2097152
  s2 : x.2.1.size ≤ 2097152
theorem Vr.facts {x : Rec} (h : Vr x) : x.1.size ≤ 160 ∧ x.2.1.size ≤ 250 ∧ x.1.data.toList.all okB = true ∧ x.2.1.data.toList.all okB = true ∧ x.1.data.toList.any (· == 64) = false := by
  obtain ⟨q, e1, _, hq⟩ := record_eq h.s1 h.s2
  have : q = true := by simpa using e1.symm.trans h.ok
  exact hq this
/-- the line of a record -/
def Ln (i : Nat) (x : Rec) : ByteArray := sealedB (lineB i x) (sumN (lineB i x)) ++ ByteArray.mk #[10]
theorem enc_ok {fu i : Nat} (hf : 6 ≤ fu) (hi : i ≤ 59) {x : Rec} (h : Vr x) : p_impl_EncodeRecord (i : Int) x = some (Ln i x, true) ∧ p_spec_l12Line fu (i : Int) x = some (Ln i x) ∧ (Ln i x).size ≤ 501 := by
  obtain ⟨b1, b2, o1, o2, _⟩ := h.facts
  obtain ⟨q, e1, e2, _⟩ := record_eq h.s1 h.s2
  have hq : q = true := by simpa using e1.symm.trans h.ok
  subst hq
  obtain ⟨hl, hn⟩ := lineB_size hi x
  obtain ⟨r, hr0, hr, s1, s2⟩ := seal_spec hf (s := lineB i x) (by omega)
  have s3 := s2 (lineB_hash o1 o2)
  have hnr : (numB r).size ≤ 6 := by rw [numB_size]; exact nDigits_lt (by omega) (by omega)
  have f3 : (ByteArray.mk #[35]).size = 1 := rfl
  have f4 : (ByteArray.mk #[10]).size = 1 := rfl
  have g4 : (sealedB (lineB i x) r).size ≤ 500 := by unfold sealedB; rw [ba_append_size, ba_append_size, f3]; omega
  subst hr0
  refine ⟨?_, line_spec hf hi b1 b2 g4 s1, by unfold Ln; rw [ba_append_size, f4]; omega⟩
  unfold p_impl_EncodeRecord
  have ew : p_impl_within (i : Int) 0 59 = true := by unfold p_impl_within; simp; omega
  have ex : (x.1, (x.2.1, ())) = x := rfl
  rw [ew, ex, e2]
  exact line_impl hi b1 b2 g4 s3
theorem enc_bad {i : Nat} {x : Rec} (h1 : x.1.size ≤ 2097152) (h2 : x.2.1.size ≤ 2097152) (h : ¬ (i ≤ 59 ∧ Vr x)) : p_impl_EncodeRecord (i : Int) x = some (ByteArray.mk #[], false) := by
  obtain ⟨q, e1, e2, _⟩ := record_eq h1 h2
  unfold p_impl_EncodeRecord
  have ex : (x.1, (x.2.1, ())) = x := rfl
  rw [ex, e2]
  simp only [Option.isSome_some, implies_true, if_true, Option.getD_some]
  rw [if_pos]
  by_cases hi : i ≤ 59
  · have hq : q = false := by
      cases q with
      | false => rfl
      | true => exact absurd ⟨hi, e1, h1, h2⟩ h
    rw [hq]; simp
  · have ew : p_impl_within (i : Int) 0 59 = false := by unfold p_impl_within; simp; omega
    rw [ew]; rfl
theorem cut_eq (x : ByteArray) (h : x.size ≤ 2097152) : p_strings_Cut x = some (if fi 35 x < x.size then (x.extract 0 (fi 35 x), x.extract (fi 35 x + 1) x.size, true) else (x, ByteArray.mk #[], false)) := by
  have e : p_internal_stringslite_Indexv1 x = idxG 35 x := rfl
  have e1 : ((ByteArray.mk #[35]).size : Int) = 1 := rfl
  unfold p_strings_Cut p_internal_stringslite_Cut
  rw [if_pos (by omega), e, idxG_eq, e1]
  by_cases hh : fi 35 x < x.size
  · have ew : IntKind.wrap .i64 (((fi 35 x : Nat) : Int) + 1) = ((fi 35 x : Nat) : Int) + 1 := wrap_id (by omega) (by omega)
    simp only [if_pos hh, ew]
    rw [if_pos (by omega), if_pos (by omega), if_pos (by omega), if_pos (by omega), if_pos (by omega)]
    have t1 : ((fi 35 x : Nat) : Int).toNat = fi 35 x := by omega
    have t2 : (((fi 35 x : Nat) : Int) + 1).toNat = fi 35 x + 1 := by omega
    have t3 : ((x.size : Nat) : Int).toNat = x.size := by omega
    rw [t1, t2, t3]
    rfl
  · simp only [if_neg hh]
    rw [if_pos (by omega), if_neg (by omega)]
    rfl
theorem cutv1_eq (x : ByteArray) (h : x.size ≤ 2097152) : p_strings_Cutv1 x = some (if fi 32 x < x.size then (x.extract 0 (fi 32 x), x.extract (fi 32 x + 1) x.size, true) else (x, ByteArray.mk #[], false)) := by
  have e : p_internal_stringslite_Indexv2 x = idxG 32 x := rfl
  have e1 : ((ByteArray.mk #[32]).size : Int) = 1 := rfl
  unfold p_strings_Cutv1 p_internal_stringslite_Cutv1
  rw [if_pos (by omega), e, idxG_eq, e1]
  by_cases hh : fi 32 x < x.size
  · have ew : IntKind.wrap .i64 (((fi 32 x : Nat) : Int) + 1) = ((fi 32 x : Nat) : Int) + 1 := wrap_id (by omega) (by omega)
    simp only [if_pos hh, ew]
    rw [if_pos (by omega), if_pos (by omega), if_pos (by omega), if_pos (by omega), if_pos (by omega)]
    have t1 : ((fi 32 x : Nat) : Int).toNat = fi 32 x := by omega
    have t2 : (((fi 32 x : Nat) : Int) + 1).toNat = fi 32 x + 1 := by omega
    have t3 : ((x.size : Nat) : Int).toNat = x.size := by omega
    rw [t1, t2, t3]
    rfl
  · simp only [if_neg hh]
    rw [if_pos (by omega), if_neg (by omega)]
    rfl
theorem cutv2_eq (x : ByteArray) (h : x.size ≤ 2097152) : p_strings_Cutv2 x = some (if fi 64 x < x.size then (x.extract 0 (fi 64 x), x.extract (fi 64 x + 1) x.size, true) else (x, ByteArray.mk #[], false)) := by
  have e : p_internal_stringslite_Index x = idxG 64 x := rfl
  have e1 : ((ByteArray.mk #[64]).size : Int) = 1 := rfl
  unfold p_strings_Cutv2 p_internal_stringslite_Cutv2
  rw [if_pos (by omega), e, idxG_eq, e1]
  by_cases hh : fi 64 x < x.size
  · have ew : IntKind.wrap .i64 (((fi 64 x : Nat) : Int) + 1) = ((fi 64 x : Nat) : Int) + 1 := wrap_id (by omega) (by omega)
    simp only [if_pos hh, ew]
    rw [if_pos (by omega), if_pos (by omega), if_pos (by omega), if_pos (by omega), if_pos (by omega)]
    have t1 : ((fi 64 x : Nat) : Int).toNat = fi 64 x := by omega
    have t2 : (((fi 64 x : Nat) : Int) + 1).toNat = fi 64 x + 1 := by omega
    have t3 : ((x.size : Nat) : Int).toNat = x.size := by omega
    rw [t1, t2, t3]
    rfl
  · simp only [if_neg hh]
    rw [if_pos (by omega), if_neg (by omega)]
    rfl
theorem getD_app0 {ps : List ByteArray} (y d : ByteArray) (h : 0 < ps.length) : (ps ++ [y]).getD 0 d = ps.getD 0 d := by
  cases ps with
  | nil => simp at h
  | cons a l => rfl
theorem split_spec (b : UInt8) (s : ByteArray) (h : s.size ≤ 2097152) (x1 : Int) (hx : x1 = (b.toNat : Int)) : ∃ ps, p_spec_l1Split s x1 = some ps ∧ 0 < ps.length ∧ ps.length ≤ 2097153 ∧ ps.getD 0 ByteArray.empty = s.extract 0 (fi b s) ∧ (ps.length < 2 ↔ ¬ fi b s < s.size) := by
  subst hx
  unfold p_spec_l1Split
  rw [if_pos (by omega)]
  have hfl := fi_le b s
  refine cnt_ind0 (S := Int × List ByteArray) s.size (fun i st => 0 ≤ st.1 ∧ st.1 ≤ (i : Int) ∧ st.2.length ≤ i ∧ ((st.2 = [] ∧ st.1 = 0 ∧ i ≤ fi b s) ∨ (0 < st.2.length ∧ st.2.getD 0 ByteArray.empty = s.extract 0 (fi b s) ∧ fi b s < i)))
    (fun r => ∃ ps : List ByteArray, r = some ps ∧ 0 < ps.length ∧ ps.length ≤ 2097153 ∧ ps.getD 0 ByteArray.empty = s.extract 0 (fi b s) ∧ (ps.length < 2 ↔ ¬ fi b s < s.size)) (by omega) ⟨by simp, by simp, by simp, .inl ⟨rfl, rfl, Nat.zero_le _⟩⟩ ?_ ?_
  · rintro ⟨a, ps⟩ ⟨h1, h2, h3, h4⟩
    simp only at h1 h2 h3 h4
    simp only
    rw [if_pos (by omega), if_pos (by omega)]
    refine ⟨_, rfl, by simp, by simp; omega, ?_, ?_⟩
    · rcases h4 with ⟨rfl, rfl, h5⟩ | ⟨h5, h6, h7⟩
      · have : fi b s = s.size := by omega
        rw [this]
        simp
      · rw [getD_app0 _ _ h5, h6]
    · rcases h4 with ⟨rfl, rfl, h5⟩ | ⟨h5, h6, h7⟩
      · simp; omega
      · simp; omega
  · rintro i ⟨a, ps⟩ c hi ⟨h1, h2, h3, h4⟩ hc
    simp only at h1 h2 h3 h4
    simp only
    have hlt : i < s.data.toList.length := by rw [size_toList]; exact hi
    have hg : s.data.toList.getD (i : Int).toNat 0 = s.data.toList[i] := by rw [List.getD_eq_getElem?_getD, Int.toNat_natCast, List.getElem?_eq_getElem hlt]; rfl
    rw [hg]
    by_cases he : s.data.toList[i] = b
    · rw [he, if_pos rfl, if_pos (by omega), if_pos (by omega)]
      refine hc _ ⟨by simp; omega, by simp, by simp; omega, .inr ?_⟩
      rcases h4 with ⟨rfl, rfl, h5⟩ | ⟨h5, h6, h7⟩
      · have hfi : fi b s = i := by
          refine Nat.le_antisymm ?_ h5
          refine Nat.le_of_not_lt fun hlt2 => ?_
          have := List.not_of_lt_findIdx (p := (· == b)) (xs := s.data.toList) hlt2
          simp [he] at this
        refine ⟨by simp, ?_, by omega⟩
        rw [hfi]
        simp
      · refine ⟨by simp, ?_, by omega⟩
        rw [getD_app0 _ _ h5, h6]
    · rw [if_neg (fun hh => he (by
        have : s.data.toList[i].toNat = b.toNat := by omega
        exact UInt8.toNat_inj.1 this))]
      refine hc _ ⟨h1, by simp; omega, by simp; omega, ?_⟩
      rcases h4 with ⟨rfl, rfl, h5⟩ | ⟨h5, h6, h7⟩
      · refine .inl ⟨rfl, rfl, ?_⟩
        refine Nat.lt_of_le_of_ne h5 fun hfi => he ?_
        have hlt2 : s.data.toList.findIdx (· == b) < s.data.toList.length := by rw [size_toList]; show fi b s < s.size; omega
        have := List.findIdx_getElem (p := (· == b)) (xs := s.data.toList) (w := hlt2)
        have e2 : s.data.toList.findIdx (· == b) = i := hfi.symm
        simp only [e2] at this
        simpa using this
      · exact .inr ⟨h5, h6, by omega⟩
end Go.GA
