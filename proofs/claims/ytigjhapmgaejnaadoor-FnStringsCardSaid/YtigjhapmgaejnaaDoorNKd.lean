/- Plain law of FnStrings: AppendChecksum and VerifyChecksum. -/
import Derived.Test.YtigjhapmgaejnaaDoorNKc
namespace Go.GA
open Go
set_option maxRecDepth 100000
theorem sum_run (l : List UInt8) : ∀ (h : Nat), h < 999979 → lrun (fun (b : UInt8) (s1 : Int) (c3 : Int → Option Int) => c3 ((IntKind.wrap .i64 ((IntKind.wrap .i64 ((IntKind.wrap .i64 (41 * s1)) + (b.toNat : Int))) + 1)).tmod 999979)) (fun s1 => some s1) l (h : Int) = some ((l.foldl sst h : Nat) : Int) := by
  induction l with
  | nil => exact fun h _ => rfl
  | cons b l ih =>
    intro h hh
    simp only [lrun]
    have hb : b.toNat < 256 := UInt8.toNat_lt _
    have e1 : IntKind.wrap .i64 (41 * (h : Int)) = 41 * (h : Int) := wrap_id (by omega) (by omega)
    have e2 : IntKind.wrap .i64 (41 * (h : Int) + (b.toNat : Int)) = 41 * (h : Int) + (b.toNat : Int) := wrap_id (by omega) (by omega)
    have e3 : IntKind.wrap .i64 (41 * (h : Int) + (b.toNat : Int) + 1) = 41 * (h : Int) + (b.toNat : Int) + 1 := wrap_id (by omega) (by omega)
    have e4 : (41 * (h : Int) + (b.toNat : Int) + 1).tmod 999979 = ((sst h b : Nat) : Int) := by
      rw [Int.tmod_eq_emod_of_nonneg (by omega)]
      unfold sst
      omega
    rw [e1, e2, e3, e4, ih _ (sst_lt h b)]
    rfl
theorem sum_eq (s : ByteArray) (h : s.size ≤ 2097152) : p_spec_l1Sum s = some ((sm s.data.toList : Nat) : Int) := by
  unfold p_spec_l1Sum
  rw [if_pos (by omega), show Int.toNat ((s.size : Int) - 0) = s.size by omega,
    cnt_list (k := fun _ s1 => some s1) (fun (b : UInt8) (s1 : Int) (c3 : Int → Option Int) => c3 ((IntKind.wrap .i64 ((IntKind.wrap .i64 ((IntKind.wrap .i64 (41 * s1)) + (b.toNat : Int))) + 1)).tmod 999979)) s.data.toList 0 (size_toList s).symm (fun i u c3 _ _ => rfl)]
  exact sum_run s.data.toList 7 (by decide)
def sealB (s : ByteArray) : ByteArray := (s ++ ByteArray.mk #[35]) ++ numB (sm s.data.toList)
theorem sealB_list (s : ByteArray) : (sealB s).data.toList = sealL s.data.toList := by
  unfold sealB sealL
  rw [ba_append_list, ba_append_list, numB_list]
  simp
def has (s : ByteArray) : Bool := s.data.toList.any (· == 35)
/-- AppendChecksum -/
def acB (s : ByteArray) : ByteArray × Bool := if (decide (4000 < (s.size : Int)) || has s) || decide (4000 < ((sealB s).size : Int)) then (ByteArray.mk #[], false) else (sealB s, true)
theorem num_size (s : ByteArray) : (numB (sm s.data.toList)).size ≤ 6 := by
  rw [numB_size]; exact nDigits_lt (by omega) (Nat.lt_of_lt_of_le (sm_lt _) (by decide))
theorem sealB_size (s : ByteArray) : (sealB s).size ≤ s.size + 7 ∧ s.size + 1 ≤ (sealB s).size := by
  have h1 := num_size s
  have e35 : (ByteArray.mk #[35]).size = 1 := rfl
  unfold sealB
  rw [ba_append_size, ba_append_size, e35]
  omega
theorem ac_impl (s : ByteArray) (h : s.size ≤ 1000000) : p_impl_AppendChecksum s = some (acB s) := by
  have e35 : (ByteArray.mk #[35]).size = 1 := rfl
  have hsz : (s ++ (ByteArray.mk #[35])).size = s.size + 1 := by rw [ba_append_size, e35]
  have hn := num_size s
  have ec : p_impl_checksum s = p_spec_l1Sum s := rfl
  have hlt := sm_lt s.data.toList
  unfold p_impl_AppendChecksum acB
  rw [if_pos (by omega), contains_hash]
  show _ = some (if (decide (4000 < (s.size : Int)) || has s) || _ then _ else _)
  by_cases hc : (decide (4000 < (s.size : Int)) || s.data.toList.any (· == 35)) = true
  · rw [if_pos hc]
    have : (decide (4000 < (s.size : Int)) || has s) = true := hc
    rw [this, Bool.true_or, if_pos rfl]
  · rw [if_neg hc, if_pos (by omega), ec, sum_eq s (by omega), Option.bind_some, itoa_num _ (by omega), Option.bind_some, if_pos (by omega)]
    have : (decide (4000 < (s.size : Int)) || has s) = false := by rw [Bool.not_eq_true] at hc; exact hc
    rw [this, Bool.false_or]
    show (if 4000 < ((sealB s).size : Int) then _ else _) = _
    by_cases h4 : 4000 < ((sealB s).size : Int)
    · rw [if_pos h4, if_pos (decide_eq_true h4)]
    · rw [if_neg h4, if_neg (by simpa using h4)]
      rfl
theorem seal_spec {fu : Nat} (hf : 10 ≤ fu) (s : ByteArray) (h : s.size ≤ 1000000) : p_spec_l1Seal fu s = some (sealB s) := by
  have e35 : (ByteArray.mk #[35]).size = 1 := rfl
  have hsz : (s ++ (ByteArray.mk #[35])).size = s.size + 1 := by rw [ba_append_size, e35]
  have hn := num_size s
  have hlt := sm_lt s.data.toList
  have hp : 10 ^ 6 ≤ 10 ^ fu := Nat.pow_le_pow_right (by omega) (by omega)
  have e6 : (10 : Nat) ^ 6 = 1000000 := by decide
  unfold p_spec_l1Seal
  rw [if_pos (by omega), if_pos (by omega), sum_eq s (by omega), Option.bind_some, num_spec fu _ (by omega) (by omega) (by omega), Option.bind_some, if_pos (by omega)]
  rfl
theorem stands35 (s : ByteArray) (h : s.size ≤ 2097152) : p_spec_l1Stands s 35 = some (has s) := by
  unfold p_spec_l1Stands
  rw [if_pos (by omega), cnt_list (fun b s' c => if (b == 35) = true then some true else c s') s.data.toList 0 (by rw [size_toList]; omega) (fun i s' c h0 h1 => ?_)]
  · rw [lrun_any (fun b => b == 35)]
    unfold has
    cases s.data.toList.any (· == 35) <;> simp
  · cases s'
    have e : (((s.data.toList.getD i.toNat 0).toNat : Int) = 35) ↔ ((s.data.toList.getD i.toNat 0 == 35) = true) := by
      generalize s.data.toList.getD i.toNat 0 = b
      rw [beq_iff_eq]
      constructor
      · intro h
        have h2 : b.toNat = 35 := by omega
        exact UInt8.toNat_inj.1 h2
      · intro h; rw [h]; rfl
    by_cases hc : ((s.data.toList.getD i.toNat 0).toNat : Int) = 35
    · rw [if_pos hc, if_pos (e.1 hc)]
    · rw [if_neg hc, if_neg (fun h => hc (e.2 h))]
theorem ac_spec {fu : Nat} (hf : 10 ≤ fu) (s : ByteArray) (h : s.size ≤ 1000000) : p_spec_AppendChecksum fu s = some (acB s) := by
  unfold p_spec_AppendChecksum acB
  rw [if_pos (by omega), stands35 s (by omega), seal_spec hf s h]
  simp only [Option.isSome_some, implies_true, if_true, Option.getD_some, Option.bind_some]
  split <;> rfl
theorem has_no {s : ByteArray} (h : has s = false) : ∀ y ∈ s.data.toList, y ≠ 35 := fun y hy e => by
  have := List.any_eq_false.1 h y hy
  subst e
  exact this rfl
theorem ac_true {s y : ByteArray} (h : acB s = (y, true)) : s.size ≤ 4000 ∧ has s = false ∧ y = sealB s ∧ y.size ≤ 4000 := by
  unfold acB at h
  split at h
  · cases (Prod.mk.inj h).2
  · rename_i hc
    simp only [Bool.or_eq_true, decide_eq_true_eq, not_or, Bool.not_eq_true] at hc
    obtain ⟨⟨h1, h2⟩, h3⟩ := hc
    have := (Prod.mk.inj h).1
    subst this
    exact ⟨by omega, h2, rfl, by omega⟩
theorem ac_false {s y : ByteArray} {ok : Bool} (h : acB s = (y, ok)) (hk : ¬ ok = true) : y = ByteArray.mk #[] := by
  unfold acB at h
  split at h
  · exact (Prod.mk.inj h).1.symm
  · exact absurd (Prod.mk.inj h).2.symm hk
/-- the text ahead of the first sign -/
def ahead (y : ByteArray) : ByteArray := if fi 35 y < y.size then y.extract 0 (fi 35 y) else y
def vcB (y : ByteArray) : ByteArray × Bool := if ((!(acB (ahead y)).2) || (!(eqS (acB (ahead y)).1 y))) = true then (ByteArray.mk #[], false) else (ahead y, true)
theorem ahead_size (y : ByteArray) : (ahead y).size ≤ y.size := by
  unfold ahead
  split
  · rename_i h
    rw [ext_size _ _ _ (by omega) (by omega)]; omega
  · exact Nat.le_refl _
theorem vc_impl (y : ByteArray) (h : y.size ≤ 1000000) : p_impl_VerifyChecksum y = some (vcB y) := by
  have hs := ahead_size y
  have e : (if fi 35 y < y.size then (y.extract 0 (fi 35 y), y.extract (fi 35 y + 1) y.size, true) else (y, ByteArray.mk #[], false)).1 = ahead y := by
    unfold ahead; split <;> rfl
  unfold p_impl_VerifyChecksum
  rw [if_pos (by omega), cut_eq y (by omega), Option.bind_some, e, ac_impl _ (by omega), Option.bind_some]
  unfold vcB
  split <;> rfl
theorem ahead_seal {x : ByteArray} (h : has x = false) : ahead (sealB x) = x := by
  have e : sealB x = x ++ ByteArray.mk #[35] ++ numB (sm x.data.toList) := rfl
  obtain ⟨h1, h2, h3, _⟩ := cut_app e (has_no h)
  unfold ahead
  rw [h1, if_pos h2, h3]
theorem vc_seal {x y : ByteArray} (h : acB x = (y, true)) : vcB y = (x, true) := by
  obtain ⟨_, h2, rfl, _⟩ := ac_true h
  unfold vcB
  rw [ahead_seal h2, h, eqS_iff.2 rfl]
  rfl
theorem vc_bad {x y z : ByteArray} (h : acB x = (y, true)) {k : Nat} {b : UInt8} (hk : k < y.size) (hz : z.data.toList = y.data.toList.set k b) (hb : ∀ hk' : k < y.data.toList.length, b ≠ y.data.toList[k]) : (vcB z).2 = false := by
  obtain ⟨_, h2, rfl, _⟩ := ac_true h
  unfold vcB
  by_cases hc : ((!(acB (ahead z)).2) || (!(eqS (acB (ahead z)).1 z))) = true
  · rw [if_pos hc]
  · exfalso
    simp only [Bool.or_eq_true, Bool.not_eq_true', not_or, Bool.not_eq_false] at hc
    obtain ⟨c1, c2⟩ := hc
    have e : acB (ahead z) = ((acB (ahead z)).1, true) := by rw [← c1]
    obtain ⟨_, h5, h6, _⟩ := ac_true e
    have e2 := eqS_iff.1 c2
    rw [h6] at e2
    have e3 : sealL (ahead z).data.toList = (sealL x.data.toList).set k b := by rw [← sealB_list, e2, hz, sealB_list]
    have hk2 : k < (sealB x).data.toList.length := by rw [size_toList]; exact hk
    have hb2 := hb hk2
    refine seal_changed (has_no h2) (has_no h5) (k := k) (b := b) (by rw [← sealB_list]; exact hk2) ?_ e3
    simpa only [sealB_list] using hb2
end Go.GA
