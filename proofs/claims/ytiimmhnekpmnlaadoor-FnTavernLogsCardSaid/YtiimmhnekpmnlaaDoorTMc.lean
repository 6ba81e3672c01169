/- Plain laws of logs: what the functions return. -/
import Derived.Test.YtiimmhnekpmnlaaDoorTMb
namespace Go.GA
open Go
set_option maxRecDepth 100000
/-- a valid log -/
def VL (f p : ByteArray) (c : Int) : Prop := f.size + p.size ≤ 30000 ∧ tot (opn FU 0 (f ++ p)) = f.size + p.size ∧ tot (opn FU 0 f) = f.size ∧ c = ((opn FU 0 (f ++ p)).length : Int)
instance (f p : ByteArray) (c : Int) : Decidable (VL f p c) := by unfold VL; infer_instance
theorem VL.c60 {f p : ByteArray} {c : Int} (h : VL f p c) : 0 ≤ c ∧ c ≤ 60 := by
  have := opn_len FU 0 (f ++ p) (by omega)
  have := h.2.2.2
  omega
theorem valid_val {f p : ByteArray} {c : Int} (hf : f.size ≤ 1048576) (hp : p.size ≤ 1048576) : p_spec_l12Valid FU (f, (p, (c, ()))) = some (decide (VL f p c)) ∧ p_impl_IsValidLog FU (f, (p, (c, ()))) = some (decide (VL f p c)) := by
  have key : p_spec_l12Valid FU (f, (p, (c, ()))) = some (decide (VL f p c)) := by
    have hs : (f ++ p).size = f.size + p.size := ba_append_size f p
    unfold p_spec_l12Valid
    simp only
    have ew : IntKind.wrap .i64 ((f.size : Int) + (p.size : Int)) = (f.size : Int) + (p.size : Int) := wrap_id (by omega) (by omega)
    rw [ew]
    by_cases h : 30000 < (f.size : Int) + (p.size : Int)
    · rw [if_pos h, decide_eq_false (fun hv => by have := hv.1; omega)]
    · rw [if_neg h, if_pos (by omega)]
      obtain ⟨s1, _⟩ := open_eq (F := FU) (Nat.le_refl _) (x := f ++ p) (by omega)
      obtain ⟨s2, _⟩ := open_eq (F := FU) (Nat.le_refl _) (x := f) hf
      rw [s1, s2]
      simp only [Option.bind_some, List.length_map]
      congr 1
      rw [Bool.eq_iff_iff]
      simp only [Bool.and_eq_true, decide_eq_true_eq]
      unfold VL
      constructor
      · rintro ⟨⟨h1, h2⟩, h3⟩; exact ⟨by omega, by omega, by omega, by omega⟩
      · rintro ⟨h1, h2, h3, h4⟩; exact ⟨⟨by omega, by omega⟩, by omega⟩
  obtain ⟨q, e1, e2, _⟩ := valid_eq (c := c) hf hp
  rw [key] at e1
  rw [key, e2, ← e1]
  exact ⟨rfl, rfl⟩
def recs (f p : ByteArray) : List Rec := (opn FU 0 (f ++ p)).map (·.1)
theorem rec_val {f p : ByteArray} {c : Int} (hf : f.size ≤ 1048576) (hp : p.size ≤ 1048576) : p_impl_LogRecords FU (f, (p, (c, ()))) = some (if VL f p c then (recs f p, true) else ([], false)) ∧ p_spec_LogRecords FU (f, (p, (c, ()))) = some (if VL f p c then (recs f p, true) else ([], false)) := by
  obtain ⟨v1, v2⟩ := valid_val (c := c) hf hp
  have hs : (f ++ p).size = f.size + p.size := ba_append_size f p
  constructor
  · unfold p_impl_IsValidLog at v2
    unfold p_impl_LogRecords
    cases hr : p_impl_readLog FU (f, (p, (c, ()))) with
    | none => simp only at v2; rw [hr] at v2; cases v2
    | some r =>
      simp only at v2 ⊢
      rw [hr, Option.bind_some] at v2
      have hv : r.2 = decide (VL f p c) := Option.some.inj v2
      rw [Option.bind_some, hv]
      by_cases h : VL f p c
      · rw [if_pos (decide_eq_true h), if_pos h]
        have h30 := h.1
        unfold p_impl_readLog at hr
        simp only at hr
        obtain ⟨_, i1⟩ := open_eq (F := FU) (Nat.le_refl _) (x := f ++ p) (by omega)
        have hsl := sums_len 0 (opn FU 0 (f ++ p))
        rw [if_pos (by omega), if_neg (by omega), i1, Option.bind_some, if_pos (by simp only [List.length_map, List.length_cons, hsl]; omega)] at hr
        have := congrArg Prod.fst (Option.some.inj hr)
        simp only at this
        rw [← this]; rfl
      · rw [if_neg (by simpa using h), if_neg h]
  · unfold p_spec_LogRecords
    simp only
    rw [v1, Option.bind_some]
    by_cases h : VL f p c
    · have h30 := h.1
      obtain ⟨s1, _⟩ := open_eq (F := FU) (Nat.le_refl _) (x := f ++ p) (by omega)
      rw [if_pos (decide_eq_true h), if_pos h, if_pos (by omega), s1]; rfl
    · rw [if_neg (by simpa using h), if_neg h]
theorem sync_val {f p : ByteArray} {c : Int} (hf : f.size ≤ 1048576) (hp : p.size ≤ 1048576) : p_impl_SyncLog FU (f, (p, (c, ()))) = some (if VL f p c then ((f ++ p, (ByteArray.empty, (c, ()))), true) else ((ByteArray.empty, (ByteArray.empty, (0, ()))), false)) ∧ p_spec_SyncLog FU (f, (p, (c, ()))) = some (if VL f p c then ((f ++ p, (ByteArray.empty, (c, ()))), true) else ((ByteArray.empty, (ByteArray.empty, (0, ()))), false)) := by
  obtain ⟨v1, v2⟩ := valid_val (c := c) hf hp
  unfold p_impl_SyncLog p_spec_SyncLog
  simp only
  rw [v1, v2, Option.bind_some, Option.bind_some]
  by_cases h : VL f p c
  · rw [if_pos (decide_eq_true h), if_pos (decide_eq_true h), if_pos h, if_pos (by omega), if_pos (by omega)]; exact ⟨rfl, rfl⟩
  · rw [if_neg (by simpa using h), if_neg h, if_neg (by simpa using h)]; exact ⟨rfl, rfl⟩
def appR (f p : ByteArray) (c : Int) (y : Rec) (v : Bool) : (ByteArray × (ByteArray × (Int × Unit))) × Int :=
  if VL f p c ∧ v = true then if c = 60 then ((f, (p, (c, ()))), 2) else ((f, (p ++ Ln c.toNat y, (c + 1, ()))), 0) else ((f, (p, (c, ()))), 1)
theorem app_val {f p : ByteArray} {c : Int} {y : Rec} (hf : f.size ≤ 1048576) (hp : p.size ≤ 1048576) (h1 : y.1.size ≤ 2097152) (h2 : y.2.1.size ≤ 2097152) : ∃ v, p_spec_l12Record y = some v ∧ p_impl_IsValidRecord y = some v ∧ p_impl_AppendRecord FU (f, (p, (c, ()))) y = some (appR f p c y v) ∧ p_spec_AppendRecord FU (f, (p, (c, ()))) y = some (appR f p c y v) := by
  obtain ⟨v1, v2⟩ := valid_val (c := c) hf hp
  obtain ⟨v, r1, r2, _⟩ := record_eq h1 h2
  refine ⟨v, r1, r2, ?_⟩
  unfold p_spec_AppendRecord p_impl_AppendRecord appR
  have ey : (y.1, (y.2.1, ())) = y := rfl
  simp only
  rw [v1, v2, ey, r1, r2]
  simp only [Option.bind_some, Option.isSome_some, implies_true, if_true, Option.getD_some]
  by_cases hc : VL f p c ∧ v = true
  · have hq : ¬ ((!decide (VL f p c)) || !v) = true := by rw [decide_eq_true hc.1, hc.2]; simp
    rw [if_neg hq, if_neg hq, if_pos hc]
    by_cases h60 : c = 60
    · rw [if_pos h60, if_pos h60, if_pos h60]; exact ⟨rfl, rfl⟩
    · rw [if_neg h60, if_neg h60, if_neg h60]
      have hcc := hc.1.c60
      obtain ⟨i, hi⟩ : ∃ i : Nat, c = (i : Int) := ⟨c.toNat, by omega⟩
      have hv : Vr y := ⟨by rw [r1, hc.2], h1, h2⟩
      obtain ⟨k1, k2, k3⟩ := enc_ok (fu := FU) (i := i) (by unfold FU; omega) (by omega) hv
      rw [hi, k1, k2]
      simp only [Option.bind_some, Int.toNat_natCast]
      rw [if_pos (by omega)]
      have ew : IntKind.wrap .i64 ((i : Int) + 1) = (i : Int) + 1 := wrap_id (by omega) (by omega)
      rw [ew]
      exact ⟨rfl, rfl⟩
  · have hq : ((!decide (VL f p c)) || !v) = true := by
      by_cases h : VL f p c
      · have : v = false := by cases v with
          | false => rfl
          | true => exact absurd ⟨h, rfl⟩ hc
        rw [this]; simp
      · rw [decide_eq_false h]; rfl
    rw [if_pos hq, if_pos hq, if_neg hc]; exact ⟨rfl, rfl⟩
theorem recov_val {x : ByteArray} (hx : x.size ≤ 1048576) : p_impl_RecoverLog FU x = some (if 30000 < x.size then ((ByteArray.empty, (ByteArray.empty, (0, ()))), 0, false) else ((x.extract 0 (tot (opn FU 0 x)), (ByteArray.empty, (((opn FU 0 x).length : Int), ()))), ((tot (opn FU 0 x) : Nat) : Int), true)) ∧ p_spec_RecoverLog FU x = some (if 30000 < x.size then ((ByteArray.empty, (ByteArray.empty, (0, ()))), 0, false) else ((x.extract 0 (tot (opn FU 0 x)), (ByteArray.empty, (((opn FU 0 x).length : Int), ()))), ((tot (opn FU 0 x) : Nat) : Int), true)) := by
  unfold p_spec_RecoverLog p_impl_RecoverLog
  have hm : (x.size : Int) ≤ 9223372036854775807 := by omega
  rw [if_pos hm, if_pos hm]
  by_cases h : 30000 < x.size
  · rw [if_pos (by omega), if_pos (by omega), if_pos (by omega)]; exact ⟨rfl, rfl⟩
  · rw [if_neg (by omega), if_neg (by omega), if_neg (by omega)]
    obtain ⟨s1, i1⟩ := open_eq (F := FU) (Nat.le_refl _) (x := x) (by omega)
    have hlast := sums_last 0 (opn FU 0 x)
    have hsl := sums_len 0 (opn FU 0 x)
    have htl := tot_le FU 0 x
    rw [s1, i1]
    generalize opn FU 0 x = o at *
    simp only [Option.bind_some, List.length_map, nat_toNat]
    rw [hlast, if_pos (show (o.length : Int) < (((0 : Int) :: sums 0 o).length : Int) by simp only [List.length_cons, hsl]; omega), if_pos (by omega), if_pos (by omega), if_pos (by omega), if_pos (by omega), Int.zero_add, nat_toNat]
    exact ⟨rfl, rfl⟩
end Go.GA
