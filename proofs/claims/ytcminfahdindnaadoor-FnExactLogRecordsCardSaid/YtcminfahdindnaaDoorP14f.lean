/- Plain laws of logs: their records. -/
import Derived.Test.YtcminfahdindnaaDoorP14c
namespace Go.GA
open Go
set_option maxRecDepth 100000
theorem tot_le : ∀ (d k : Nat) (s : ByteArray), tot (opn d k s) ≤ s.size
  | 0, _, _ => Nat.zero_le _
  | d + 1, k, s => by
    cases h : nxt k s with
    | none => rw [opn_none h]; exact Nat.zero_le _
    | some q =>
      obtain ⟨r, n⟩ := q
      obtain ⟨_, h2, h3⟩ := nxt_some h
      rw [opn_some h]
      have := tot_le d (k + 1) (s.extract n s.size)
      rw [ext_size _ _ _ (by omega) (Nat.le_refl _)] at this
      show n + tot _ ≤ _
      omega
theorem opn_len : ∀ (d k : Nat) (s : ByteArray), k ≤ 60 → (opn d k s).length + k ≤ 60
  | 0, k, _, h => by simpa [opn] using h
  | d + 1, k, s, hk => by
    cases h : nxt k s with
    | none => rw [opn_none h]; simpa using hk
    | some q =>
      obtain ⟨r, n⟩ := q
      obtain ⟨h1, _, _⟩ := nxt_some h
      rw [opn_some h]
      have := opn_len d (k + 1) (s.extract n s.size) (by omega)
      simp only [List.length_cons]
      omega
theorem sums_len : ∀ (a : Int) (l : List (Rec × Nat)), (sums a l).length = l.length
  | _, [] => rfl
  | a, (_, n) :: l => by simp [sums, sums_len]
theorem sums_last : ∀ (a : Int) (l : List (Rec × Nat)), (a :: sums a l).getD l.length 0 = a + (tot l : Int)
  | a, [] => by simp [sums, tot]
  | a, (_, n) :: l => by
    have := sums_last (a + n) l
    simp only [sums, tot, List.length_cons, List.getD_cons_succ, this]
    omega
theorem open_eq {F : Nat} (hf : 1048577 ≤ F) {x : ByteArray} (hx : x.size ≤ 1048576) : p_spec_l12Open F x = some ((opn F 0 x).map (·.1), (tot (opn F 0 x) : Int)) ∧ p_impl_decodeAll F x = some ((opn F 0 x).map (·.1), 0 :: sums 0 (opn F 0 x)) := by
  constructor
  · rw [open_def, if_pos (by omega)]
    have := spec_run (F := F) (by omega) hx F 0 [] (Nat.zero_le _) (by omega) (by simp)
    simpa [ext_all] using this
  · rw [decodeAll_def, if_pos (by omega)]
    have := impl_run F x [] [0] (by omega) (by simp) rfl (by simp) (by simp; omega)
    simpa using this
theorem mem_sums {v : Int} : ∀ (a : Int) (l : List (Rec × Nat)), (∀ e ∈ l, 0 ≤ (e.2 : Int)) → v ∈ sums a l → a ≤ v
  | _, [], _, h => by simp [sums] at h
  | a, (r, n) :: l, hp, h => by
    simp only [sums, List.mem_cons] at h
    rcases h with rfl | h
    · omega
    · have := mem_sums (a + n) l (fun e he => by omega) h
      omega
theorem sums_shift (v c : Int) : ∀ (a : Int) (l : List (Rec × Nat)), (v ∈ sums (c + a) l ↔ v - c ∈ sums a l)
  | _, [] => by simp [sums]
  | a, (r, n) :: l => by
    have := sums_shift v c (a + n) l
    simp only [sums, List.mem_cons]
    rw [show c + a + (n : Int) = c + (a + n) by omega, this]
    constructor
    · rintro (h | h)
      · left; omega
      · right; exact h
    · rintro (h | h)
      · left; omega
      · right; exact h
theorem app_ext {f p : ByteArray} {n : Nat} (h : n ≤ f.size) : (f ++ p).extract 0 n = f.extract 0 n ∧ (f ++ p).extract n (f ++ p).size = f.extract n f.size ++ p := by
  constructor
  · apply ba_ext
    rw [ext_list, ext_list, ba_append_list, List.drop_zero, List.drop_zero, List.take_append_of_le_length (by rw [size_toList]; omega)]
  · apply ba_ext
    rw [ba_append_list, ext_list, ext_list, ba_append_list, ba_append_size, List.drop_append_of_le_length (by rw [size_toList]; omega), List.take_of_length_le (by simp; omega), List.take_of_length_le (by rw [List.length_drop, size_toList]; omega)]
theorem fi_appl {b : UInt8} {f p : ByteArray} (h : fi b f < f.size) : fi b (f ++ p) = fi b f := by
  obtain ⟨e, hn, _⟩ := cut_split h
  have := cut_app (b := b) (s := f ++ p) (A := f.extract 0 (fi b f)) (C := f.extract (fi b f + 1) f.size ++ p) (by rw [← ba_assoc, ← e]) hn
  rw [this.1, ext_size _ _ _ (by omega) (fi_le _ _)]
  omega
theorem fi_ge {b : UInt8} {f p : ByteArray} (h : ¬ fi b f < f.size) : f.size ≤ fi b (f ++ p) := by
  refine Nat.le_of_not_lt fun hlt => h ?_
  have hlt2 : fi b (f ++ p) < (f ++ p).size := by rw [ba_append_size]; omega
  have hm : b ∈ f.data.toList := by
    have hl : (f ++ p).data.toList.findIdx (· == b) < (f ++ p).data.toList.length := by rw [size_toList]; exact hlt2
    have hg := List.findIdx_getElem (p := (· == b)) (xs := (f ++ p).data.toList) (w := hl)
    have hlf : (f ++ p).data.toList.findIdx (· == b) < f.data.toList.length := by rw [size_toList]; exact hlt
    have he : (f ++ p).data.toList = f.data.toList ++ p.data.toList := ba_append_list f p
    have hb : (f ++ p).data.toList[(f ++ p).data.toList.findIdx (· == b)] = b := by simpa using hg
    have hb2 : (f.data.toList ++ p.data.toList)[(f ++ p).data.toList.findIdx (· == b)]? = some b := by
      rw [← he, List.getElem?_eq_getElem hl, hb]
    rw [List.getElem?_append_left hlf] at hb2
    exact List.mem_of_getElem? hb2
  exact fi_mem hm
theorem nxt_app {k : Nat} {f p : ByteArray} (h : fi 10 f < f.size) : nxt k (f ++ p) = nxt k f := by
  unfold nxt
  rw [fi_appl h, (app_ext (p := p) (show fi 10 f + 1 ≤ f.size by omega)).1, ba_append_size]
  by_cases hk : k < 60
  · rw [if_pos ⟨hk, by omega⟩, if_pos ⟨hk, h⟩]
  · rw [if_neg (fun h => hk h.1), if_neg (fun h => hk h.1)]
/-- a text that ends at a line of a longer one -/
theorem prefix_iff : ∀ (d k : Nat) (f p : ByteArray), f.size < d → (tot (opn d k f) = f.size ↔ (f.size : Int) ∈ 0 :: sums 0 (opn d k (f ++ p)))
  | 0, _, _, _, h => by omega
  | d + 1, k, f, p, hd => by
    by_cases hn : fi 10 f < f.size
    · cases hx : nxt k f with
      | none =>
        rw [opn_none hx, opn_none ((nxt_app hn).trans hx)]
        refine ⟨fun h => ?_, fun h => ?_⟩
        · have : (0 : Nat) = f.size := h
          omega
        · rcases List.mem_cons.1 h with h | h
          · omega
          · simp [sums] at h
      | some q =>
        obtain ⟨r, n⟩ := q
        obtain ⟨_, _, h3⟩ := nxt_some hx
        rw [opn_some hx, opn_some ((nxt_app hn).trans hx), (app_ext (p := p) (show n ≤ f.size by omega)).2]
        have hs : (f.extract n f.size).size = f.size - n := ext_size _ _ _ (by omega) (Nat.le_refl _)
        have ih := prefix_iff d (k + 1) (f.extract n f.size) p (by omega)
        have e1 : tot ((r, n) :: opn d (k + 1) (f.extract n f.size)) = n + tot (opn d (k + 1) (f.extract n f.size)) := rfl
        have e2 : sums 0 ((r, n) :: opn d (k + 1) (f.extract n f.size ++ p)) = (0 + (n : Int)) :: sums (0 + (n : Int)) (opn d (k + 1) (f.extract n f.size ++ p)) := rfl
        have sh := sums_shift (f.size : Int) (n : Int) 0 (opn d (k + 1) (f.extract n f.size ++ p))
        rw [e1, e2, List.mem_cons, List.mem_cons, show (0 : Int) + (n : Int) = (n : Int) + 0 by omega, sh]
        rw [hs, List.mem_cons] at ih
        rw [show ((f.size - n : Nat) : Int) = (f.size : Int) - (n : Int) by omega] at ih
        constructor
        · intro h
          rcases ih.1 (by omega) with h | h
          · right; left; omega
          · right; right; exact h
        · rintro (h | h | h)
          · omega
          · have := ih.2 (.inl (by omega)); omega
          · have := ih.2 (.inr h); omega
    · have hx : nxt k f = none := by unfold nxt; rw [if_neg (fun h => hn h.2)]
      rw [opn_none hx]
      by_cases hz : f.size = 0
      · simp [tot, hz]
      · have h1 : ¬ (tot ([] : List (Rec × Nat)) = f.size) := by simp [tot]; omega
        refine ⟨fun h => absurd h h1, fun h => ?_⟩
        exfalso
        rcases List.mem_cons.1 h with h | h
        · omega
        · cases hy : nxt k (f ++ p) with
          | none => rw [opn_none hy] at h; simp [sums] at h
          | some q =>
            obtain ⟨r, n⟩ := q
            obtain ⟨_, _, h3⟩ := nxt_some hy
            have hge := fi_ge (p := p) hn
            rw [opn_some hy] at h
            have e2 : sums 0 ((r, n) :: opn d (k + 1) ((f ++ p).extract n (f ++ p).size)) = (0 + (n : Int)) :: sums (0 + (n : Int)) (opn d (k + 1) ((f ++ p).extract n (f ++ p).size)) := rfl
            rw [e2] at h
            rcases List.mem_cons.1 h with h | h
            · omega
            · have := mem_sums _ _ (fun e _ => by omega) h
              omega
theorem contains_eq (xs : List Int) (v : Int) : p_slices_Contains_int_int xs v = decide (v ∈ xs) := by
  unfold p_slices_Contains_int_int p_slices_Index_int_int
  rw [anyI]
  by_cases h : v ∈ xs
  · rw [decide_eq_true h, List.any_eq_true]; exact ⟨v, h, by simp⟩
  · rw [decide_eq_false h, Bool.eq_false_iff]
    intro h2
    rw [List.any_eq_true] at h2
    obtain ⟨y, hy, e⟩ := h2
    have : v = y := by simpa using e
    exact h (this ▸ hy)
def FU : Nat := 1048577
theorem read_eq {f p : ByteArray} {c : Int} (hf : f.size ≤ 1048576) (hp : p.size ≤ 1048576) : ∃ q recs, p_spec_LogRecords FU (f, (p, (c, ()))) = some (recs, q) ∧ p_impl_LogRecords FU (f, (p, (c, ()))) = some (recs, q) ∧ recs.length ≤ 60 := by
  have hs : (f ++ p).size = f.size + p.size := ba_append_size f p
  unfold p_spec_LogRecords p_impl_LogRecords p_spec_l12Valid p_impl_readLog
  simp only
  have ew : IntKind.wrap .i64 ((f.size : Int) + (p.size : Int)) = (f.size : Int) + (p.size : Int) := wrap_id (by omega) (by omega)
  have hm : (f.size : Int) + (p.size : Int) ≤ 9223372036854775807 := by omega
  rw [ew, hs]
  by_cases h : 30000 < (f.size : Int) + (p.size : Int)
  · have h' : 30000 < ((f.size + p.size : Nat) : Int) := by omega
    simp only [if_pos h, if_pos hm, if_pos h']
    exact ⟨false, [], rfl, rfl, by simp⟩
  · have h' : ¬ 30000 < ((f.size + p.size : Nat) : Int) := by omega
    simp only [if_neg h, if_pos hm, if_neg h']
    obtain ⟨s1, i1⟩ := open_eq (F := FU) (Nat.le_refl _) (x := f ++ p) (by omega)
    obtain ⟨s2, _⟩ := open_eq (F := FU) (Nat.le_refl _) (x := f) hf
    have hpre := prefix_iff FU 0 f p (by unfold FU; omega)
    have hl := opn_len FU 0 (f ++ p) (by omega)
    have hlast := sums_last 0 (opn FU 0 (f ++ p))
    have hsl := sums_len 0 (opn FU 0 (f ++ p))
    rw [s1, s2, i1]
    generalize opn FU 0 (f ++ p) = o at *
    generalize opn FU 0 f = o' at *
    simp only [Option.bind_some, List.length_map]
    rw [if_pos (show (o.length : Int) < (((0 : Int) :: sums 0 o).length : Int) by simp only [List.length_cons, hsl]; omega), nat_toNat, hlast, contains_eq]
    simp only [Option.bind_some]
    have e1 : decide ((tot o' : Int) = (f.size : Int)) = decide ((f.size : Int) ∈ 0 :: sums 0 o) := by
      by_cases hh : tot o' = f.size
      · rw [decide_eq_true (by omega), decide_eq_true (hpre.1 hh)]
      · rw [decide_eq_false (by omega), decide_eq_false (fun h => hh (hpre.2 h))]
    have e2 : decide (0 + (tot o : Int) = ((f.size + p.size : Nat) : Int)) = decide ((tot o : Int) = (f.size : Int) + (p.size : Int)) := by
      congr 1
      apply propext
      constructor <;> intro h <;> omega
    have e3 : decide (c = (o.length : Int)) = decide ((o.length : Int) = c) := by
      congr 1
      apply propext
      constructor <;> intro h <;> omega
    rw [e1, e2, e3]
    generalize ((decide ((tot o : Int) = (f.size : Int) + (p.size : Int)) && decide ((f.size : Int) ∈ 0 :: sums 0 o)) && decide ((o.length : Int) = c)) = q
    cases q with
    | true => exact ⟨true, o.map (·.1), by simp, by simp, by simp; omega⟩
    | false => exact ⟨false, [], by simp, by simp, by simp⟩
/-! ### Marks -/
abbrev rd0 : Rec := (ByteArray.empty, (ByteArray.empty, ()))
theorem bytes1 (v : Int) : (bytesB [v]).size = 1 := rfl
theorem text_run (body : (Int × ByteArray) → ((Int × ByteArray) → Option ByteArray) → Option ByteArray)
    (hb : body = fun (s4 : Int × ByteArray) c6 => (if 0 < s4.1 then if ((bytesB [(IntKind.wrap .u8 (IntKind.wrap .i64 (48 + (s4.1.tmod 10))))]).size : Int) + (s4.2.size : Int) ≤ 9223372036854775807 then c6 ((IntKind.wrap .i64 (s4.1.tdiv 10)), ((bytesB [(IntKind.wrap .u8 (IntKind.wrap .i64 (48 + (s4.1.tmod 10))))]) ++ s4.2)) else none else if ((ByteArray.mk #[109]).size : Int) + (s4.2.size : Int) ≤ 9223372036854775807 then some ((ByteArray.mk #[109]) ++ s4.2) else none)) :
    ∀ (d n : Nat) (s : ByteArray), n < d → n + s.size ≤ 1000000 → ∃ t, whl body d ((n : Int), s) = some t
  | 0, _, _, h, _ => by omega
  | d + 1, n, s, hd, hs => by
    have hstep : whl body (d + 1) ((n : Int), s) = body ((n : Int), s) (whl body d) := rfl
    have ih := text_run body hb d
    rw [hstep]
    generalize whl body d = W at ih
    rw [hb]
    simp only
    by_cases h0 : 0 < (n : Int)
    · rw [if_pos h0, bytes1, if_pos (by omega), tdiv10]
      have ew : IntKind.wrap .i64 ((n / 10 : Nat) : Int) = ((n / 10 : Nat) : Int) := wrap_id (by omega) (by omega)
      rw [ew]
      exact ih (n / 10) _ (by omega) (by rw [ba_append_size, bytes1]; omega)
    · have e109 : (ByteArray.mk #[109]).size = 1 := rfl
      rw [if_neg h0, e109, if_pos (by omega)]
      exact ⟨_, rfl⟩
def TX (m : Int) : ByteArray := (p_laws_markText FU m).getD ByteArray.empty
theorem text_eq {m : Nat} (h1 : 1 ≤ m) (h2 : m ≤ 1000) : p_laws_markText FU (m : Int) = some (TX (m : Int)) := by
  have : ∃ t, p_laws_markText FU (m : Int) = some t := by
    unfold p_laws_markText
    rw [if_neg (by omega)]
    exact text_run _ rfl FU m (ByteArray.mk #[]) (by unfold FU; omega) (by have : (ByteArray.mk #[]).size = 0 := rfl; omega)
  obtain ⟨t, e⟩ := this
  unfold TX
  rw [e]; rfl
theorem mark_eq {recs : List Rec} (hl : recs.length ≤ 60) : ∃ s : List Rec, p_laws_markLogRecordS FU recs 1 = some (1 + 2 * (recs.length : Int), s) ∧ s.length = recs.length ∧ ∀ j, j < recs.length → s.getD j rd0 = (TX (1 + 2 * (j : Int)), (TX (2 + 2 * (j : Int)), ())) := by
  unfold p_laws_markLogRecordS
  refine cnt_ind0 (S := Int × List Rec) recs.length (fun i st => st.1 = 1 + 2 * (i : Int) ∧ st.2.length = recs.length ∧ ∀ j, j < i → st.2.getD j rd0 = (TX (1 + 2 * (j : Int)), (TX (2 + 2 * (j : Int)), ())))
    (fun r => ∃ s : List Rec, r = some (1 + 2 * (recs.length : Int), s) ∧ s.length = recs.length ∧ ∀ j, j < recs.length → s.getD j rd0 = (TX (1 + 2 * (j : Int)), (TX (2 + 2 * (j : Int)), ()))) (by omega) ⟨by simp, rfl, fun j hj => by omega⟩ ?_ ?_
  · rintro ⟨k, s⟩ ⟨h1, h2, h3⟩
    simp only at h1 h2 h3
    exact ⟨s, by rw [h1], h2, h3⟩
  · rintro i ⟨k, s⟩ c hi ⟨h1, h2, h3⟩ hc
    simp only at h1 h2 h3
    subst h1
    simp only
    have e1 := text_eq (m := 1 + 2 * i) (by omega) (by omega)
    have e2 := text_eq (m := 2 + 2 * i) (by omega) (by omega)
    have c1 : ((1 + 2 * i : Nat) : Int) = 1 + 2 * (i : Int) := by omega
    have c2 : ((2 + 2 * i : Nat) : Int) = 2 + 2 * (i : Int) := by omega
    rw [c1] at e1
    rw [c2] at e2
    have ew : IntKind.wrap .i64 (1 + 2 * (i : Int) + 1) = 2 + 2 * (i : Int) := by
      have : IntKind.wrap .i64 (1 + 2 * (i : Int) + 1) = 1 + 2 * (i : Int) + 1 := wrap_id (by omega) (by omega)
      rw [this]; omega
    have ew2 : IntKind.wrap .i64 (2 + 2 * (i : Int) + 1) = 1 + 2 * ((i + 1 : Nat) : Int) := by
      have : IntKind.wrap .i64 (2 + 2 * (i : Int) + 1) = 2 + 2 * (i : Int) + 1 := wrap_id (by omega) (by omega)
      rw [this]; omega
    rw [e1, Option.bind_some, ew, e2, Option.bind_some, ew2, nat_toNat]
    have g0 : ∀ a : Rec, (s.set i a).getD i rd0 = a := fun a => by
      rw [List.getD_eq_getElem?_getD, List.getElem?_set_self (by omega)]; rfl
    have g1 : ∀ a : Rec, (s.set i a).getD i (ByteArray.empty, (ByteArray.empty, ())) = a := g0
    rw [g1, List.set_set]
    refine hc _ ⟨rfl, by simp [h2], fun j hj => ?_⟩
    by_cases hji : j = i
    · subst hji
      exact g0 _
    · have := h3 j (by omega)
      rw [← this]
      simp only [List.getD_eq_getElem?_getD, List.getElem?_set_ne (Ne.symm hji)]
theorem held_eq {s : List Rec} (hl : s.length ≤ 60) (h : ∀ j, j < s.length → s.getD j rd0 = (TX (1 + 2 * (j : Int)), (TX (2 + 2 * (j : Int)), ()))) : p_laws_heldLogRecordS FU s 1 = some (1 + 2 * (s.length : Int)) := by
  unfold p_laws_heldLogRecordS
  refine cnt_ind0 (S := Int) s.length (fun i k => k = 1 + 2 * (i : Int)) (fun r => r = some (1 + 2 * (s.length : Int))) (by omega) (by simp) (fun k hk => by rw [hk]) (fun i k c hi hk hc => ?_)
  subst hk
  have e1 := text_eq (m := 1 + 2 * i) (by omega) (by omega)
  have e2 := text_eq (m := 2 + 2 * i) (by omega) (by omega)
  have c1 : ((1 + 2 * i : Nat) : Int) = 1 + 2 * (i : Int) := by omega
  have c2 : ((2 + 2 * i : Nat) : Int) = 2 + 2 * (i : Int) := by omega
  rw [c1] at e1
  rw [c2] at e2
  have ew : IntKind.wrap .i64 (1 + 2 * (i : Int) + 1) = 2 + 2 * (i : Int) := by
    have : IntKind.wrap .i64 (1 + 2 * (i : Int) + 1) = 1 + 2 * (i : Int) + 1 := wrap_id (by omega) (by omega)
    rw [this]; omega
  have ew2 : IntKind.wrap .i64 (2 + 2 * (i : Int) + 1) = 1 + 2 * ((i + 1 : Nat) : Int) := by
    have : IntKind.wrap .i64 (2 + 2 * (i : Int) + 1) = 2 + 2 * (i : Int) + 1 := wrap_id (by omega) (by omega)
    rw [this]; omega
  have hj : s.getD i (ByteArray.empty, (ByteArray.empty, ())) = (TX (1 + 2 * (i : Int)), (TX (2 + 2 * (i : Int)), ())) := h i hi
  rw [nat_toNat, hj, e1, Option.bind_some, if_pos (eqS_iff.2 rfl), ew, e2, Option.bind_some, if_pos (eqS_iff.2 rfl), ew2]
  exact hc _ rfl
theorem eqRec_self (r : Rec) : p_laws_eqLogRecord r r = true := by
  unfold p_laws_eqLogRecord
  rw [eqS_iff.2 rfl, eqS_iff.2 rfl]
  rfl
theorem eqRecS_self (s : List Rec) : p_laws_eqLogRecordS s s = true := by
  unfold p_laws_eqLogRecordS
  rw [if_pos rfl]
  refine cnt_ind0 (S := Unit) s.length (fun _ _ => True) (fun r => r = true) (by omega) trivial (fun _ _ => rfl) (fun i k c hi _ hc => ?_)
  rw [if_pos (eqRec_self _)]
  exact hc _ trivial
theorem szLog_ok {x : ByteArray × (ByteArray × (Int × Unit))} (o1 : x.1.size ≤ 9223372036854775807) (o2 : x.2.1.size ≤ 9223372036854775807) (hs : ¬ p_laws_szLog x 1048576 < 0) : x.1.size ≤ 1048576 ∧ x.2.1.size ≤ 1048576 ∧ p_laws_szLog x 1048576 ≤ 1048576 := by
  unfold p_laws_szLog at hs ⊢
  have e1 : IntKind.wrap .i64 (1048576 - (x.1.size : Int)) = 1048576 - (x.1.size : Int) := wrap_id (by omega) (by omega)
  rw [e1] at hs ⊢
  by_cases h1 : 1048576 - (x.1.size : Int) < 0
  · rw [if_pos h1] at hs; omega
  · rw [if_neg h1] at hs ⊢
    have e2 : IntKind.wrap .i64 (1048576 - (x.1.size : Int) - (x.2.1.size : Int)) = 1048576 - (x.1.size : Int) - (x.2.1.size : Int) := wrap_id (by omega) (by omega)
    rw [e2] at hs ⊢
    by_cases h2 : 1048576 - (x.1.size : Int) - (x.2.1.size : Int) < 0
    · rw [if_pos h2] at hs; omega
    · rw [if_neg h2]; omega
abbrev LogT : Ty := .pair .str (.pair .str (.pair (.int .i64) .unit))
theorem pure_LogRecords {x : ByteArray × (ByteArray × (Int × Unit))} (o : OkT LogT x) : p_laws_FnExactLogRecords FU x = some true := by
  have o1 : x.1.size ≤ 9223372036854775807 := o.1
  have o2 : x.2.1.size ≤ 9223372036854775807 := o.2.1
  unfold p_laws_FnExactLogRecords
  show (if p_laws_szLog x 1048576 < 0 then some true else (p_spec_LogRecords FU x).bind (fun r4 => (p_impl_LogRecords FU x).bind _)) = some true
  by_cases hs : p_laws_szLog x 1048576 < 0
  · rw [if_pos hs]
  · rw [if_neg hs]
    obtain ⟨b1, b2, _⟩ := szLog_ok o1 o2 hs
    obtain ⟨q, recs, e1, e2, hl⟩ := read_eq (f := x.1) (p := x.2.1) (c := x.2.2.1) b1 b2
    have ex : (x.1, (x.2.1, (x.2.2.1, ()))) = x := rfl
    rw [ex] at e1 e2
    obtain ⟨s, m1, m2, m3⟩ := mark_eq hl
    have hh := held_eq (s := s) (by omega) (fun j hj => m3 j (by omega))
    rw [m2] at hh
    rw [e1, e2]
    simp only [Option.bind_some]
    rw [if_neg (by rw [eqRecS_self]; simp), m1, Option.bind_some, hh, Option.bind_some, if_neg (by omega), if_pos rfl]
    show (p_impl_LogRecords FU x).bind _ = some true
    rw [e2, Option.bind_some, if_neg (by rw [eqRecS_self]; simp), Option.bind_some, if_neg (by omega), if_pos rfl]
end Go.GA
