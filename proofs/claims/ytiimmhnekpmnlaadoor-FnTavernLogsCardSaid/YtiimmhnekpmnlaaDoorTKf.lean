/- Plain laws of logs: valid logs, and the laws. -/
import Derived.Test.YtiimmhnekpmnlaaDoorTKc
namespace Go.GA
open Go
set_option maxRecDepth 100000
theorem tot_le : ∀ (d k : Nat) (s : ByteArray), tot (opn d k s) ≤ s.size
  | 0, _, _ => Nat.zero_le _
  | d + 1, k, s => by
    cases h : nxt k s with
    | none => rw [opn_none h]; exact Nat.zero_le _
    | some q =>
      obtain ⟨r, n⟩ := q
      obtain ⟨_, h2, h3⟩ := nxt_some h
      rw [opn_some h]
      have := tot_le d (k + 1) (s.extract n s.size)
      rw [ext_size _ _ _ (by omega) (Nat.le_refl _)] at this
      show n + tot _ ≤ _
      omega
theorem opn_len : ∀ (d k : Nat) (s : ByteArray), k ≤ 60 → (opn d k s).length + k ≤ 60
  | 0, k, _, h => by simpa [opn] using h
  | d + 1, k, s, hk => by
    cases h : nxt k s with
    | none => rw [opn_none h]; simpa using hk
    | some q =>
      obtain ⟨r, n⟩ := q
      obtain ⟨h1, _, _⟩ := nxt_some h
      rw [opn_some h]
      have := opn_len d (k + 1) (s.extract n s.size) (by omega)
      simp only [List.length_cons]
      omega
theorem sums_len : ∀ (a : Int) (l : List (Rec × Nat)), (sums a l).length = l.length
  | _, [] => rfl
  | a, (_, n) :: l => by simp [sums, sums_len]
theorem sums_last : ∀ (a : Int) (l : List (Rec × Nat)), (a :: sums a l).getD l.length 0 = a + (tot l : Int)
  | a, [] => by simp [sums, tot]
  | a, (_, n) :: l => by
    have := sums_last (a + n) l
    simp only [sums, tot, List.length_cons, List.getD_cons_succ, this]
    omega
theorem open_eq {F : Nat} (hf : 1048577 ≤ F) {x : ByteArray} (hx : x.size ≤ 1048576) : p_spec_l12Open F x = some ((opn F 0 x).map (·.1), (tot (opn F 0 x) : Int)) ∧ p_impl_decodeAll F x = some ((opn F 0 x).map (·.1), 0 :: sums 0 (opn F 0 x)) := by
  constructor
  · rw [open_def, if_pos (by omega)]
    have := spec_run (F := F) (by omega) hx F 0 [] (Nat.zero_le _) (by omega) (by simp)
    simpa [ext_all] using this
  · rw [decodeAll_def, if_pos (by omega)]
    have := impl_run F x [] [0] (by omega) (by simp) rfl (by simp) (by simp; omega)
    simpa using this
theorem mem_sums {v : Int} : ∀ (a : Int) (l : List (Rec × Nat)), (∀ e ∈ l, 0 ≤ (e.2 : Int)) → v ∈ sums a l → a ≤ v
  | _, [], _, h => by simp [sums] at h
  | a, (r, n) :: l, hp, h => by
    simp only [sums, List.mem_cons] at h
    rcases h with rfl | h
    · omega
    · have := mem_sums (a + n) l (fun e he => by omega) h
      omega
theorem sums_shift (v c : Int) : ∀ (a : Int) (l : List (Rec × Nat)), (v ∈ sums (c + a) l ↔ v - c ∈ sums a l)
  | _, [] => by simp [sums]
  | a, (r, n) :: l => by
    have := sums_shift v c (a + n) l
    simp only [sums, List.mem_cons]
    rw [show c + a + (n : Int) = c + (a + n) by omega, this]
    constructor
    · rintro (h | h)
      · left; omega
      · right; exact h
    · rintro (h | h)
      · left; omega
      · right; exact h
theorem app_ext {f p : ByteArray} {n : Nat} (h : n ≤ f.size) : (f ++ p).extract 0 n = f.extract 0 n ∧ (f ++ p).extract n (f ++ p).size = f.extract n f.size ++ p := by
  constructor
  · apply ba_ext
    rw [ext_list, ext_list, ba_append_list, List.drop_zero, List.drop_zero, List.take_append_of_le_length (by rw [size_toList]; omega)]
  · apply ba_ext
    rw [ba_append_list, ext_list, ext_list, ba_append_list, ba_append_size, List.drop_append_of_le_length (by rw [size_toList]; omega), List.take_of_length_le (by simp; omega), List.take_of_length_le (by rw [List.length_drop, size_toList]; omega)]
theorem fi_appl {b : UInt8} {f p : ByteArray} (h : fi b f < f.size) : fi b (f ++ p) = fi b f := by
  obtain ⟨e, hn, _⟩ := cut_split h
  have := cut_app (b := b) (s := f ++ p) (A := f.extract 0 (fi b f)) (C := f.extract (fi b f + 1) f.size ++ p) (by rw [← ba_assoc, ← e]) hn
  rw [this.1, ext_size _ _ _ (by omega) (fi_le _ _)]
  omega
theorem fi_ge {b : UInt8} {f p : ByteArray} (h : ¬ fi b f < f.size) : f.size ≤ fi b (f ++ p) := by
  refine Nat.le_of_not_lt fun hlt => h ?_
  have hlt2 : fi b (f ++ p) < (f ++ p).size := by rw [ba_append_size]; omega
  have hm : b ∈ f.data.toList := by
    have hl : (f ++ p).data.toList.findIdx (· == b) < (f ++ p).data.toList.length := by rw [size_toList]; exact hlt2
    have hg := List.findIdx_getElem (p := (· == b)) (xs := (f ++ p).data.toList) (w := hl)
    have hlf : (f ++ p).data.toList.findIdx (· == b) < f.data.toList.length := by rw [size_toList]; exact hlt
    have he : (f ++ p).data.toList = f.data.toList ++ p.data.toList := ba_append_list f p
    have hb : (f ++ p).data.toList[(f ++ p).data.toList.findIdx (· == b)] = b := by simpa using hg
    have hb2 : (f.data.toList ++ p.data.toList)[(f ++ p).data.toList.findIdx (· == b)]? = some b := by
      rw [← he, List.getElem?_eq_getElem hl, hb]
    rw [List.getElem?_append_left hlf] at hb2
    exact List.mem_of_getElem? hb2
  exact fi_mem hm
theorem nxt_app {k : Nat} {f p : ByteArray} (h : fi 10 f < f.size) : nxt k (f ++ p) = nxt k f := by
  unfold nxt
  rw [fi_appl h, (app_ext (p := p) (show fi 10 f + 1 ≤ f.size by omega)).1, ba_append_size]
  by_cases hk : k < 60
  · rw [if_pos ⟨hk, by omega⟩, if_pos ⟨hk, h⟩]
  · rw [if_neg (fun h => hk h.1), if_neg (fun h => hk h.1)]
/-- a text that ends at a line of a longer one -/
theorem prefix_iff : ∀ (d k : Nat) (f p : ByteArray), f.size < d → (tot (opn d k f) = f.size ↔ (f.size : Int) ∈ 0 :: sums 0 (opn d k (f ++ p)))
  | 0, _, _, _, h => by omega
  | d + 1, k, f, p, hd => by
    by_cases hn : fi 10 f < f.size
    · cases hx : nxt k f with
      | none =>
        rw [opn_none hx, opn_none ((nxt_app hn).trans hx)]
        refine ⟨fun h => ?_, fun h => ?_⟩
        · have : (0 : Nat) = f.size := h
          omega
        · rcases List.mem_cons.1 h with h | h
          · omega
          · simp [sums] at h
      | some q =>
        obtain ⟨r, n⟩ := q
        obtain ⟨_, _, h3⟩ := nxt_some hx
        rw [opn_some hx, opn_some ((nxt_app hn).trans hx), (app_ext (p := p) (show n ≤ f.size by omega)).2]
        have hs : (f.extract n f.size).size = f.size - n := ext_size _ _ _ (by omega) (Nat.le_refl _)
        have ih := prefix_iff d (k + 1) (f.extract n f.size) p (by omega)
        have e1 : tot ((r, n) :: opn d (k + 1) (f.extract n f.size)) = n + tot (opn d (k + 1) (f.extract n f.size)) := rfl
        have e2 : sums 0 ((r, n) :: opn d (k + 1) (f.extract n f.size ++ p)) = (0 + (n : Int)) :: sums (0 + (n : Int)) (opn d (k + 1) (f.extract n f.size ++ p)) := rfl
        have sh := sums_shift (f.size : Int) (n : Int) 0 (opn d (k + 1) (f.extract n f.size ++ p))
        rw [e1, e2, List.mem_cons, List.mem_cons, show (0 : Int) + (n : Int) = (n : Int) + 0 by omega, sh]
        rw [hs, List.mem_cons] at ih
        rw [show ((f.size - n : Nat) : Int) = (f.size : Int) - (n : Int) by omega] at ih
        constructor
        · intro h
          rcases ih.1 (by omega) with h | h
          · right; left; omega
          · right; right; exact h
        · rintro (h | h | h)
          · omega
          · have := ih.2 (.inl (by omega)); omega
          · have := ih.2 (.inr h); omega
    · have hx : nxt k f = none := by unfold nxt; rw [if_neg (fun h => hn h.2)]
      rw [opn_none hx]
      by_cases hz : f.size = 0
      · simp [tot, hz]
      · have h1 : ¬ (tot ([] : List (Rec × Nat)) = f.size) := by simp [tot]; omega
        refine ⟨fun h => absurd h h1, fun h => ?_⟩
        exfalso
        rcases List.mem_cons.1 h with h | h
        · omega
        · cases hy : nxt k (f ++ p) with
          | none => rw [opn_none hy] at h; simp [sums] at h
          | some q =>
            obtain ⟨r, n⟩ := q
            obtain ⟨_, _, h3⟩ := nxt_some hy
            have hge := fi_ge (p := p) hn
            rw [opn_some hy] at h
            have e2 : sums 0 ((r, n) :: opn d (k + 1) ((f ++ p).extract n (f ++ p).size)) = (0 + (n : Int)) :: sums (0 + (n : Int)) (opn d (k + 1) ((f ++ p).extract n (f ++ p).size)) := rfl
            rw [e2] at h
            rcases List.mem_cons.1 h with h | h
            · omega
            · have := mem_sums _ _ (fun e _ => by omega) h
              omega
theorem contains_eq (xs : List Int) (v : Int) : p_slices_Contains_int_int xs v = decide (v ∈ xs) := by
  unfold p_slices_Contains_int_int p_slices_Index_int_int
  rw [anyI]
  by_cases h : v ∈ xs
  · rw [decide_eq_true h, List.any_eq_true]; exact ⟨v, h, by simp⟩
  · rw [decide_eq_false h, Bool.eq_false_iff]
    intro h2
    rw [List.any_eq_true] at h2
    obtain ⟨y, hy, e⟩ := h2
    have : v = y := by simpa using e
    exact h (this ▸ hy)
def FU : Nat := 1048577
theorem valid_eq {f p : ByteArray} {c : Int} (hf : f.size ≤ 1048576) (hp : p.size ≤ 1048576) : ∃ q, p_spec_l12Valid FU (f, (p, (c, ()))) = some q ∧ p_impl_IsValidLog FU (f, (p, (c, ()))) = some q ∧ (q = true → 0 ≤ c ∧ c ≤ 60) := by
  have hs : (f ++ p).size = f.size + p.size := ba_append_size f p
  unfold p_spec_l12Valid p_impl_IsValidLog p_impl_readLog
  simp only
  have ew : IntKind.wrap .i64 ((f.size : Int) + (p.size : Int)) = (f.size : Int) + (p.size : Int) := wrap_id (by omega) (by omega)
  rw [ew, hs]
  by_cases h : 30000 < (f.size : Int) + (p.size : Int)
  · rw [if_pos h, if_pos (by omega), if_pos (by omega)]
    exact ⟨false, rfl, rfl, fun h => by cases h⟩
  · rw [if_neg h, if_pos (by omega), if_pos (by omega), if_neg (by omega)]
    obtain ⟨s1, i1⟩ := open_eq (F := FU) (Nat.le_refl _) (x := f ++ p) (by omega)
    obtain ⟨s2, _⟩ := open_eq (F := FU) (Nat.le_refl _) (x := f) hf
    have hpre := prefix_iff FU 0 f p (by unfold FU; omega)
    have hl := opn_len FU 0 (f ++ p) (by omega)
    have hlast := sums_last 0 (opn FU 0 (f ++ p))
    have hsl := sums_len 0 (opn FU 0 (f ++ p))
    rw [s1, s2, i1]
    generalize opn FU 0 (f ++ p) = o at *
    generalize opn FU 0 f = o' at *
    simp only [Option.bind_some, List.length_map]
    rw [if_pos (by simp only [List.length_cons, hsl]; omega), nat_toNat, hlast, contains_eq]
    simp only [Option.bind_some]
    refine ⟨_, rfl, ?_, fun hq => ?_⟩
    · congr 1
      have e1 : decide ((tot o' : Int) = (f.size : Int)) = decide ((f.size : Int) ∈ 0 :: sums 0 o) := by
        by_cases hh : tot o' = f.size
        · rw [decide_eq_true (by omega), decide_eq_true (hpre.1 hh)]
        · rw [decide_eq_false (by omega), decide_eq_false (fun h => hh (hpre.2 h))]
      rw [e1]
      have e2 : decide (0 + (tot o : Int) = ((f.size + p.size : Nat) : Int)) = decide ((tot o : Int) = (f.size : Int) + (p.size : Int)) := by
        congr 1
        apply propext
        constructor <;> intro h <;> omega
      have e3 : decide (c = (o.length : Int)) = decide ((o.length : Int) = c) := by
        congr 1
        apply propext
        constructor <;> intro h <;> omega
      rw [e2, e3]
    · simp only [Bool.and_eq_true, decide_eq_true_eq] at hq
      omega
end Go.GA
