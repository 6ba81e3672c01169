/- Plain laws of logs: lines that follow lines, texts that are cut, texts that are broken. -/
import Derived.Test.YtiimmhnekpmnlaaDoorTKf
namespace Go.GA
open Go
set_option maxRecDepth 100000
theorem fi_iff {b : UInt8} {s : ByteArray} : fi b s < s.size ↔ b ∈ s.data.toList := by
  constructor
  · intro h
    rw [← size_toList] at h
    have hg := List.findIdx_getElem (p := (· == b)) (xs := s.data.toList) (w := h)
    have : s.data.toList[s.data.toList.findIdx (· == b)] = b := by simpa using hg
    rw [← this]
    exact List.getElem_mem _
  · exact fi_mem
/-! ### the bytes of a line -/
theorem okB_mid {l : List UInt8} (h : l.all okB = true) : ∀ y ∈ l, y ≠ 10 ∧ y ≠ 245 := fun y hy => by
  have := List.all_eq_true.1 h y hy
  constructor
  · rintro rfl; revert this; decide
  · rintro rfl; revert this; decide
theorem sealed_mid {i : Nat} {x : Rec} (h : Vr x) (r : Nat) : ∀ y ∈ (sealedB (lineB i x) r).data.toList, y ≠ 10 ∧ y ≠ 245 := fun y hy => by
  obtain ⟨_, _, o1, o2, _⟩ := h.facts
  have dn : ∀ n : Nat, y ∈ (numB n).data.toList → y ≠ 10 ∧ y ≠ 245 := fun n hn => ⟨dec_ne (by decide) y hn, dec_ne (by decide) y hn⟩
  have on : ∀ b : UInt8, b ≠ 10 ∧ b ≠ 245 → y ∈ (ByteArray.mk #[b]).data.toList → y ≠ 10 ∧ y ≠ 245 := fun b hb hy => by
    have : y = b := by simpa using hy
    rw [this]; exact hb
  unfold sealedB lineB at hy
  simp only [ba_append_list, List.mem_append] at hy
  rcases hy with ((((((hy | hy) | hy) | hy) | hy)) | hy) | hy
  · exact dn _ hy
  · exact on 32 (by decide) hy
  · exact okB_mid o1 y hy
  · exact on 64 (by decide) hy
  · exact okB_mid o2 y hy
  · exact on 35 (by decide) hy
  · exact dn _ hy
theorem Ln_fi {i : Nat} {x : Rec} (h : Vr x) : fi 10 (Ln i x) + 1 = (Ln i x).size := by
  have c := cut_app (b := 10) (s := Ln i x) (A := sealedB (lineB i x) (sumN (lineB i x))) (C := ByteArray.mk #[]) (by unfold Ln; apply ba_ext; simp) (fun y hy => (sealed_mid h _ y hy).1)
  rw [c.1]
  unfold Ln
  rw [ba_append_size]; rfl
theorem Ln_245 {i : Nat} {x : Rec} (h : Vr x) : ∀ y ∈ (Ln i x).data.toList, y ≠ 245 := fun y hy => by
  unfold Ln at hy
  rw [ba_append_list, List.mem_append] at hy
  rcases hy with hy | hy
  · exact (sealed_mid h _ y hy).2
  · have : y = 10 := by simpa using hy
    rw [this]; decide
theorem Ln_size {i : Nat} (hi : i ≤ 59) {x : Rec} (h : Vr x) : (Ln i x).size ≤ 422 ∧ 0 < (Ln i x).size := by
  obtain ⟨b1, b2, _, _, _⟩ := h.facts
  obtain ⟨hl, hn⟩ := lineB_size hi x
  obtain ⟨r, hr0, hr, s1, s2⟩ := seal_spec (fu := 6) (by omega) (s := lineB i x) (by omega)
  have hnr : (numB r).size ≤ 6 := by rw [numB_size]; exact nDigits_lt (by omega) (by omega)
  have f3 : (ByteArray.mk #[35]).size = 1 := rfl
  have f4 : (ByteArray.mk #[10]).size = 1 := rfl
  unfold Ln sealedB
  rw [← hr0, ba_append_size, ba_append_size, ba_append_size, f3, f4]
  omega
/-! ### the next line -/
theorem nxt_line {k n : Nat} {s : ByteArray} {r : Rec} (hs : s.size ≤ 2097152) (h : nxt k s = some (r, n)) : k ≤ 59 ∧ Vr r ∧ s.extract 0 n = Ln k r ∧ n = (Ln k r).size := by
  obtain ⟨h1, h2, h3⟩ := nxt_some h
  have hle := ext_le s 0 (fi 10 s + 1)
  obtain ⟨r', ok, e, hok⟩ := decode_some (i := k) (L := s.extract 0 (fi 10 s + 1)) (by omega)
  rw [nxt_dec h1 h2 e] at h
  cases ok with
  | false => simp at h
  | true =>
    simp only [if_true, Option.some.injEq, Prod.mk.injEq] at h
    obtain ⟨rfl, rfl⟩ := h
    obtain ⟨g1, g2, g3⟩ := hok rfl
    refine ⟨g1, g2, g3, ?_⟩
    rw [← g3, ext_size _ _ _ (by omega) (by omega)]; rfl
theorem nxt_Ln {k : Nat} (hk : k ≤ 59) {x : Rec} (h : Vr x) (p : ByteArray) : nxt k (Ln k x ++ p) = some (x, (Ln k x).size) := by
  have hf := Ln_fi (i := k) h
  rw [nxt_app (by omega)]
  have e : (Ln k x).extract 0 (fi 10 (Ln k x) + 1) = Ln k x := by rw [hf, ext_all]
  have hd := decode_Ln hk h
  rw [nxt_dec (by omega) (by omega) (by rw [e]; exact hd), if_pos rfl, hf]
theorem nxt_no {k : Nat} {s : ByteArray} (h : ¬ fi 10 s < s.size) : nxt k s = none := by
  unfold nxt; rw [if_neg (fun hh => h hh.2)]
theorem opn_no {d k : Nat} {s : ByteArray} (h : nxt k s = none) : opn d k s = [] := by
  cases d with
  | zero => rfl
  | succ d => exact opn_none h
theorem opn_fuel : ∀ (d d' k : Nat) (s : ByteArray), s.size < d → s.size < d' → opn d k s = opn d' k s
  | 0, _, _, _, h, _ => by omega
  | d + 1, 0, _, _, _, h => by omega
  | d + 1, d' + 1, k, s, h1, h2 => by
    cases h : nxt k s with
    | none => rw [opn_none h, opn_none h]
    | some q =>
      obtain ⟨r, n⟩ := q
      obtain ⟨_, g2, g3⟩ := nxt_some h
      have hs : (s.extract n s.size).size = s.size - n := ext_size _ _ _ (by omega) (Nat.le_refl _)
      rw [opn_some h, opn_some h, opn_fuel d d' (k + 1) _ (by omega) (by omega)]
/-- lines behind whole lines -/
theorem opn_app : ∀ (d k : Nat) (f p : ByteArray), f.size + p.size < d → tot (opn d k f) = f.size → opn d k (f ++ p) = opn d k f ++ opn d (k + (opn d k f).length) p
  | 0, _, _, _, h, _ => by omega
  | d + 1, k, f, p, hd, ht => by
    cases h : nxt k f with
    | none =>
      rw [opn_none h] at ht ⊢
      have h0 : f.size = 0 := ht.symm
      have e : f ++ p = p := by
        apply ba_ext
        rw [ba_append_list]
        have : f.data.toList = [] := List.eq_nil_of_length_eq_zero (by rw [size_toList, h0])
        rw [this, List.nil_append]
      rw [e]; rfl
    | some q =>
      obtain ⟨r, n⟩ := q
      obtain ⟨_, g2, g3⟩ := nxt_some h
      have hs : (f.extract n f.size).size = f.size - n := ext_size _ _ _ (by omega) (Nat.le_refl _)
      rw [opn_some h] at ht ⊢
      have ht' : n + tot (opn d (k + 1) (f.extract n f.size)) = f.size := ht
      rw [opn_some ((nxt_app g2).trans h), (app_ext (p := p) (show n ≤ f.size by omega)).2, opn_app d (k + 1) (f.extract n f.size) p (by omega) (by omega)]
      rw [List.cons_append, List.length_cons, show k + ((opn d (k + 1) (f.extract n f.size)).length + 1) = k + 1 + (opn d (k + 1) (f.extract n f.size)).length by omega]
      rw [opn_fuel d (d + 1) _ p (by omega) (by omega)]
theorem tot_app : ∀ (a b : List (Rec × Nat)), tot (a ++ b) = tot a + tot b
  | [], b => by simp [tot]
  | (_, n) :: a, b => by
    show n + tot (a ++ b) = n + tot a + tot b
    rw [tot_app a b]; omega
theorem opn_one {d k : Nat} (hk : k ≤ 59) {x : Rec} (h : Vr x) (hd : (Ln k x).size < d) : opn d k (Ln k x) = [(x, (Ln k x).size)] := by
  obtain ⟨d, rfl⟩ : ∃ e, d = e + 1 := ⟨d - 1, by omega⟩
  have e := nxt_Ln hk h (ByteArray.mk #[])
  have e2 : Ln k x ++ ByteArray.mk #[] = Ln k x := by apply ba_ext; simp
  rw [e2] at e
  rw [opn_some e]
  have : (Ln k x).extract (Ln k x).size (Ln k x).size = ByteArray.mk #[] := by
    apply ba_ext
    rw [ext_list, Nat.sub_self, List.take_zero]
  rw [this, opn_no (nxt_no (by show ¬ _ < 0; omega))]
/-- a text up to its last line -/
theorem opn_cut : ∀ (d k : Nat) (s : ByteArray), s.size < d → opn d k (s.extract 0 (tot (opn d k s))) = opn d k s
  | 0, _, _, h => by omega
  | d + 1, k, s, hd => by
    cases h : nxt k s with
    | none =>
      rw [opn_none h]
      have e : (s.extract 0 (tot [])).size = 0 := by
        have := ext_size s 0 0 (Nat.le_refl _) (Nat.zero_le _)
        exact this
      exact opn_no (nxt_no (by rw [e]; omega))
    | some q =>
      obtain ⟨r, n⟩ := q
      obtain ⟨_, g2, g3⟩ := nxt_some h
      rw [opn_some h]
      have ih := opn_cut d (k + 1) (s.extract n s.size) (by rw [ext_size _ _ _ (by omega) (Nat.le_refl _)]; omega)
      have htl := tot_le d (k + 1) (s.extract n s.size)
      have hsz : (s.extract n s.size).size = s.size - n := ext_size _ _ _ (by omega) (Nat.le_refl _)
      generalize hT : tot (opn d (k + 1) (s.extract n s.size)) = T at ih htl
      have e1 : tot ((r, n) :: opn d (k + 1) (s.extract n s.size)) = n + T := by rw [← hT]; rfl
      rw [e1]
      have hf : (s.extract 0 (n + T)).size = n + T := by rw [ext_size _ _ _ (by omega) (by omega)]; omega
      have es : s = s.extract 0 (n + T) ++ s.extract (n + T) s.size := by
        apply ba_ext
        rw [ba_append_list, ext_list, ext_list, List.drop_zero, Nat.sub_zero, List.take_of_length_le (l := s.data.toList.drop (n + T)) (by rw [List.length_drop, size_toList]; omega), List.take_append_drop]
      have hfi : fi 10 (s.extract 0 (n + T)) < (s.extract 0 (n + T)).size := by
        by_cases hh : fi 10 (s.extract 0 (n + T)) < (s.extract 0 (n + T)).size
        · exact hh
        · have := fi_ge (p := s.extract (n + T) s.size) hh
          rw [← es] at this
          omega
      have hn := nxt_app (k := k) (p := s.extract (n + T) s.size) hfi
      rw [← es, h] at hn
      rw [opn_some hn.symm]
      have e2 : (s.extract 0 (n + T)).extract n (s.extract 0 (n + T)).size = (s.extract n s.size).extract 0 T := by
        apply ba_ext
        rw [hf, ext_list, ext_list, ext_list, ext_list, List.drop_zero, List.drop_zero, Nat.sub_zero, Nat.sub_zero, List.drop_take, List.take_take, List.take_take]
        congr 1
        omega
      rw [e2, ih]
/-- how long lines are -/
theorem opn_small : ∀ (d k : Nat) (s : ByteArray), s.size ≤ 2097152 → tot (opn d k s) ≤ 422 * (opn d k s).length
  | 0, _, _, _ => Nat.zero_le _
  | d + 1, k, s, hs => by
    cases h : nxt k s with
    | none => rw [opn_none h]; exact Nat.zero_le _
    | some q =>
      obtain ⟨r, n⟩ := q
      obtain ⟨g1, g2, g3, g4⟩ := nxt_line hs h
      have hl := (Ln_size g1 g2).1
      have ih := opn_small d (k + 1) (s.extract n s.size) (by have := ext_le s n s.size; omega)
      rw [opn_some h, List.length_cons]
      show n + tot _ ≤ _
      omega
theorem opn_245 : ∀ (d k : Nat) (s : ByteArray), s.size ≤ 2097152 → s.size < d → tot (opn d k s) = s.size → ∀ y ∈ s.data.toList, y ≠ 245
  | 0, _, _, _, h, _, _, _ => by omega
  | d + 1, k, s, hs, hd, ht, y, hy => by
    cases h : nxt k s with
    | none =>
      rw [opn_none h] at ht
      have h0 : s.size = 0 := ht.symm
      have : s.data.toList = [] := List.eq_nil_of_length_eq_zero (by rw [size_toList, h0])
      rw [this] at hy; cases hy
    | some q =>
      obtain ⟨r, n⟩ := q
      obtain ⟨_, f2, f3⟩ := nxt_some h
      obtain ⟨g1, g2, g3, g4⟩ := nxt_line hs h
      have hsz : (s.extract n s.size).size = s.size - n := ext_size _ _ _ (by omega) (Nat.le_refl _)
      rw [opn_some h] at ht
      have ht' : n + tot (opn d (k + 1) (s.extract n s.size)) = s.size := ht
      have es : s.data.toList = (s.extract 0 n).data.toList ++ (s.extract n s.size).data.toList := by
        rw [ext_list, ext_list, List.drop_zero, Nat.sub_zero, List.take_of_length_le (l := s.data.toList.drop n) (by rw [List.length_drop, size_toList]; omega), List.take_append_drop]
      rw [es, List.mem_append] at hy
      rcases hy with hy | hy
      · rw [g3] at hy; exact Ln_245 g2 y hy
      · exact opn_245 d (k + 1) _ (by omega) (by omega) (by omega) y hy
/-- a broken text: it begins alike, and no line ends behind -/
theorem opn_brk : ∀ (d k : Nat) (u v w : ByteArray), (∀ y ∈ w.data.toList, y ≠ 10) → u.size < d → ∃ l, opn d k (u ++ v) = opn d k (u ++ w) ++ l
  | 0, _, _, _, _, _, h => by omega
  | d + 1, k, u, v, w, hw, hd => by
    by_cases hu : fi 10 u < u.size
    · cases h : nxt k u with
      | none => exact ⟨[], by rw [opn_none ((nxt_app hu).trans h), opn_none ((nxt_app hu).trans h)]; rfl⟩
      | some q =>
        obtain ⟨r, n⟩ := q
        obtain ⟨_, f2, f3⟩ := nxt_some h
        have hsz : (u.extract n u.size).size = u.size - n := ext_size _ _ _ (by omega) (Nat.le_refl _)
        obtain ⟨l, hl⟩ := opn_brk d (k + 1) (u.extract n u.size) v w hw (by omega)
        refine ⟨l, ?_⟩
        rw [opn_some ((nxt_app hu).trans h), opn_some ((nxt_app hu).trans h), (app_ext (p := v) (show n ≤ u.size by omega)).2, (app_ext (p := w) (show n ≤ u.size by omega)).2, hl]
        rfl
    · have hn : ¬ fi 10 (u ++ w) < (u ++ w).size := by
        intro hh
        have hm := fi_iff.1 hh
        rw [ba_append_list, List.mem_append] at hm
        rcases hm with hm | hm
        · exact hu (fi_iff.2 hm)
        · exact hw _ hm rfl
      exact ⟨opn (d + 1) k (u ++ v), by rw [opn_none (nxt_no hn)]; rfl⟩
end Go.GA
