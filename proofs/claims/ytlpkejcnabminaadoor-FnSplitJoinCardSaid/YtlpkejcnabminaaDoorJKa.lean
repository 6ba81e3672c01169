/- Plain law of FnSplitJoin: texts that are joined. -/
import Derived.Test.YtlpkejcnabminaaDoorGpA
import Derived.Test.YtlpkejcnabminaaDoorJK2
namespace Go.GA
open Go
set_option maxRecDepth 100000
/-- a byte stands in a text -/
def hasB (c : UInt8) (s : ByteArray) : Bool := s.data.toList.any (· == c)
theorem contains_eq (s : ByteArray) (c : UInt8) : p_strings_Contains s ⟨#[c]⟩ = some (hasB c s) := by
  unfold p_strings_Contains hasB
  rw [if_pos (by rfl)]
  show some (decide (0 ≤ Lib.indexByte s.data.toList c)) = _
  rw [index_mem]
theorem u8_int (a b : UInt8) : ((a.toNat : Int) = (b.toNat : Int)) ↔ a = b := by
  constructor
  · intro h
    exact UInt8.toNat_inj.1 (by omega)
  · rintro rfl; rfl
theorem stands_eq (s : ByteArray) (c : UInt8) (hs : s.size ≤ 1000000) : p_spec_l1Stands s (c.toNat : Int) = some (hasB c s) := by
  unfold p_spec_l1Stands hasB
  rw [if_pos (by omega), show Int.toNat ((s.size : Int) - 0) = s.size by omega]
  rw [cnt_list (k := fun _ _ => some false) (fun (b : UInt8) (_ : Unit) c3 => if b = c then some true else c3 ()) s.data.toList 0 (size_toList s).symm (fun i u c3 _ _ => by
    by_cases h : s.data.toList.getD i.toNat 0 = c
    · rw [if_pos ((u8_int _ _).2 h), if_pos h]
    · rw [if_neg (fun q => h ((u8_int _ _).1 q)), if_neg h])]
  generalize s.data.toList = l
  induction l with
  | nil => rfl
  | cons b l ih =>
    simp only [lrun, List.any_cons]
    by_cases h : b = c
    · rw [if_pos h, h]; simp
    · rw [if_neg h, ih]
      have : (b == c) = false := by simpa using h
      rw [this, Bool.false_or]
theorem con_eq (s : ByteArray) (c : UInt8) (hs : s.size ≤ 1000000) : p_impl_areAll_string_1 s ⟨#[c]⟩ = some (hasB c s) := by
  unfold p_impl_areAll_string_1 p_impl_JoinStrings_1
  rw [if_pos (by omega), if_pos (by omega), contains_eq]
  simp
theorem first_run (c : UInt8) (l : List ByteArray) (hl : ∀ s ∈ l, s.size ≤ 1000000) : ∀ (d i : Nat), d + i = l.length → ∃ v : Int, cnt (fun i2 (s1 : Unit) c3 _ => (p_impl_areAll_string_1 (l.getD i2.toNat ByteArray.empty) ⟨#[c]⟩).bind (fun r8 => (if r8 = true then some i2 else c3 ()))) (fun i2 (s1 : Unit) => some (-1)) d (i : Int) () = some v ∧ decide (0 ≤ v) = (l.drop i).any (hasB c)
  | 0, i, h => ⟨-1, rfl, by rw [List.drop_eq_nil_of_le (by omega)]; rfl⟩
  | d + 1, i, h => by
    have hi : i < l.length := by omega
    obtain ⟨v, e, hv⟩ := first_run c l hl d (i + 1) (by omega)
    simp only [cnt]
    have eg : l.getD (i : Int).toNat ByteArray.empty = l[i] := by rw [Int.toNat_natCast, List.getD_eq_getElem?_getD, List.getElem?_eq_getElem hi]; rfl
    rw [eg, con_eq _ _ (hl _ (List.getElem_mem hi)), Option.bind_some, List.drop_eq_getElem_cons hi, List.any_cons]
    by_cases hb : hasB c l[i] = true
    · rw [if_pos hb, hb]
      exact ⟨i, rfl, by simp⟩
    · rw [if_neg hb, Bool.not_eq_true _ |>.mp hb, Bool.false_or]
      exact ⟨v, e, hv⟩
theorem all_eq (c : UInt8) (l : List ByteArray) (hl : ∀ s ∈ l, s.size ≤ 1000000) : p_impl_areAll_string l ⟨#[c]⟩ = some (!(l.any (hasB c))) := by
  unfold p_impl_areAll_string p_slices_ContainsFunc_string_string p_slices_IndexFunc_string_string
  obtain ⟨v, e, hv⟩ := first_run c l hl l.length 0 (by omega)
  rw [show Int.toNat ((l.length : Int) - 0) = l.length by omega]
  have e' : cnt (fun i2 (s1 : Unit) c3 _ => (p_impl_areAll_string_1 (l.getD i2.toNat ByteArray.empty) ⟨#[c]⟩).bind (fun r8 => (if r8 = true then some i2 else c3 ()))) (fun i2 (s1 : Unit) => some (-1)) l.length 0 () = some v := e
  rw [e', Option.bind_some, Option.bind_some, hv]
  rfl
/-- the lengths, added up -/
def sizes : List ByteArray → Nat
  | [] => 0
  | s :: l => s.size + sizes l
theorem sum_run (v : Option (ByteArray × Bool)) (l : List ByteArray) (hl : ∀ s ∈ l, s.size ≤ 1000000) (hn : l.length ≤ 1000) : ∀ (d i : Nat) (s : Int), d + i = l.length → 0 ≤ s → s ≤ 10000 →
    cnt (fun i36 (s35 : Int) c37 _ => (if 4000 < (IntKind.wrap .i64 (s35 + ((l.getD i36.toNat ByteArray.empty).size : Int))) then some ((ByteArray.mk #[]), false) else c37 (IntKind.wrap .i64 (s35 + ((l.getD i36.toNat ByteArray.empty).size : Int))))) (fun i36 (s35 : Int) => (if 4000 < s35 then some ((ByteArray.mk #[]), false) else v)) d (i : Int) s = if 4000 < s + sizes (l.drop i) then some ((ByteArray.mk #[]), false) else v
  | 0, i, s, h, h0, h1 => by
    rw [List.drop_eq_nil_of_le (by omega)]
    simp [cnt, sizes]
  | d + 1, i, s, h, h0, h1 => by
    have hi : i < l.length := by omega
    simp only [cnt]
    have eg : l.getD (i : Int).toNat ByteArray.empty = l[i] := by rw [Int.toNat_natCast, List.getD_eq_getElem?_getD, List.getElem?_eq_getElem hi]; rfl
    have hz := hl _ (List.getElem_mem hi)
    rw [eg, wr (by omega) (by omega), List.drop_eq_getElem_cons hi]
    have es : sizes (l[i] :: l.drop (i + 1)) = l[i].size + sizes (l.drop (i + 1)) := rfl
    by_cases hb : 4000 < s + (l[i].size : Int)
    · rw [if_pos hb, if_pos (by omega)]
    · rw [if_neg hb]
      refine Eq.trans (sum_run v l hl hn d (i + 1) (s + (l[i].size : Int)) (by omega) (by omega) (by omega)) ?_
      rw [es, show s + (l[i].size : Int) + (sizes (l.drop (i + 1)) : Int) = s + ((l[i].size + sizes (l.drop (i + 1)) : Nat) : Int) by omega]
/-- the loop of the model -/
def jo (c : UInt8) (first : Bool) (out : ByteArray) : List ByteArray → ByteArray × Bool
  | [] => (out, true)
  | s :: l => if hasB c s = true then (ByteArray.mk #[], false) else if 4000 < ((if first then out else out ++ ⟨#[c]⟩) ++ s).size then (ByteArray.mk #[], false) else jo c false ((if first then out else out ++ ⟨#[c]⟩) ++ s) l
theorem size_app (a b : ByteArray) : (a ++ b).size = a.size + b.size := by
  exact ByteArray.size_append
theorem spec_run (c : UInt8) (l : List ByteArray) (hl : ∀ s ∈ l, s.size ≤ 1000000) {K : Int → ByteArray → Option (ByteArray × Bool)} {F : Int → ByteArray → (ByteArray → Option (ByteArray × Bool)) → (Int → ByteArray → Option (ByteArray × Bool)) → Option (ByteArray × Bool)}
    (hK : ∀ i s, K i s = some (s, true))
    (hF : ∀ i13 s12 c14 k, F i13 s12 c14 k = (p_spec_l1Stands (l.getD i13.toNat ByteArray.empty) (c.toNat : Int)).bind (fun r19 => (if r19 = true then some ((ByteArray.mk #[]), false) else jn (fun (s21 : ByteArray) => if (s21.size : Int) + ((l.getD i13.toNat ByteArray.empty).size : Int) ≤ 9223372036854775807 then (if 4000 < ((s21 ++ (l.getD i13.toNat ByteArray.empty)).size : Int) then some ((ByteArray.mk #[]), false) else c14 (s21 ++ (l.getD i13.toNat ByteArray.empty))) else none) (fun k22 => (if 0 < i13 then if (s12.size : Int) + 1 ≤ 9223372036854775807 then k22 (s12 ++ ⟨#[c]⟩) else none else k22 s12))))) : ∀ (d i : Nat) (out : ByteArray), d + i = l.length → out.size ≤ 4000 →
    cnt F K d (i : Int) out = some (jo c (decide (i = 0)) out (l.drop i))
  | 0, i, out, h, ho => by
    rw [List.drop_eq_nil_of_le (by omega)]
    exact hK _ _
  | d + 1, i, out, h, ho => by
    have hi : i < l.length := by omega
    have ih := fun out => spec_run c l hl hK hF d (i + 1) out (by omega)
    have eg : l.getD (i : Int).toNat ByteArray.empty = l[i] := by rw [Int.toNat_natCast, List.getD_eq_getElem?_getD, List.getElem?_eq_getElem hi]; rfl
    have hz := hl _ (List.getElem_mem hi)
    have es : (out ++ (⟨#[c]⟩ : ByteArray)).size = out.size + 1 := by rw [size_app]; rfl
    have ej : ∀ (k : ByteArray → Option (ByteArray × Bool)), jn k (fun k22 => (if 0 < (i : Int) then if (out.size : Int) + 1 ≤ 9223372036854775807 then k22 (out ++ ⟨#[c]⟩) else none else k22 out)) = k (if decide (i = 0) = true then out else out ++ ⟨#[c]⟩) := by
      intro k
      show (if 0 < (i : Int) then if (out.size : Int) + 1 ≤ 9223372036854775807 then k (out ++ ⟨#[c]⟩) else none else k out) = _
      by_cases h0 : i = 0
      · rw [if_neg (by omega), if_pos (decide_eq_true h0)]
      · rw [if_pos (by omega), if_pos (by omega), if_neg (by simpa using h0)]
    have ho2 : (if decide (i = 0) = true then out else out ++ (⟨#[c]⟩ : ByteArray)).size ≤ 4001 := by
      by_cases h0 : i = 0
      · rw [if_pos (decide_eq_true h0)]; omega
      · rw [if_neg (by simpa using h0), es]; omega
    have e0 : cnt F K (d + 1) (i : Int) out = F (i : Int) out (fun s' => cnt F K d ((i : Int) + 1) s') K := rfl
    rw [e0, hF, eg, stands_eq _ _ hz, Option.bind_some, ej, List.drop_eq_getElem_cons hi]
    have ejo : jo c (decide (i = 0)) out (l[i] :: l.drop (i + 1)) = if hasB c l[i] = true then (ByteArray.mk #[], false) else if 4000 < ((if decide (i = 0) = true then out else out ++ ⟨#[c]⟩) ++ l[i]).size then (ByteArray.mk #[], false) else jo c false ((if decide (i = 0) = true then out else out ++ ⟨#[c]⟩) ++ l[i]) (l.drop (i + 1)) := rfl
    rw [ejo]
    generalize (if decide (i = 0) = true then out else out ++ (⟨#[c]⟩ : ByteArray)) = o at ho2
    by_cases hb : hasB c l[i] = true
    · rw [if_pos hb, if_pos hb]
    · rw [if_neg hb, if_neg hb, if_pos (by omega)]
      by_cases hq : 4000 < (o ++ l[i]).size
      · rw [if_pos (by omega), if_pos hq]
      · rw [if_neg (by omega), if_neg hq]
        have := ih (o ++ l[i]) (by omega)
        rw [decide_eq_false (by omega : ¬ i + 1 = 0)] at this
        exact this
/-- what stands behind the first text -/
def behind (c : UInt8) : List ByteArray → List UInt8
  | [] => []
  | s :: l => c :: (s.data.toList ++ behind c l)
theorem bj_ext {a b : ByteArray} (h : a.data.toList = b.data.toList) : a = b := by
  cases a; cases b
  simp only [ByteArray.mk.injEq]
  exact Array.toList_inj.1 h
theorem app_data (a b : ByteArray) : (a ++ b).data.toList = a.data.toList ++ b.data.toList := by
  rw [ByteArray.data_append, Array.toList_append]
theorem behind_len (c : UInt8) : ∀ l : List ByteArray, (behind c l).length = sizes l + l.length
  | [] => rfl
  | s :: l => by simp only [behind, sizes, List.length_cons, List.length_append, behind_len c l, size_toList]; omega
theorem jo_eq (c : UInt8) : ∀ (l : List ByteArray) (out : ByteArray), out.size ≤ 4000 → jo c false out l = bif (l.any (hasB c) || decide (4000 < out.size + sizes l + l.length)) then (ByteArray.mk #[], false) else (⟨(out.data.toList ++ behind c l).toArray⟩, true)
  | [], out, h => by
    have e1 : sizes ([] : List ByteArray) = 0 := rfl
    rw [decide_eq_false (by rw [e1]; simp only [List.length_nil]; omega)]
    simp [jo, behind]
  | s :: l, out, h => by
    have e1 : sizes (s :: l) = s.size + sizes l := rfl
    have es : ((out ++ (⟨#[c]⟩ : ByteArray)) ++ s).size = out.size + 1 + s.size := by rw [size_app, size_app]; rfl
    have ejo : jo c false out (s :: l) = if hasB c s = true then (ByteArray.mk #[], false) else if 4000 < ((out ++ ⟨#[c]⟩) ++ s).size then (ByteArray.mk #[], false) else jo c false ((out ++ ⟨#[c]⟩) ++ s) l := rfl
    rw [ejo, List.any_cons, List.length_cons, e1]
    by_cases hb : hasB c s = true
    · rw [if_pos hb, hb]; simp
    · rw [if_neg hb, Bool.not_eq_true _ |>.mp hb, Bool.false_or]
      by_cases hq : 4000 < ((out ++ (⟨#[c]⟩ : ByteArray)) ++ s).size
      · rw [if_pos hq, decide_eq_true (by omega), Bool.or_true]; rfl
      · rw [if_neg hq, jo_eq c l _ (by omega), es]
        have e2 : (out.size + 1 + s.size + sizes l + l.length) = (out.size + (s.size + sizes l) + (l.length + 1)) := by omega
        have e3 : ((out ++ (⟨#[c]⟩ : ByteArray)) ++ s).data.toList ++ behind c l = out.data.toList ++ behind c (s :: l) := by
          rw [app_data, app_data]
          simp [behind]
        rw [e2, e3]
theorem join_data (c : UInt8) (s : ByteArray) (l : List ByteArray) : joinB (s :: l) ⟨#[c]⟩ = ⟨(s.data.toList ++ behind c l).toArray⟩ := by
  unfold joinB
  rw [List.map_cons, Lib.join_cons]
  have : ∀ l : List ByteArray, Lib.joinTail [c] (l.map (·.data.toList)) = behind c l := by
    intro l
    induction l with
    | nil => rfl
    | cons x l ih =>
      simp only [behind, ← ih]
      simp [Lib.joinTail]
  show (⟨(s.data.toList ++ Lib.joinTail [c] _).toArray⟩ : ByteArray) = _
  rw [this]
theorem join_same (l : List ByteArray) (m : ByteArray) (hl : ∀ s ∈ l, s.size ≤ 5000) (hn : l.length ≤ 1000) (hm : m.size ≤ 1000) : ∃ r, p_impl_JoinStrings l m = some r ∧ p_spec_JoinStrings l m = some r := by
  have hl' : ∀ s ∈ l, s.size ≤ 1000000 := fun s hs => by have := hl s hs; omega
  unfold p_impl_JoinStrings p_spec_JoinStrings
  have hmm : (m.size : Int) ≤ 9223372036854775807 := by omega
  rw [if_pos hmm, if_pos hmm]
  by_cases h0 : l = []
  · subst h0
    refine ⟨(ByteArray.mk #[], false), ?_, ?_⟩
    · rw [if_pos (by intro h; cases h), if_pos (by rfl)]
    · refine if_pos ?_
      simp
  by_cases h1 : m.size = 1
  · obtain ⟨c, rfl⟩ := Lib.one_byte m h1
    have hpos : ¬ (l.length : Int) = 0 := by
      intro h; exact h0 (List.eq_nil_of_length_eq_zero (by omega))
    have e1 : (((⟨#[c]⟩ : ByteArray).size : Int) = 1) := rfl
    rw [all_eq c l hl', if_pos (by intro _; rfl), decide_eq_false hpos, decide_eq_true e1, Option.getD_some]
    rw [show Int.toNat ((l.length : Int) - 0) = l.length by omega]
    have hsum := fun v => sum_run v l hl' hn l.length 0 ((l.length : Int) - 1) (by omega) (by omega) (by omega)
    have hspec := spec_run c l hl' (K := fun _ s12 => some (s12, true)) (fun _ _ => rfl) (fun _ _ _ _ => rfl) l.length 0 (ByteArray.mk #[]) (by omega) (by show 0 ≤ 4000; omega)
    match l, h0, hl, hl', hn, hpos, hsum, hspec with
    | s :: l, _, hl, hl', hn, hpos, hsum, hspec =>
      have hs := hl' s (by simp)
      have ee : (ByteArray.mk #[] ++ s) = s := bj_ext (by rw [app_data]; rfl)
      have hspec2 : jo c (decide ((0 : Nat) = 0)) (ByteArray.mk #[]) ((s :: l).drop 0) = if hasB c s = true then (ByteArray.mk #[], false) else if 4000 < s.size then (ByteArray.mk #[], false) else jo c false s l := by
        show (if hasB c s = true then (ByteArray.mk #[], false) else if 4000 < (ByteArray.mk #[] ++ s).size then (ByteArray.mk #[], false) else jo c false (ByteArray.mk #[] ++ s) l) = _
        rw [ee]
      rw [hspec2] at hspec
      refine ⟨bif ((s :: l).any (hasB c) || decide (4000 < sizes (s :: l) + l.length)) then (ByteArray.mk #[], false) else (joinB (s :: l) ⟨#[c]⟩, true), ?_, ?_⟩
      · by_cases hb : (s :: l).any (hasB c) = true
        · rw [hb]; rfl
        · rw [Bool.not_eq_true _ |>.mp hb]
          simp only [Bool.not_true, Bool.not_false, Bool.or_false, Bool.false_or, Bool.false_eq_true, if_false]
          refine Eq.trans (hsum _) ?_
          have ed : ((((s :: l).length : Nat) : Int) - 1) + (sizes ((s :: l).drop 0) : Int) = ((sizes (s :: l) + l.length : Nat) : Int) := by
            simp only [List.drop_zero, List.length_cons]; omega
          rw [ed]
          by_cases hq : 4000 < sizes (s :: l) + l.length
          · rw [if_pos (by omega), decide_eq_true hq]; rfl
          · rw [if_neg (by omega), decide_eq_false hq]
            unfold p_strings_Join
            have elen : (Lib.join ((s :: l).map (·.data.toList)) (⟨#[c]⟩ : ByteArray).data.toList).length = sizes (s :: l) + l.length := by
              have := congrArg (fun b => b.data.toList.length) (join_data c s l)
              unfold joinB at this
              have ec : (⟨#[c]⟩ : ByteArray).data.toList = [c] := rfl
              rw [ec] at this ⊢
              simp only [List.length_append, behind_len, size_toList] at this
              rw [show sizes (s :: l) = s.size + sizes l from rfl]
              omega
            rw [if_pos ⟨by omega, by rw [elen]; omega⟩]
            rfl
      · refine Eq.trans hspec ?_
        congr 1
        rw [List.any_cons]
        have e2 : sizes (s :: l) = s.size + sizes l := rfl
        by_cases hb : hasB c s = true
        · rw [if_pos hb, hb]; rfl
        · rw [if_neg hb, Bool.not_eq_true _ |>.mp hb, Bool.false_or, e2]
          by_cases hq : 4000 < s.size
          · rw [if_pos hq, decide_eq_true (by omega), Bool.or_true]; rfl
          · rw [if_neg hq, jo_eq c l s (by omega), join_data]
  · rw [decide_eq_false (by omega : ¬ (m.size : Int) = 1)]
    refine ⟨(ByteArray.mk #[], false), ?_, ?_⟩
    · rw [if_pos (by intro h; simp at h)]
      refine if_pos ?_
      simp
    · refine if_pos ?_
      simp
end Go.GA
