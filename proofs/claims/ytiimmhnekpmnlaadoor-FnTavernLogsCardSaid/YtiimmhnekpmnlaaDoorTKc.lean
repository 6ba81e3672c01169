/- Plain laws of logs: the two ways to open a text. -/
import Derived.Test.YtiimmhnekpmnlaaDoorTKb
namespace Go.GA
open Go
set_option maxRecDepth 100000
/-- the next line, if it is one of the log -/
def nxt (k : Nat) (s : ByteArray) : Option (Rec × Nat) :=
  if k < 60 ∧ fi 10 s < s.size then
    match p_impl_decode (k : Int) (s.extract 0 (fi 10 s + 1)) with
    | some (r, true) => some (r, fi 10 s + 1)
    | _ => none
  else none
theorem nxt_some {k n : Nat} {s : ByteArray} {r : Rec} (h : nxt k s = some (r, n)) : k < 60 ∧ fi 10 s < s.size ∧ n = fi 10 s + 1 := by
  unfold nxt at h
  split at h
  · rename_i hc
    split at h
    · simp only [Option.some.injEq, Prod.mk.injEq] at h
      exact ⟨hc.1, hc.2, h.2.symm⟩
    · cases h
  · cases h
def opn : Nat → Nat → ByteArray → List (Rec × Nat)
  | 0, _, _ => []
  | d + 1, k, s => match nxt k s with
    | none => []
    | some (r, n) => (r, n) :: opn d (k + 1) (s.extract n s.size)
def sums : Int → List (Rec × Nat) → List Int
  | _, [] => []
  | a, (_, n) :: l => (a + n) :: sums (a + n) l
def tot : List (Rec × Nat) → Nat
  | [] => 0
  | (_, n) :: l => n + tot l
theorem opn_none {d k : Nat} {s : ByteArray} (h : nxt k s = none) : opn (d + 1) k s = [] := by simp [opn, h]
theorem opn_some {d k n : Nat} {s : ByteArray} {r : Rec} (h : nxt k s = some (r, n)) : opn (d + 1) k s = (r, n) :: opn d (k + 1) (s.extract n s.size) := by simp [opn, h]
def bodyI : (ByteArray × (List Rec) × (List Int)) → ((ByteArray × (List Rec) × (List Int)) → Option ((List Rec) × (List Int))) → Option ((List Rec) × (List Int)) := (fun (s1 : ByteArray × (List (ByteArray × (ByteArray × Unit))) × (List Int)) c3 => (if 0 < (s1.1.size : Int) then jn (fun (s8 : ByteArray × ByteArray) => (p_impl_decode (s1.2.1.length : Int) s8.1).bind (fun r11 => (if r11.2 = true then if (s1.2.1.length : Int) + 1 ≤ 1000000000 then if (((s1.2.1.length : Int) + 1) - 1) < (s1.2.2.length : Int) then if (s1.2.2.length : Int) + 1 ≤ 1000000000 then c3 (s8.2, (s1.2.1 ++ [(r11.1.1, (r11.1.2.1, ()))]), (s1.2.2 ++ [(IntKind.wrap .i64 ((s1.2.2.getD (((s1.2.1.length : Int) + 1) - 1).toNat 0) + (s8.1.size : Int)))])) else none else none else none else some (s1.2.1, s1.2.2)))) (fun k9 => (if 0 ≤ (p_strings_IndexByte s1.1 10) then if 0 ≤ (IntKind.wrap .i64 ((p_strings_IndexByte s1.1 10) + 1)) then if (IntKind.wrap .i64 ((p_strings_IndexByte s1.1 10) + 1)) ≤ (s1.1.size : Int) then k9 ((s1.1.extract 0 (IntKind.wrap .i64 ((p_strings_IndexByte s1.1 10) + 1)).toNat), (s1.1.extract (IntKind.wrap .i64 ((p_strings_IndexByte s1.1 10) + 1)).toNat ((s1.1.size : Int)).toNat)) else none else none else k9 (s1.1, (ByteArray.mk #[])))) else some (s1.2.1, s1.2.2)))
def bodyS (fu : Nat) (x0 : ByteArray) : (Int × (List Rec)) → ((Int × (List Rec)) → Option ((List Rec) × Int)) → Option ((List Rec) × Int) := (fun (s1 : Int × (List (ByteArray × (ByteArray × Unit)))) c3 => (if ((decide (s1.1 < (x0.size : Int))) && (decide ((s1.2.length : Int) < 60))) = true then if 0 ≤ s1.1 then (p_spec_l1Split (x0.extract s1.1.toNat ((x0.size : Int)).toNat) 10).bind (fun r17 => if 0 < (r17.length : Int) then (p_spec_l12Decode fu (r17.getD 0 ByteArray.empty) (s1.2.length : Int)).bind (fun r20 => (if ((decide ((r17.length : Int) < 2)) || (!r20.2)) = true then some (s1.2, s1.1) else c3 ((IntKind.wrap .i64 ((IntKind.wrap .i64 (s1.1 + ((r17.getD 0 ByteArray.empty).size : Int))) + 1)), (s1.2 ++ [(r20.1.1, (r20.1.2.1, ()))])))) else none) else none else some (s1.2, s1.1)))
theorem decodeAll_def (fu : Nat) (x0 : ByteArray) : p_impl_decodeAll fu x0 = if (x0.size : Int) ≤ 9223372036854775807 then whl bodyI fu (x0, [], [0]) else none := rfl
theorem open_def (fu : Nat) (x0 : ByteArray) : p_spec_l12Open fu x0 = if (x0.size : Int) ≤ 9223372036854775807 then whl (bodyS fu x0) fu (0, []) else none := rfl
theorem fi_mem {b : UInt8} {s : ByteArray} (h : b ∈ s.data.toList) : fi b s < s.size := by
  rw [← size_toList]
  exact List.findIdx_lt_length_of_exists ⟨b, h, by simp⟩
theorem nat_toNat (n : Nat) : ((n : Nat) : Int).toNat = n := by omega
theorem nxt_dec {k : Nat} {s : ByteArray} (hk : k < 60) (hn : fi 10 s < s.size) {r : Rec} {ok : Bool} (e : p_impl_decode (k : Int) (s.extract 0 (fi 10 s + 1)) = some (r, ok)) : nxt k s = if ok = true then some (r, fi 10 s + 1) else none := by
  unfold nxt
  rw [if_pos ⟨hk, hn⟩, e]
  cases ok <;> rfl
theorem impl_run : ∀ (d : Nat) (rest : ByteArray) (recs : List Rec) (ends : List Int), rest.size < d → recs.length ≤ 60 → ends.length = recs.length + 1 → 0 ≤ ends.getD recs.length 0 → ends.getD recs.length 0 + (rest.size : Int) ≤ 1048576 →
    whl bodyI d (rest, recs, ends) = some (recs ++ (opn d recs.length rest).map (·.1), ends ++ sums (ends.getD recs.length 0) (opn d recs.length rest))
  | 0, _, _, _, h, _, _, _, _ => by omega
  | d + 1, rest, recs, ends, hd, hr, he, h0, h1 => by
    have hstep : whl bodyI (d + 1) (rest, recs, ends) = bodyI (rest, recs, ends) (whl bodyI d) := rfl
    have ihW := impl_run d
    rw [hstep]
    generalize whl bodyI d = W at ihW
    unfold bodyI jn
    simp only
    by_cases hz : 0 < (rest.size : Int)
    · rw [if_pos hz]
      have ei : p_strings_IndexByte rest 10 = Lib.indexByte rest.data.toList 10 := rfl
      rw [ei, idxB_eq]
      by_cases hn : fi 10 rest < rest.size
      · rw [if_pos hn, if_pos (by omega)]
        have ew : IntKind.wrap .i64 (((fi 10 rest : Nat) : Int) + 1) = ((fi 10 rest : Nat) : Int) + 1 := wrap_id (by omega) (by omega)
        have t1 : (((fi 10 rest : Nat) : Int) + 1).toNat = fi 10 rest + 1 := by omega
        rw [ew, if_pos (by omega), if_pos (by omega), t1, nat_toNat]
        have hLs : (rest.extract 0 (fi 10 rest + 1)).size = fi 10 rest + 1 := by rw [ext_size _ _ _ (by omega) (by omega)]; omega
        obtain ⟨r, ok, e, himp⟩ := decode_some (i := recs.length) (L := rest.extract 0 (fi 10 rest + 1)) (by omega)
        rw [e, Option.bind_some]
        cases ok with
        | false =>
          simp only [Bool.false_eq_true, if_false]
          have hnx : nxt recs.length rest = none := by
            by_cases hk : recs.length < 60
            · rw [nxt_dec hk hn e]; rfl
            · unfold nxt; rw [if_neg (fun h => hk h.1)]
          rw [opn_none hnx]
          simp [sums]
        | true =>
          obtain ⟨hk, _, _⟩ := himp rfl
          have hnx : nxt recs.length rest = some (r, fi 10 rest + 1) := by rw [nxt_dec (by omega) hn e]; rfl
          simp only [if_true]
          have t2 : ((recs.length : Int) + 1 - 1).toNat = recs.length := by omega
          rw [if_pos (by omega), if_pos (by omega), if_pos (by omega), t2, hLs]
          have ew2 : IntKind.wrap .i64 (ends.getD recs.length 0 + ((fi 10 rest + 1 : Nat) : Int)) = ends.getD recs.length 0 + ((fi 10 rest + 1 : Nat) : Int) := wrap_id (by omega) (by omega)
          rw [ew2]
          have er : (r.1, (r.2.1, ())) = r := rfl
          have hl2 : (recs ++ [r]).length = recs.length + 1 := by simp
          have hes : (rest.extract (fi 10 rest + 1) rest.size).size = rest.size - (fi 10 rest + 1) := ext_size _ _ _ (by omega) (by omega)
          have hg2 : (ends ++ [ends.getD recs.length 0 + ((fi 10 rest + 1 : Nat) : Int)]).getD (recs.length + 1) 0 = ends.getD recs.length 0 + ((fi 10 rest + 1 : Nat) : Int) := by
            rw [List.getD_eq_getElem?_getD, List.getElem?_append_right (by omega), he, Nat.sub_self]; rfl
          have ih := ihW (rest.extract (fi 10 rest + 1) rest.size) (recs ++ [r]) (ends ++ [ends.getD recs.length 0 + ((fi 10 rest + 1 : Nat) : Int)]) (by omega) (by omega) (by simp; omega) (by rw [hl2, hg2]; omega) (by rw [hl2, hg2]; omega)
          rw [hl2, hg2] at ih
          rw [er, ih, opn_some hnx]
          simp [sums]
      · have hnx : nxt recs.length rest = none := by unfold nxt; rw [if_neg (fun h => hn h.2)]
        rw [if_neg hn, if_neg (by omega), opn_none hnx]
        obtain ⟨r, ok, e, himp⟩ := decode_some (i := recs.length) (L := rest) (by omega)
        rw [e, Option.bind_some]
        cases ok with
        | false => simp [sums]
        | true =>
          obtain ⟨_, _, hL⟩ := himp rfl
          exact absurd (fi_mem (b := 10) (s := rest) (by rw [hL]; unfold Ln; rw [ba_append_list]; simp)) hn
    · have hnx : nxt recs.length rest = none := by unfold nxt; rw [if_neg (fun h => by have := h.2; omega)]
      rw [if_neg hz, opn_none hnx]
      simp [sums]
theorem spec_run {F : Nat} (hf : 6 ≤ F) {x0 : ByteArray} (hx : x0.size ≤ 1048576) : ∀ (d pos : Nat) (recs : List Rec), pos ≤ x0.size → x0.size - pos < d → recs.length ≤ 60 →
    whl (bodyS F x0) d ((pos : Int), recs) = some (recs ++ (opn d recs.length (x0.extract pos x0.size)).map (·.1), ((pos + tot (opn d recs.length (x0.extract pos x0.size)) : Nat) : Int))
  | 0, _, _, _, h, _ => by omega
  | d + 1, pos, recs, hp, hd, hr => by
    have hstep : whl (bodyS F x0) (d + 1) ((pos : Int), recs) = bodyS F x0 ((pos : Int), recs) (whl (bodyS F x0) d) := rfl
    have ihW := spec_run hf hx d
    rw [hstep]
    generalize whl (bodyS F x0) d = W at ihW
    unfold bodyS
    simp only
    have hss : (x0.extract pos x0.size).size = x0.size - pos := ext_size _ _ _ hp (Nat.le_refl _)
    by_cases hc : pos < x0.size ∧ recs.length < 60
    · rw [if_pos (by simp; omega), if_pos (by omega), nat_toNat, nat_toNat]
      have hxx := ext_ext x0 pos
      generalize hs : x0.extract pos x0.size = s at hss hxx
      obtain ⟨ps, e1, l1, _, g1, g2⟩ := split_spec 10 s (by omega) 10 rfl
      rw [e1, Option.bind_some, if_pos (by omega), g1]
      have hx1 : (s.extract 0 (fi 10 s)).size ≤ s.size := ext_le _ _ _
      by_cases hn : fi 10 s < s.size
      · have hx2 : (s.extract 0 (fi 10 s)).size = fi 10 s := by rw [ext_size _ _ _ (by omega) (by omega)]; omega
        obtain ⟨r1, r2, ok, d1, d2, d3⟩ := decode_eq (fu := F) (i := recs.length) hf (by omega) (x := s.extract 0 (fi 10 s)) (by omega)
        rw [← (cut_split hn).2.2] at d1
        have hnx := nxt_dec hc.2 hn d1
        rw [d2, Option.bind_some]
        have hlen : ¬ ps.length < 2 := fun h => g2.1 h hn
        cases ok with
        | false =>
          rw [if_neg (by simp)] at hnx
          rw [if_pos (by simp), opn_none hnx]
          simp [tot]
        | true =>
          obtain rfl := d3 rfl
          rw [if_pos rfl] at hnx
          rw [if_neg (by simp; omega), hx2]
          have ew : IntKind.wrap .i64 (IntKind.wrap .i64 ((pos : Int) + ((fi 10 s : Nat) : Int)) + 1) = ((pos + (fi 10 s + 1) : Nat) : Int) := by
            have ew1 : IntKind.wrap .i64 ((pos : Int) + ((fi 10 s : Nat) : Int)) = (pos : Int) + ((fi 10 s : Nat) : Int) := wrap_id (by omega) (by omega)
            have ew2 : IntKind.wrap .i64 ((pos : Int) + ((fi 10 s : Nat) : Int) + 1) = (pos : Int) + ((fi 10 s : Nat) : Int) + 1 := wrap_id (by omega) (by omega)
            rw [ew1, ew2]; omega
          rw [ew]
          have er : (r1.1, (r1.2.1, ())) = r1 := rfl
          have hl2 : (recs ++ [r1]).length = recs.length + 1 := by simp
          have ih := ihW (pos + (fi 10 s + 1)) (recs ++ [r1]) (by omega) (by omega) (by omega)
          rw [hl2] at ih
          rw [er, ih, opn_some hnx, hxx (fi 10 s + 1)]
          simp [tot]
          omega
      · have hnx : nxt recs.length s = none := by unfold nxt; rw [if_neg (fun h => hn h.2)]
        obtain ⟨r, ok, d2, _⟩ := spec_decode_some (fu := F) (i := recs.length) hf (by omega) (x := s.extract 0 (fi 10 s)) (by omega)
        rw [d2, Option.bind_some, if_pos (by have := g2.2 hn; simp; omega), opn_none hnx]
        simp [tot]
    · have hnx : nxt recs.length (x0.extract pos x0.size) = none := by unfold nxt; rw [if_neg (fun h => by have := h.2; omega)]
      rw [if_neg (by simp; omega), opn_none hnx]
      simp [tot]
end Go.GA
