/- Plain law of FnTavernLogs: one log, and one that crashes. -/
import Derived.Test.YtiimmhnekpmnlaaDoorTMg
namespace Go.GA
open Go
set_option maxRecDepth 100000
theorem eqS_self (s : ByteArray) : eqS s s = true := eqS_iff.2 rfl
theorem eqT_log (m : Log) : eqT (.pair .str (.pair .str (.pair (.int .i64) .unit))) m m = true := by
  have h1 := eqS_self m.1
  have h2 := eqS_self m.2.1
  simp only [eqT, Bool.and_eq_true]
  exact ⟨h1, h2, by simp [eqI]; rfl, trivial⟩
theorem eqT_rec (y : Rec) : eqT (.pair .str (.pair .str .unit)) y y = true := by
  have h1 := eqS_self y.1
  have h2 := eqS_self y.2.1
  simp only [eqT, Bool.and_eq_true]
  exact ⟨h1, h2, trivial⟩
theorem rRecords_self (l : List Rec) : p_laws_rRecords l l = true := by
  unfold p_laws_rRecords
  rw [if_pos rfl]
  refine cnt_ind0 l.length (fun _ _ => True) (fun r => r = true) (by omega) trivial (fun s _ => rfl) (fun i s c _ _ hc => ?_)
  rw [if_pos (eqT_rec _)]
  exact hc () trivial
theorem sync_ok {S : Log} {one : Bool} {rl : List Rec} (h : one = true → p_impl_LogRecords FU (S.1, (S.2.1, (S.2.2.1, ()))) = some (rl, true) ∧ S.2.1 = ByteArray.empty) (K : Unit → Option Bool) (hK : K () = some true) : jn K (fun k181 => (if one = true then (p_impl_LogRecords FU (S.1, (S.2.1, (S.2.2.1, ())))).bind (fun r316 => (if (((!r316.2) || (!(p_laws_rRecords r316.1 rl))) || (!(eqS S.2.1 (ByteArray.mk #[])))) = true then some false else k181 ())) else k181 ())) = some true := by
  unfold jn
  cases one with
  | false => exact hK
  | true =>
    obtain ⟨t1, t2⟩ := h rfl
    refine (if_pos rfl).trans ?_
    have e : eqS S.2.1 (ByteArray.mk #[]) = true := by rw [t2]; exact eqS_self _
    rw [t1, Option.bind_some, rRecords_self, e]
    exact (if_neg (by simp)).trans hK
theorem fin_ok {m A : Log} {y : Rec} {rl : List Rec} (hrl : rl.length ≤ 60) (t1 : p_impl_LogRecords FU (A.1, (A.2.1, (A.2.2.1, ()))) = some (rl ++ [y], true)) (t2 : p_impl_IsValidLog FU (A.1, (A.2.1, (A.2.2.1, ()))) = some true) : (if (0 : Int) = 0 then (p_impl_LogRecords FU (A.1, (A.2.1, (A.2.2.1, ())))).bind (fun r186 => if (r186.2 = true → (p_impl_IsValidLog FU (A.1, (A.2.1, (A.2.2.1, ())))).isSome = true) then if (((r186.2 && ((p_impl_IsValidLog FU (A.1, (A.2.1, (A.2.2.1, ())))).getD false)) && (decide ((r186.1.length : Int) = (IntKind.wrap .i64 ((rl.length : Int) + 1))))) = true → (rl.length : Int) ≤ (r186.1.length : Int)) then if ((((r186.2 && ((p_impl_IsValidLog FU (A.1, (A.2.1, (A.2.2.1, ())))).getD false)) && (decide ((r186.1.length : Int) = (IntKind.wrap .i64 ((rl.length : Int) + 1))))) && (p_laws_rRecords ((r186.1.drop 0).take ((rl.length : Int) - 0).toNat) rl)) = true → (rl.length : Int) < (r186.1.length : Int)) then some ((((r186.2 && ((p_impl_IsValidLog FU (A.1, (A.2.1, (A.2.2.1, ())))).getD false)) && (decide ((r186.1.length : Int) = (IntKind.wrap .i64 ((rl.length : Int) + 1))))) && (p_laws_rRecords ((r186.1.drop 0).take ((rl.length : Int) - 0).toNat) rl)) && (eqT (.pair .str (.pair .str .unit)) ((r186.1.getD (rl.length : Int).toNat (ByteArray.empty, (ByteArray.empty, ()))) : (ByteArray × (ByteArray × Unit))) ((y.1, (y.2.1, ())) : (ByteArray × (ByteArray × Unit))))) else none else none else none) else some (eqT (.pair .str (.pair .str (.pair (.int .i64) .unit))) ((A.1, (A.2.1, (A.2.2.1, ()))) : (ByteArray × (ByteArray × (Int × Unit)))) ((m.1, (m.2.1, (m.2.2.1, ()))) : (ByteArray × (ByteArray × (Int × Unit)))))) = some true := by
  refine (if_pos rfl).trans ?_
  rw [t1, Option.bind_some, t2]
  have hll : (rl ++ [y]).length = rl.length + 1 := by rw [List.length_append]; rfl
  have ew : IntKind.wrap .i64 ((rl.length : Int) + 1) = (rl.length : Int) + 1 := wrap_id (by omega) (by omega)
  have etk : ((rl ++ [y]).drop 0).take ((rl.length : Int) - 0).toNat = rl := by
    rw [List.drop_zero, show ((rl.length : Int) - 0).toNat = rl.length by omega, List.take_left]
  have egt : (rl ++ [y]).getD (rl.length : Int).toNat (ByteArray.empty, (ByteArray.empty, ())) = y := by
    rw [Int.toNat_natCast, List.getD_eq_getElem?_getD, List.getElem?_append_right (Nat.le_refl _), Nat.sub_self]; rfl
  have h1 : ((rl ++ [y]).length : Int) = (rl.length : Int) + 1 := by omega
  rw [ew, etk, rRecords_self, egt, decide_eq_true h1]
  refine (if_pos (by intro _; rfl)).trans ((if_pos (by intro _; show (rl.length : Int) ≤ ((rl ++ [y]).length : Int); omega)).trans ((if_pos (by intro _; show (rl.length : Int) < ((rl ++ [y]).length : Int); omega)).trans ?_))
  have := eqT_rec y
  refine congrArg some ?_
  rw [Bool.and_eq_true]
  exact ⟨rfl, this⟩
theorem fin_no {m : Log} {st : Int} (hst : st ≠ 0) {X : Option Bool} : (if st = 0 then X else some (eqT (.pair .str (.pair .str (.pair (.int .i64) .unit))) ((m.1, (m.2.1, (m.2.2.1, ()))) : (ByteArray × (ByteArray × (Int × Unit)))) ((m.1, (m.2.1, (m.2.2.1, ()))) : (ByteArray × (ByteArray × (Int × Unit)))))) = some true := by
  rw [if_neg hst]
  exact congrArg some (eqT_log _)
theorem one_log {m : Log} {y : Rec} (hm : lsz m ≤ 100000) (hy : RS y) : ∃ (S A : Log) (one : Bool) (rl : List Rec) (st : Int),
    p_impl_AppendRecord FU (m.1, (m.2.1, (m.2.2.1, ()))) (y.1, (y.2.1, ())) = some (A, st) ∧ p_spec_AppendRecord FU (m.1, (m.2.1, (m.2.2.1, ()))) (y.1, (y.2.1, ())) = some (A, st) ∧
    p_impl_SyncLog FU (m.1, (m.2.1, (m.2.2.1, ()))) = some (S, one) ∧ p_spec_SyncLog FU (m.1, (m.2.1, (m.2.2.1, ()))) = some (S, one) ∧ p_impl_IsValidLog FU (m.1, (m.2.1, (m.2.2.1, ()))) = some one ∧
    p_impl_LogRecords FU (m.1, (m.2.1, (m.2.2.1, ()))) = some (rl, one) ∧ p_spec_LogRecords FU (m.1, (m.2.1, (m.2.2.1, ()))) = some (rl, one) ∧
    (∀ K : Unit → Option Bool, K () = some true → jn K (fun k181 => (if one = true then (p_impl_LogRecords FU (S.1, (S.2.1, (S.2.2.1, ())))).bind (fun r316 => (if (((!r316.2) || (!(p_laws_rRecords r316.1 rl))) || (!(eqS S.2.1 (ByteArray.mk #[])))) = true then some false else k181 ())) else k181 ())) = some true) ∧ (if st = 0 then (p_impl_LogRecords FU (A.1, (A.2.1, (A.2.2.1, ())))).bind (fun r186 => if (r186.2 = true → (p_impl_IsValidLog FU (A.1, (A.2.1, (A.2.2.1, ())))).isSome = true) then if (((r186.2 && ((p_impl_IsValidLog FU (A.1, (A.2.1, (A.2.2.1, ())))).getD false)) && (decide ((r186.1.length : Int) = (IntKind.wrap .i64 ((rl.length : Int) + 1))))) = true → (rl.length : Int) ≤ (r186.1.length : Int)) then if ((((r186.2 && ((p_impl_IsValidLog FU (A.1, (A.2.1, (A.2.2.1, ())))).getD false)) && (decide ((r186.1.length : Int) = (IntKind.wrap .i64 ((rl.length : Int) + 1))))) && (p_laws_rRecords ((r186.1.drop 0).take ((rl.length : Int) - 0).toNat) rl)) = true → (rl.length : Int) < (r186.1.length : Int)) then some ((((r186.2 && ((p_impl_IsValidLog FU (A.1, (A.2.1, (A.2.2.1, ())))).getD false)) && (decide ((r186.1.length : Int) = (IntKind.wrap .i64 ((rl.length : Int) + 1))))) && (p_laws_rRecords ((r186.1.drop 0).take ((rl.length : Int) - 0).toNat) rl)) && (eqT (.pair .str (.pair .str .unit)) ((r186.1.getD (rl.length : Int).toNat (ByteArray.empty, (ByteArray.empty, ()))) : (ByteArray × (ByteArray × Unit))) ((y.1, (y.2.1, ())) : (ByteArray × (ByteArray × Unit))))) else none else none else none) else some (eqT (.pair .str (.pair .str (.pair (.int .i64) .unit))) ((A.1, (A.2.1, (A.2.2.1, ()))) : (ByteArray × (ByteArray × (Int × Unit)))) ((m.1, (m.2.1, (m.2.2.1, ()))) : (ByteArray × (ByteArray × (Int × Unit)))))) = some true := by
  have hfp : m.1.size + m.2.1.size ≤ 100000 := hm
  obtain ⟨v, w1, w2, w3, w4⟩ := app_val (f := m.1) (p := m.2.1) (c := m.2.2.1) (y := (y.1, (y.2.1, ()))) (by omega) (by omega) (Nat.le_trans hy.1 (by omega)) (Nat.le_trans hy.2 (by omega))
  obtain ⟨y1, y2⟩ := sync_val (f := m.1) (p := m.2.1) (c := m.2.2.1) (by omega) (by omega)
  obtain ⟨_, v2⟩ := valid_val (f := m.1) (p := m.2.1) (c := m.2.2.1) (by omega) (by omega)
  obtain ⟨r1, r2⟩ := rec_val (f := m.1) (p := m.2.1) (c := m.2.2.1) (by omega) (by omega)
  unfold appR at w3 w4
  by_cases hV : VL m.1 m.2.1 m.2.2.1
  · rw [if_pos hV] at y1 y2 r1 r2
    rw [decide_eq_true hV] at v2
    obtain ⟨hs1, hs2⟩ := hV.sync
    have h30 := hV.1
    have hsz : (m.1 ++ m.2.1).size = m.1.size + m.2.1.size := ba_append_size _ _
    have e0 : ByteArray.empty.size = 0 := rfl
    have hsync : p_impl_LogRecords FU (m.1 ++ m.2.1, (ByteArray.empty, (m.2.2.1, ()))) = some (recs m.1 m.2.1, true) := by
      obtain ⟨t1, _⟩ := rec_val (f := m.1 ++ m.2.1) (p := ByteArray.empty) (c := m.2.2.1) (by omega) (by omega)
      rw [t1, if_pos hs1, hs2]
    by_cases hv : v = true
    · rw [if_pos ⟨hV, hv⟩] at w3 w4
      by_cases h60 : m.2.2.1 = 60
      · rw [if_pos h60] at w3 w4
        exact ⟨_, _, true, _, _, w3, w4, y1, y2, v2, r1, r2, sync_ok (fun _ => ⟨hsync, rfl⟩), fin_no (m := m) (by omega)⟩
      · rw [if_neg h60] at w3 w4
        have hvr : Vr (y.1, (y.2.1, ())) := ⟨by rw [w1, hv], Nat.le_trans hy.1 (by omega), Nat.le_trans hy.2 (by omega)⟩
        obtain ⟨a1, a2⟩ := hV.append hvr h60
        have hc := hV.c60
        have hls := (Ln_size (i := m.2.2.1.toNat) (by omega) hvr).1
        have hps : (m.2.1 ++ Ln m.2.2.1.toNat (y.1, (y.2.1, ()))).size = m.2.1.size + (Ln m.2.2.1.toNat (y.1, (y.2.1, ()))).size := ba_append_size _ _
        obtain ⟨t1, _⟩ := rec_val (f := m.1) (p := m.2.1 ++ Ln m.2.2.1.toNat (y.1, (y.2.1, ()))) (c := m.2.2.1 + 1) (by omega) (by omega)
        obtain ⟨_, t2⟩ := valid_val (f := m.1) (p := m.2.1 ++ Ln m.2.2.1.toNat (y.1, (y.2.1, ()))) (c := m.2.2.1 + 1) (by omega) (by omega)
        rw [if_pos a1, a2] at t1
        rw [decide_eq_true a1] at t2
        have hrl : (recs m.1 m.2.1).length ≤ 60 := by
          unfold recs; rw [List.length_map]
          have := opn_len FU 0 (m.1 ++ m.2.1) (by omega)
          omega
        exact ⟨_, _, true, _, _, w3, w4, y1, y2, v2, r1, r2, sync_ok (fun _ => ⟨hsync, rfl⟩), fin_ok (m := m) (A := (m.1, (m.2.1 ++ Ln m.2.2.1.toNat (y.1, (y.2.1, ())), (m.2.2.1 + 1, ())))) (y := (y.1, (y.2.1, ()))) hrl t1 t2⟩
    · rw [if_neg (fun h => hv h.2)] at w3 w4
      exact ⟨_, _, true, _, _, w3, w4, y1, y2, v2, r1, r2, sync_ok (fun _ => ⟨hsync, rfl⟩), fin_no (m := m) (by omega)⟩
  · rw [if_neg hV] at y1 y2 r1 r2
    rw [decide_eq_false hV] at v2
    rw [if_neg (fun h => hV h.1)] at w3 w4
    exact ⟨_, _, false, _, _, w3, w4, y1, y2, v2, r1, r2, sync_ok (fun h => by cases h), fin_no (m := m) (by omega)⟩
theorem crash_log {m : Log} {k : Int} {t : Bool} (hm : lsz m ≤ 100000) : ∃ s q, p_impl_CrashLog FU (m.1, (m.2.1, (m.2.2.1, ()))) k t = some (s, q) ∧ p_spec_CrashLog FU (m.1, (m.2.1, (m.2.2.1, ()))) k t = some (s, q) ∧
    (∀ K : Unit → Option Bool, K () = some true → jn K (fun k178 => (if q = true then (p_impl_RecoverLog FU s).bind (fun r337 => (p_impl_LogRecords FU (r337.1.1, (r337.1.2.1, (r337.1.2.2.1, ())))).bind (fun r338 => (p_impl_LogRecords FU (m.1, (m.2.1, (m.2.2.1, ())))).bind (fun r340 => (if ((((((!r337.2.2) || (!r338.2)) || (!r340.2)) || (decide ((r340.1.length : Int) < (r338.1.length : Int)))) || (!(p_laws_rRecords r338.1 ((r340.1.drop 0).take ((r338.1.length : Int) - 0).toNat)))) || (decide ((r337.1.1.size : Int) < (m.1.size : Int)))) = true then some false else k178 ())))) else k178 ())) = some true) := by
  have hfp : m.1.size + m.2.1.size ≤ 100000 := hm
  obtain ⟨s, q, z1, z2, z3⟩ := crash_val (f := m.1) (p := m.2.1) (c := m.2.2.1) (k := k) (t := t) (by omega) (by omega)
  refine ⟨s, q, z2, z1, fun K hK => ?_⟩
  unfold jn
  cases q with
  | false => exact hK
  | true =>
    obtain ⟨hV, hL⟩ := z3 rfl
    obtain ⟨c1, c2, l, c3⟩ := hV.crash hL
    obtain ⟨g1, g2, g3⟩ := VL.recover (x := s) c1
    refine (if_pos rfl).trans ?_
    obtain ⟨u1, _⟩ := recov_val (x := s) (by omega)
    rw [u1, if_neg (by omega), Option.bind_some]
    dsimp only
    have htl := tot_le FU 0 s
    obtain ⟨r1, _⟩ := rec_val (f := s.extract 0 (tot (opn FU 0 s))) (p := ByteArray.empty) (c := ((opn FU 0 s).length : Int)) (by omega) (by show 0 ≤ _; omega)
    obtain ⟨r2, _⟩ := rec_val (f := m.1) (p := m.2.1) (c := m.2.2.1) (by omega) (by omega)
    rw [r1, if_pos g1, Option.bind_some, r2, if_pos hV, Option.bind_some]
    dsimp only
    have er : recs m.1 m.2.1 = (opn FU 0 s).map (·.1) ++ l.map (·.1) := by unfold recs; rw [c3, List.map_append]
    rw [g2, g3, er]
    have etk : (((opn FU 0 s).map (·.1) ++ l.map (·.1)).drop 0).take ((((opn FU 0 s).map (·.1)).length : Int) - 0).toNat = (opn FU 0 s).map (·.1) := by
      rw [List.drop_zero, show ((((opn FU 0 s).map (·.1)).length : Int) - 0).toNat = ((opn FU 0 s).map (·.1)).length by omega, List.take_left]
    rw [etk, rRecords_self, if_neg]
    · exact hK
    · simp only [Bool.or_eq_true, decide_eq_true_eq, List.length_append, Bool.not_true, Bool.false_eq_true, false_or, or_false]
      omega
end Go.GA
