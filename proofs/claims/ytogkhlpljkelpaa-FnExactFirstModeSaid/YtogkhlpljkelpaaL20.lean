/- Marks written into slices of ints, and into the rows of a slice of slices; no further conditions. -/
import Derived.WalkKit
import Derived.BigCall
import Derived.Laws.IdiomCopy
import Derived.Lib.VarintMem
import Derived.Lib.Hide
import Derived.Test.YtogkhlpljkelpaaGaD
import Derived.Test.YtogkhlpljkelpaaProg
namespace Go.GA
open Go Go.Proofs Go.RowKit
def marksV (k : Int) (n : Nat) : List Value := (List.range n).map fun i : Nat => Value.int .i64 (k + (i : Int))
theorem marksV_len (k : Int) (n : Nat) : (marksV k n).length = n := by simp [marksV]
theorem marksV_succ (k : Int) (n : Nat) : marksV k (n + 1) = marksV k n ++ [.int .i64 (k + (n : Int))] := by simp [marksV, List.range_succ]
theorem frozen_setCells (b : Nat) : ∀ (vs : List Value) (o : Nat) (w : World) (x : Addr), (w.setCells b o vs).frozen? x = w.frozen? x
  | [], _, _, _ => rfl
  | v :: r, o, w, x => by
    rw [World.setCells, frozen_setCells b r]
    simp
def intOf : Value → Int | .int _ q => q | _ => 0
set_option maxHeartbeats 800000 in
theorem markS_any (b off n c : Nat) (zs : List Int) (k : Int) (w : World) (hn : n ≤ 1000000000) (hk0 : 0 ≤ k) (hk1 : k ≤ 1000000000000) (hc : ∀ j, j < n → w.cell? ⟨b, off + j, none⟩ = some (.int .i64 (zs.getD j 0))) (hf : ∀ j, j < n → w.frozen? ⟨b, off + j, none⟩ = false) :
    Calls Try.prog 14 #[.slice (some ⟨b, off, none⟩) n c, .int .i64 k] w fun e w' => e = .returned (.int .i64 (k + (n : Int))) ∧ w' = w.setCells b off (marksV k n) := by
  have HC := Lib.hid hc
  have HF := Lib.hid hf
  clear hc hf
  go_enter Try.func14, Try.ntmps14
  go_wp2
  go_loopw [1, 5] (fun kv i wr => ∃ j : Nat, j ≤ n ∧ i = .int .i64 j ∧ kv = .int .i64 (k + (j : Int)) ∧ Hid (wr = w.setCells b off (marksV k j)))
    (fun _ i _ => n - (intOf i).toNat)
  case atStart => exact ⟨0, Nat.zero_le _, rfl, by simp, Lib.hid (by simp [marksV, World.setCells])⟩
  case round =>
    obtain ⟨j, hj, rfl, rfl, HW⟩ := hrel
    by_cases hlt : j < n
    · have h1 : wr.cell? ⟨b, off + j, none⟩ = some (.int .i64 (zs.getD j 0)) := by
        rw [show wr = _ from HW, World.cell?_setCells_out b _ _ _ _ (fun _ _ => .inr (by rw [marksV_len]; exact Nat.le_refl _))]
        exact HC j hlt
      have h2 : wr.frozen? ⟨b, off + j, none⟩ = false := by
        rw [show wr = _ from HW, frozen_setCells]
        exact HF j hlt
      have HW2 := Lib.hid (show wr.setCell ⟨b, off + j, none⟩ (.int .i64 (k + (j : Int))) = w.setCells b off (marksV k (j + 1)) by
        rw [show wr = _ from HW, marksV_succ, ← Lib.setCells_snoc_w, marksV_len])
      clear HW HC HF
      go_wp2
      go_roundw
      case rel => exact ⟨j + 1, by omega, by go_num, congrArg (Value.int .i64) (by omega), HW2⟩
      case measure => simp [intOf]; omega
    · obtain rfl : j = n := by omega
      clear HC HF
      go_wp2
      go_ret
      exact ⟨rfl, HW⟩
theorem markS_nil (a : Option Addr) (c : Nat) (k : Int) (w : World) :
    Calls Try.prog 14 #[.slice a 0 c, .int .i64 k] w fun e w' => e = .returned (.int .i64 k) ∧ w' = w := by
  go_enter Try.func14, Try.ntmps14
  go_wp2
  go_loopw [1, 5] (fun kv i wr => i = .int .i64 0 ∧ kv = .int .i64 k ∧ Hid (wr = w))
    (fun _ i _ => 0)
  case atStart => exact ⟨rfl, rfl, Lib.hid rfl⟩
  case round =>
    obtain ⟨rfl, rfl, HW⟩ := hrel
    go_wp2
    go_ret
    exact ⟨rfl, HW⟩
/-! ### Rows of rows -/
theorem setCell_heap {w : World} {b o : Nat} {v : Value} {c : Array Value} {T : TypeId} {z : Nat × Nat} (h : w.heap[b]? = some (.cells c T z)) :
    (w.setCell ⟨b, o, none⟩ v).heap[b]? = some (.cells (c.setIfInBounds o v) T z) := by
  unfold World.setCell
  simp [Array.getElem?_modify, h]
theorem setCell_other {w : World} {b o x : Nat} {v : Value} (h : x ≠ b) : (w.setCell ⟨b, o, none⟩ v).heap[x]? = w.heap[x]? := by
  unfold World.setCell
  simp only [Array.getElem?_modify]
  rw [if_neg (fun e => h e.symm)]
theorem setCells_heap {b : Nat} {T : TypeId} {z : Nat × Nat} {post : List Value} : ∀ (vs mid pre : List Value) (w : World) (c : Array Value), w.heap[b]? = some (.cells c T z) → c.toList = pre ++ (mid ++ post) → mid.length = vs.length →
    ∃ c', (w.setCells b pre.length vs).heap[b]? = some (.cells c' T z) ∧ c'.toList = pre ++ (vs ++ post)
  | [], mid, pre, w, c, h, hc, hl => by
    obtain rfl : mid = [] := List.eq_nil_of_length_eq_zero hl
    exact ⟨c, h, hc⟩
  | v :: vs, [], pre, w, c, h, hc, hl => by cases hl
  | v :: vs, u :: mid, pre, w, c, h, hc, hl => by
    have h2 := setCell_heap (o := pre.length) (v := v) h
    have hc2 : (c.setIfInBounds pre.length v).toList = (pre ++ [v]) ++ (mid ++ post) := by
      rw [Array.toList_setIfInBounds, hc]
      simp
    have := setCells_heap vs mid (pre ++ [v]) _ _ h2 hc2 (by simpa using hl)
    simpa [World.setCells] using this
theorem setCells_other {b x : Nat} (hx : x ≠ b) : ∀ (vs : List Value) (o : Nat) (w : World), (w.setCells b o vs).heap[x]? = w.heap[x]?
  | [], _, _ => rfl
  | v :: vs, o, w => by rw [World.setCells, setCells_other hx vs, setCell_other hx]
theorem setCells_rest (b : Nat) : ∀ (vs : List Value) (o : Nat) (w : World), (w.setCells b o vs).heap.size = w.heap.size ∧ (w.setCells b o vs).os = w.os ∧ (w.setCells b o vs).tape = w.tape ∧ (w.setCells b o vs).output = w.output
  | [], _, _ => ⟨rfl, rfl, rfl, rfl⟩
  | v :: vs, o, w => by
    obtain ⟨h1, h2, h3, h4⟩ := setCells_rest b vs (o + 1) (w.setCell ⟨b, o, none⟩ v)
    rw [World.setCells, h1, h2, h3, h4]
    refine ⟨?_, rfl, rfl, rfl⟩
    unfold World.setCell
    simp
theorem marksV_rel (h : Hf) (k : Int) : ∀ (n : Nat), RelL (Rc h (.int .i64)) (marks1 n k) (marksV k n) []
  | 0 => ⟨by simp [marksV], rfl⟩
  | n + 1 => by
    have e1 : marks1 (n + 1) k = marks1 n k ++ [k + (n : Int)] := by simp [marks1, List.range_succ]
    rw [e1, marksV_succ]
    exact RelL.append (F := []) (G := []) (marksV_rel h k n) ⟨[.int .i64 (k + (n : Int))], [], [], [], rfl, rfl, ⟨rfl, rfl⟩, rfl, rfl⟩
theorem MI_zero {w : World} {xs : List (List Int)} {k : Int} {mid : List Value} {F : List Nat} (hR : RelL (RI (World.hf w)) xs mid F) (hz : NoFz (World.hf w) F) : MI w w xs k mid F 0 :=
  ⟨[], mid, [], F, rfl, rfl, rfl, ⟨rfl, rfl⟩, hR, hz, fun _ _ => rfl, rfl, rfl, rfl, rfl⟩
theorem drop_cons {α : Type} {xs : List α} {j : Nat} (h : j < xs.length) : xs.drop j = xs[j] :: xs.drop (j + 1) ∧ xs.take (j + 1) = xs.take j ++ [xs[j]] :=
  ⟨List.drop_eq_getElem_cons h, by rw [List.take_succ_eq_append_getElem h]⟩
theorem MI_step {w wr : World} {xs : List (List Int)} {k : Int} {mid : List Value} {F : List Nat} {j : Nat} (hM : MI w wr xs k mid F j) (hj : j < xs.length) (hnd : F.Nodup) :
    ∃ v, mid[j]? = some v ∧ ((xs[j] = [] ∧ (∃ a cap, v = .slice a 0 cap) ∧ MI w wr xs k mid F (j + 1)) ∨
      ∃ b off cap, v = .slice (some ⟨b, off, none⟩) xs[j].length cap ∧ (∀ i, i < xs[j].length → wr.cell? ⟨b, off + i, none⟩ = some (.int .i64 (xs[j].getD i 0))) ∧ (∀ i, i < xs[j].length → wr.frozen? ⟨b, off + i, none⟩ = false) ∧
        MI w (wr.setCells b off (marksV (k + total2 (xs.take j)) xs[j].length)) xs k mid F (j + 1)) := by
  obtain ⟨m1, m2, F1, F2, e1, e2, hl, r1, r2, hz, hs, h5, h6, h7, h8⟩ := hM
  obtain ⟨hd, ht⟩ := drop_cons hj
  rw [hd] at r2
  obtain ⟨c1, c2, G1, G2, e3, e4, hx, hrest⟩ := r2
  obtain ⟨hlim, ⟨hx0, hG, a, cap, hc1⟩ | ⟨b, off, cap, F', hc1, hG, c, T, z, pre, m, post, hb, hcc, hp, hm⟩⟩ := hx
  · have hx0' : xs[j] = [] := hx0
    refine ⟨.slice a 0 cap, ?_, .inl ⟨hx0', ⟨a, cap, rfl⟩, m1 ++ c1, c2, F1 ++ G1, G2, by rw [e1, e3, List.append_assoc], by rw [e2, e4, List.append_assoc], by rw [hc1, List.length_append, hl]; rfl, ?_, hrest, hz, hs, h5, h6, h7, h8⟩⟩
    · rw [e1, e3, hc1, List.getElem?_append_right (by omega), hl]; simp
    · rw [ht, marks2_app, hx0', hc1, hG]
      exact RelL.append r1 ⟨[.slice a 0 cap], [], [], [], rfl, rfl, ⟨Nat.zero_le _, .inl ⟨rfl, rfl, a, cap, rfl⟩⟩, rfl, rfl⟩
  · obtain ⟨em, eF⟩ := relInt hm.1
    subst eF
    have hlen : m.length = xs[j].length := by rw [em, List.length_map]
    have hbF : b ∈ F := by rw [e2, e4, hG]; simp
    obtain ⟨c', T', hb'⟩ := hz b hbF
    have hz0 : z = (0, 0) := by
      rw [hb'] at hb
      simp only [Option.some.injEq, Obj.cells.injEq] at hb
      exact hb.2.2.symm
    subst hz0
    have hbw : wr.heap[b]? = some (.cells c T (0, 0)) := hb
    have hn1 : b ∉ F1 ∧ b ∉ G2 := by
      rw [e2, e4, hG] at hnd
      constructor
      · intro h
        exact (List.nodup_append.1 hnd).2.2 b h b (by simp) rfl
      · intro h
        have := (List.nodup_append.1 hnd).2.1
        rw [List.nodup_append] at this
        exact this.2.2 b (by simp) b h rfl
    have hvl : (marksV (k + total2 (xs.take j)) xs[j].length).length = xs[j].length := marksV_len _ _
    obtain ⟨c2', hb2, hc2⟩ := setCells_heap (marksV (k + total2 (xs.take j)) xs[j].length) m pre wr c hbw hcc (by rw [hvl, hlen])
    rw [hp] at hb2
    have hoth : ∀ x, x ≠ b → (wr.setCells b off (marksV (k + total2 (xs.take j)) xs[j].length)).heap[x]? = wr.heap[x]? := fun x hx => setCells_other hx _ _ _
    obtain ⟨q1, q2, q3, q4⟩ := setCells_rest b (marksV (k + total2 (xs.take j)) xs[j].length) off wr
    refine ⟨.slice (some ⟨b, off, none⟩) xs[j].length (xs[j].length + cap), ?_, .inr ⟨b, off, xs[j].length + cap, rfl, fun i hi => ?_, fun i hi => ?_, ?_⟩⟩
    · rw [e1, e3, hc1, List.getElem?_append_right (by omega), hl]; simp <;> rfl
    · unfold World.cell?
      rw [hbw]
      simp only [Option.isSome_none, Bool.false_eq_true, if_false]
      rw [← Array.getElem?_toList, hcc, ← hp, List.getElem?_append_right (by omega), Nat.add_sub_cancel_left, List.getElem?_append_left (by omega), em, List.getElem?_map, List.getD_eq_getElem?_getD]
      cases hq : xs[j][i]? with
      | none => exact absurd (List.getElem?_eq_none_iff.1 hq) (by omega)
      | some q => rfl
    · unfold World.frozen?
      rw [hbw]
      simp
    generalize wr.setCells b off (marksV (k + total2 (xs.take j)) xs[j].length) = w2 at hb2 hoth q1 q2 q3 q4 ⊢
    have hhf : ∀ x, x ≠ b → World.hf w2 x = World.hf wr x := hoth
    refine ⟨m1 ++ c1, c2, F1 ++ G1, G2, by rw [e1, e3, List.append_assoc], by rw [e2, e4, List.append_assoc], by rw [hc1, List.length_append, hl]; rfl, ?_, ?_, ?_, ?_, q1.trans h5, q2.trans h6, q3.trans h7, q4.trans h8⟩
    · rw [ht, marks2_app, hc1, hG]
      refine RelL.append (RelL.mono (fun x cs F' hF hc => Rc.same (.slice (.int .i64)) hc (fun x hx => hhf x (fun e => hn1.1 (e ▸ hF x hx)))) r1) ⟨[.slice (some ⟨b, off, none⟩) xs[j].length (xs[j].length + cap)], [], [b], [], rfl, rfl, ⟨?_, .inr ⟨b, off, cap, [], ?_, rfl, c2', T, (0, 0), pre, _, post, hb2, hc2, hp, marksV_rel _ _ _, NF.zero _ _⟩⟩, rfl, rfl⟩
      · show (marks1 xs[j].length (k + total2 (xs.take j))).length ≤ lim
        rw [marks1_len]; exact hlim
      · show _ = [Value.slice (some ⟨b, off, none⟩) (marks1 xs[j].length (k + total2 (xs.take j))).length ((marks1 xs[j].length (k + total2 (xs.take j))).length + cap)]
        rw [marks1_len]
    · exact RelL.mono (fun x cs F' hF hc => Rc.same (.slice (.int .i64)) hc (fun x hx => hhf x (fun e => hn1.2 (e ▸ hF x hx)))) hrest
    · intro x hx
      by_cases hxb : x = b
      · subst hxb; exact ⟨c2', T, hb2⟩
      · obtain ⟨c3, T3, h3⟩ := hz x hx
        exact ⟨c3, T3, by rw [hhf x hxb]; exact h3⟩
    · intro x hx
      have hxb : x ≠ b := fun e => hx (e ▸ hbF)
      rw [hoth x hxb, hs x hx]
theorem total2_take {xs : List (List Int)} {j : Nat} (hj : j < xs.length) : total2 (xs.take (j + 1)) = total2 (xs.take j) + (xs[j].length : Int) := by
  rw [(drop_cons hj).2, total2_app]
theorem total2_le : ∀ (xs : List (List Int)) (j : Nat), total2 (xs.take j) ≤ total2 xs
  | [], j => by simp [total2]
  | x :: xs, 0 => by have := total2_nn xs; simp only [List.take_zero, total2]; omega
  | x :: xs, j + 1 => by have := total2_le xs j; simp only [List.take_succ_cons, total2]; omega
set_option maxHeartbeats 1600000 in
theorem markSS_any (b cap n : Nat) (c : Array Value) (T : TypeId) (xs : List (List Int)) (mid post : List Value) (F : List Nat) (k : Int) (w : World) (hn : n = xs.length) (hn2 : n ≤ 1000000000) (hk0 : 0 ≤ k) (hk1 : k ≤ 1000000000) (ht : total2 xs ≤ 1000000000)
    (hb : w.heap[b]? = some (.cells c T (0, 0))) (hc : c.toList = mid ++ post) (hR : RelL (RI (World.hf w)) xs mid F) (hz : NoFz (World.hf w) F) (hnd : F.Nodup) (hbF : b ∉ F) :
    Calls Try.prog 9 #[.slice (some ⟨b, 0, none⟩) n cap, .int .i64 k] w fun e w' => e = .returned (.int .i64 (k + total2 xs)) ∧ MI w w' xs k mid F n := by
  have H0 := Lib.hid (MI_zero (k := k) hR hz)
  have HB := Lib.hid hb
  have HC := Lib.hid hc
  have HN := Lib.hid hn
  have HT := Lib.hid (total2_le xs)
  clear hb hc hR hz
  have ht0 : 0 ≤ total2 xs := total2_nn xs
  clear hn
  go_enter Try.func9, Try.ntmps9
  go_wp2
  go_loopw [1, 5] (fun kv i wr => ∃ j : Nat, j ≤ n ∧ i = .int .i64 j ∧ kv = .int .i64 (k + total2 (xs.take j)) ∧ Hid (MI w wr xs k mid F j))
    (fun _ i _ => n - (intOf i).toNat)
  case atStart => exact ⟨0, Nat.zero_le _, rfl, by simp [total2], H0⟩
  case round =>
    obtain ⟨j, hj, rfl, rfl, HM⟩ := hrel
    by_cases hlt : j < n
    · have hjx : j < xs.length := by rw [← show n = xs.length from HN]; exact hlt
      obtain ⟨v, hv, hor⟩ := MI_step (show MI w wr xs k mid F j from HM) hjx hnd
      have hcell : wr.cell? ⟨b, j, none⟩ = some v := by
        obtain ⟨m1, m2, F1, F2, e1, e2, hl, r1, r2, hz, hs, _⟩ := (show MI w wr xs k mid F j from HM)
        unfold World.cell?
        rw [hs b hbF, show w.heap[b]? = _ from HB]
        simp only [Option.isSome_none, Bool.false_eq_true, if_false]
        rw [← Array.getElem?_toList, show c.toList = _ from HC, List.getElem?_append_left (by
          have := (List.getElem?_eq_some_iff.1 hv).1
          exact this), hv]
      have t1 := total2_nn (xs.take j)
      have t2 := total2_le xs j
      have t3 := total2_le xs (j + 1)
      have t4 := total2_take hjx
      obtain ⟨tj, htj⟩ : ∃ tj, total2 (xs.take j) = tj := ⟨_, rfl⟩
      rw [htj] at hor t1 t2 t4 ⊢
      rcases hor with ⟨hx0, ⟨a, cp, rfl⟩, hM2⟩ | ⟨b', off, cp, rfl, hcl, hfr, hM2⟩
      · have T4 := Lib.hid (show total2 (xs.take (j + 1)) = tj by rw [t4, hx0]; simp)
        have HM2 := Lib.hid hM2
        clear hM2 HM hx0 htj t4 hv t3 HT H0 HB HC HN hjx
        go_wp2_with (go_at_call 14; refine (markS_nil _ _ _ _).mono ?_; rintro e w' ⟨rfl, rfl⟩)
        go_roundw
        case rel => exact ⟨j + 1, by omega, by go_num, congrArg (Value.int .i64) (by rw [show total2 (xs.take (j + 1)) = tj from T4]), HM2⟩
        case measure => simp [intOf]; omega
      · obtain ⟨L, hL⟩ : ∃ L, xs[j].length = L := ⟨_, rfl⟩
        have hcon := markS_any b' off L cp xs[j] (k + tj) wr (by omega) (by omega) (by omega) (fun i hi => hcl i (by omega)) (fun i hi => hfr i (by omega))
        rw [hL] at hM2 t4 hcell
        have T4 := Lib.hid (show total2 (xs.take (j + 1)) = tj + (L : Int) from t4)
        have HM2 := Lib.hid hM2
        have hL2 : (L : Int) ≤ 1000000000 := by omega
        clear hM2 HM htj t4 hv t3 HT H0 HB HC HN hcl hfr hL hjx
        go_wp2_with (go_at_call 14; refine hcon.mono ?_; rintro e w' ⟨rfl, rfl⟩)
        go_roundw
        case rel => exact ⟨j + 1, by omega, by go_num, congrArg (Value.int .i64) (by rw [show total2 (xs.take (j + 1)) = tj + (L : Int) from T4]; omega), HM2⟩
        case measure => simp [intOf]; omega
    · obtain rfl : j = n := by omega
      have hT : total2 (xs.take j) = total2 xs := by rw [show j = xs.length from HN, List.take_length]
      have HT2 := Lib.hid hT
      clear HT H0 HB HC HN hT
      go_wp2
      go_ret
      exact ⟨congrArg (fun z => Ending.returned (Value.int .i64 (k + z))) HT2, HM⟩
theorem markSS_nil (a : Option Addr) (c : Nat) (k : Int) (w : World) :
    Calls Try.prog 9 #[.slice a 0 c, .int .i64 k] w fun e w' => e = .returned (.int .i64 k) ∧ w' = w := by
  go_enter Try.func9, Try.ntmps9
  go_wp2
  go_loopw [1, 5] (fun kv i wr => i = .int .i64 0 ∧ kv = .int .i64 k ∧ Hid (wr = w))
    (fun _ i _ => 0)
  case atStart => exact ⟨rfl, rfl, Lib.hid rfl⟩
  case round =>
    obtain ⟨rfl, rfl, HW⟩ := hrel
    go_wp2
    go_ret
    exact ⟨rfl, HW⟩
theorem mark_ok : MarkSS Try.prog 9 :=
  ⟨markSS_nil, fun b cap n c T xs mid post F k w hn hn2 hk0 hk1 ht hb hc hR hz hnd hbF => (markSS_any b cap n c T xs mid post F k w hn hn2 hk0 hk1 ht hb hc hR hz hnd hbF).mono fun _ _ ⟨h1, h2⟩ => ⟨h1, MI_end hn h2⟩⟩
end Go.GA
