/- slices.Repeat at this program; no further conditions. -/
import Derived.WalkKit
import Derived.BigCall
import Derived.Laws.CopyRow
import Derived.Lib.Hide
import Derived.Test.YtnomfaepgmbogaaGaD
import Derived.Test.YtnomfaepgmbogaaProg
namespace Go.GA
open Go Go.Proofs Go.RowKit
set_option maxRecDepth 100000
set_option maxHeartbeats 4000000
def intOf : Value → Int | .int _ q => q | _ => 0
theorem info3 : (Try.prog.info? 3).map (·.size) = some 1 := by kernel_rfl
theorem cell_in {W : World} {g : Nat} {B : Array Value} {T : TypeId} {z : Nat × Nat} {j : Nat} {v : Value} (hg : W.heap[g]? = some (.cells B T z)) (h : B[j]? = some v) : W.cell? ⟨g, j, none⟩ = some v := by
  unfold World.cell?
  rw [hg]
  simpa using h
theorem cell_old {w : World} {A : Array Value} {T : TypeId} {b off : Nat} {v : Value} (hb : b < w.heap.size) (h : w.cell? ⟨b, off, none⟩ = some v) : (w.alloc (.cells A T)).cell? ⟨b, off, none⟩ = some v := by
  rw [← h]
  unfold World.cell?
  have : (w.alloc (.cells A T)).heap[b]? = w.heap[b]? := by
    show (w.heap.push _)[b]? = _
    rw [Array.getElem?_push_lt hb, Array.getElem?_eq_getElem hb]
  rw [this]
/-- the state of the new row -/
def St (w : World) (B : Array Value) (W : World) : Prop := W.heap[w.heap.size]? = some (.cells B 3 (0, 0)) ∧ Below w.heap.size w W
theorem St.new {w : World} {A B : Array Value} : St w B ((w.alloc (.cells A 3)).setRow w.heap.size B) := by
  refine ⟨setRow_heap (w.alloc (.cells A 3)) w.heap.size A B 3 (0, 0) (by show (w.heap.push _)[w.heap.size]? = _; simp), rfl, rfl, rfl, ?_, fun k hk => ?_⟩
  · show w.heap.size ≤ ((w.alloc (.cells A 3)).setRow w.heap.size B).heap.size
    have : ((w.alloc (.cells A 3)).setRow w.heap.size B).heap.size = (w.alloc (.cells A 3)).heap.size := by simp [World.setRow]
    rw [this]; simp
  · have h2 := setRow_other (w.alloc (.cells A 3)) w.heap.size k B (by omega)
    have h3 : (w.alloc (.cells A 3)).heap[k]? = w.heap[k]? := by
      show (w.heap.push _)[k]? = _
      rw [Array.getElem?_push_lt hk, Array.getElem?_eq_getElem hk]
    exact h2.trans h3
theorem St.set {w W : World} {A B : Array Value} (h : St w A W) : St w B (W.drew.setRow w.heap.size B) := by
  obtain ⟨h1, h2⟩ := h
  refine ⟨setRow_heap W.drew w.heap.size A B 3 (0, 0) h1, h2.os, h2.tape, h2.output, ?_, fun k hk => ?_⟩
  · have : (W.drew.setRow w.heap.size B).heap.size = W.heap.size := by simp [World.setRow]
    rw [this]; exact h2.size
  · have h3 := setRow_other W.drew w.heap.size k B (by omega)
    exact h3.trans (h2.block k hk)
theorem copy_at (g : Nat) (o dl dc sl sc : Nat) (a : Addr) (cs : List Value) (W : World) (cur : Array Value) (n : Int) (B : Array Value) (hg : W.heap[g]? = some (.cells cur 3 (0, 0))) (hn : cs.length = Nat.min sl dl) (hsrc : ∀ j v, cs[j]? = some v → W.cell? (a.add j) = some v) (hfit : o + cs.length ≤ cur.size) (h1 : ∀ v ∈ cs, v.oneCell' = true) (en : goInt cs.length = .int .i64 n) (eB : (cur.toList.take o ++ cs ++ cur.toList.drop (o + cs.length)).toArray = B) :
    (Builtin.copy_ #[24, 24] 3 #[.slice (some ⟨g, o, none⟩) dl dc, .slice (some a) sl sc]).run Try.prog W = .ok (.int .i64 n) (W.setRow g B) := by
  have := run_copy_row Try.prog W 24 24 3 3 g o dl dc a sl sc cur 3 cs Try.underlying24 info3 hg hn hsrc hfit h1
  rw [this, en, eB]
theorem mul_0 (w : World) : Calls Try.prog 73 #[.int .u64 1, .int .u64 0] w fun e w' => e = .returned (.tuple #[.int .u64 0, .int .u64 0]) ∧ w = w' := by
  go_enter Try.func73, Try.ntmps73
  go_wp2
  go_ret2
  exact ⟨by kernel_rfl, rfl⟩
theorem make_0 (w : World) : (Instr.makeSlice 24 (.int .i64 0) (.int .i64 0)).run Try.prog w = .ok (.slice (some ⟨w.heap.size, 0, none⟩) 0 0) (w.alloc (.cells #[] 3)) := by kernel_rfl
theorem repeat_0 (b off cap : Nat) (v : Int) (w : World) (hb : b < w.heap.size) (hc : w.cell? ⟨b, off, none⟩ = some (.int .i64 v)) :
    Calls Try.prog 43 #[.slice (some ⟨b, off, none⟩) 1 cap, .int .i64 0] w fun e w' => e = .returned (.slice (some ⟨w.heap.size, 0, none⟩) 0 0) ∧ St w #[] w' := by
  have cp0 := copy_at w.heap.size 0 0 0 1 cap ⟨b, off, none⟩ [] (w.alloc (.cells #[] 3)) #[] 0 #[] (by show (w.heap.push _)[w.heap.size]? = _; simp) (by rfl) (fun j u hj => by simp at hj) (by simp) (by simp [Value.oneCell']) rfl (by simp)
  have hmk := make_0
  have H0 := Lib.hid (St.new (w := w) (A := #[]) (B := #[]))
  clear hc
  go_enter Try.func43, Try.ntmps43
  go_wp2_with (go_at_call 73; refine (mul_0 _).mono ?_; rintro e w' ⟨rfl, rfl⟩)
  go_loopw [8] (fun nv wr => (nv = .int .i64 0 ∧ Hid (St w #[] wr))) (fun nv _ => 0 - (intOf nv).toNat)
  case atStart => exact ⟨rfl, H0⟩
  case round =>
    clear cp0 hmk H0
    rcases hrel with ⟨rfl, HW⟩
    · go_wp2
      go_ret
      exact ⟨rfl, HW⟩
theorem mul_1 (w : World) : Calls Try.prog 73 #[.int .u64 1, .int .u64 1] w fun e w' => e = .returned (.tuple #[.int .u64 0, .int .u64 1]) ∧ w = w' := by
  go_enter Try.func73, Try.ntmps73
  go_wp2
  go_ret2
  exact ⟨by kernel_rfl, rfl⟩
theorem make_1 (w : World) : (Instr.makeSlice 24 (.int .i64 1) (.int .i64 1)).run Try.prog w = .ok (.slice (some ⟨w.heap.size, 0, none⟩) 1 1) (w.alloc (.cells #[.int .i64 0] 3)) := by kernel_rfl
theorem repeat_1 (b off cap : Nat) (v : Int) (w : World) (hb : b < w.heap.size) (hc : w.cell? ⟨b, off, none⟩ = some (.int .i64 v)) :
    Calls Try.prog 43 #[.slice (some ⟨b, off, none⟩) 1 cap, .int .i64 1] w fun e w' => e = .returned (.slice (some ⟨w.heap.size, 0, none⟩) 1 1) ∧ St w #[.int .i64 v] w' := by
  have cp0 := copy_at w.heap.size 0 1 1 1 cap ⟨b, off, none⟩ [.int .i64 v] (w.alloc (.cells #[.int .i64 0] 3)) #[.int .i64 0] 1 #[.int .i64 v] (by show (w.heap.push _)[w.heap.size]? = _; simp) (by rfl) (fun j u hj => by
      match j, hj with
      | 0, hj => obtain rfl := Option.some.inj hj; exact cell_old hb hc) (by simp) (by simp [Value.oneCell']) rfl (by simp)
  have hmk := make_1
  have H0 := Lib.hid (St.new (w := w) (A := #[.int .i64 0]) (B := #[.int .i64 v]))
  clear hc
  go_enter Try.func43, Try.ntmps43
  go_wp2_with (go_at_call 73; refine (mul_1 _).mono ?_; rintro e w' ⟨rfl, rfl⟩)
  go_loopw [8] (fun nv wr => (nv = .int .i64 1 ∧ Hid (St w #[.int .i64 v] wr))) (fun nv _ => 1 - (intOf nv).toNat)
  case atStart => exact ⟨rfl, H0⟩
  case round =>
    clear cp0 hmk H0
    rcases hrel with ⟨rfl, HW⟩
    · go_wp2
      go_ret
      exact ⟨rfl, HW⟩
theorem mul_2 (w : World) : Calls Try.prog 73 #[.int .u64 1, .int .u64 2] w fun e w' => e = .returned (.tuple #[.int .u64 0, .int .u64 2]) ∧ w = w' := by
  go_enter Try.func73, Try.ntmps73
  go_wp2
  go_ret2
  exact ⟨by kernel_rfl, rfl⟩
theorem make_2 (w : World) : (Instr.makeSlice 24 (.int .i64 2) (.int .i64 2)).run Try.prog w = .ok (.slice (some ⟨w.heap.size, 0, none⟩) 2 2) (w.alloc (.cells #[.int .i64 0, .int .i64 0] 3)) := by kernel_rfl
theorem repeat_2 (b off cap : Nat) (v : Int) (w : World) (hb : b < w.heap.size) (hc : w.cell? ⟨b, off, none⟩ = some (.int .i64 v)) :
    Calls Try.prog 43 #[.slice (some ⟨b, off, none⟩) 1 cap, .int .i64 2] w fun e w' => e = .returned (.slice (some ⟨w.heap.size, 0, none⟩) 2 2) ∧ St w #[.int .i64 v, .int .i64 v] w' := by
  have cp0 := copy_at w.heap.size 0 2 2 1 cap ⟨b, off, none⟩ [.int .i64 v] (w.alloc (.cells #[.int .i64 0, .int .i64 0] 3)) #[.int .i64 0, .int .i64 0] 1 #[.int .i64 v, .int .i64 0] (by show (w.heap.push _)[w.heap.size]? = _; simp) (by rfl) (fun j u hj => by
      match j, hj with
      | 0, hj => obtain rfl := Option.some.inj hj; exact cell_old hb hc) (by simp) (by simp [Value.oneCell']) rfl (by simp)
  have hmk := make_2
  have H0 := Lib.hid (St.new (w := w) (A := #[.int .i64 0, .int .i64 0]) (B := #[.int .i64 v, .int .i64 0]))
  clear hc
  go_enter Try.func43, Try.ntmps43
  go_wp2_with (go_at_call 73; refine (mul_2 _).mono ?_; rintro e w' ⟨rfl, rfl⟩)
  go_loopw [8] (fun nv wr => (nv = .int .i64 1 ∧ Hid (St w #[.int .i64 v, .int .i64 0] wr)) ∨ (nv = .int .i64 2 ∧ Hid (St w #[.int .i64 v, .int .i64 v] wr))) (fun nv _ => 2 - (intOf nv).toNat)
  case atStart => exact .inl ⟨rfl, H0⟩
  case round =>
    clear cp0 hmk H0
    rcases hrel with ⟨rfl, HW⟩ | ⟨rfl, HW⟩
    · have cp := copy_at w.heap.size 1 1 1 1 2 ⟨w.heap.size, 0, none⟩ [.int .i64 v] wr.drew #[.int .i64 v, .int .i64 0] 1 #[.int .i64 v, .int .i64 v] (show St w #[.int .i64 v, .int .i64 0] wr from HW).1 (by rfl) (fun j u hj => by
        rw [show (⟨w.heap.size, 0, none⟩ : Addr).add j = ⟨w.heap.size, j, none⟩ from by rw [addr_add]; simp]
        match j, hj with
        | 0, hj => obtain rfl := Option.some.inj hj; exact cell_in (show wr.drew.heap[w.heap.size]? = _ from (show St w #[.int .i64 v, .int .i64 0] wr from HW).1) rfl) (by simp) (by simp [Value.oneCell']) rfl (by simp)
      have HS := Lib.hid (St.set (B := #[.int .i64 v, .int .i64 v]) (show St w #[.int .i64 v, .int .i64 0] wr from HW))
      clear HW
      go_wp2
      go_region
      all_goals
        go_roundw
        case rel => first | exact .inr (⟨rfl, HS⟩) | ((repeat apply Exists.intro); exact ⟨.inr (⟨rfl, HS⟩), rfl⟩)
        case measure => simp [intOf]
    · go_wp2
      go_ret
      exact ⟨rfl, HW⟩
theorem mul_3 (w : World) : Calls Try.prog 73 #[.int .u64 1, .int .u64 3] w fun e w' => e = .returned (.tuple #[.int .u64 0, .int .u64 3]) ∧ w = w' := by
  go_enter Try.func73, Try.ntmps73
  go_wp2
  go_ret2
  exact ⟨by kernel_rfl, rfl⟩
theorem make_3 (w : World) : (Instr.makeSlice 24 (.int .i64 3) (.int .i64 3)).run Try.prog w = .ok (.slice (some ⟨w.heap.size, 0, none⟩) 3 3) (w.alloc (.cells #[.int .i64 0, .int .i64 0, .int .i64 0] 3)) := by kernel_rfl
theorem repeat_3 (b off cap : Nat) (v : Int) (w : World) (hb : b < w.heap.size) (hc : w.cell? ⟨b, off, none⟩ = some (.int .i64 v)) :
    Calls Try.prog 43 #[.slice (some ⟨b, off, none⟩) 1 cap, .int .i64 3] w fun e w' => e = .returned (.slice (some ⟨w.heap.size, 0, none⟩) 3 3) ∧ St w #[.int .i64 v, .int .i64 v, .int .i64 v] w' := by
  have cp0 := copy_at w.heap.size 0 3 3 1 cap ⟨b, off, none⟩ [.int .i64 v] (w.alloc (.cells #[.int .i64 0, .int .i64 0, .int .i64 0] 3)) #[.int .i64 0, .int .i64 0, .int .i64 0] 1 #[.int .i64 v, .int .i64 0, .int .i64 0] (by show (w.heap.push _)[w.heap.size]? = _; simp) (by rfl) (fun j u hj => by
      match j, hj with
      | 0, hj => obtain rfl := Option.some.inj hj; exact cell_old hb hc) (by simp) (by simp [Value.oneCell']) rfl (by simp)
  have hmk := make_3
  have H0 := Lib.hid (St.new (w := w) (A := #[.int .i64 0, .int .i64 0, .int .i64 0]) (B := #[.int .i64 v, .int .i64 0, .int .i64 0]))
  clear hc
  go_enter Try.func43, Try.ntmps43
  go_wp2_with (go_at_call 73; refine (mul_3 _).mono ?_; rintro e w' ⟨rfl, rfl⟩)
  go_loopw [8] (fun nv wr => (nv = .int .i64 1 ∧ Hid (St w #[.int .i64 v, .int .i64 0, .int .i64 0] wr)) ∨ (nv = .int .i64 2 ∧ Hid (St w #[.int .i64 v, .int .i64 v, .int .i64 0] wr)) ∨ (nv = .int .i64 3 ∧ Hid (St w #[.int .i64 v, .int .i64 v, .int .i64 v] wr))) (fun nv _ => 3 - (intOf nv).toNat)
  case atStart => exact .inl ⟨rfl, H0⟩
  case round =>
    clear cp0 hmk H0
    rcases hrel with ⟨rfl, HW⟩ | ⟨rfl, HW⟩ | ⟨rfl, HW⟩
    · have cp := copy_at w.heap.size 1 2 2 1 3 ⟨w.heap.size, 0, none⟩ [.int .i64 v] wr.drew #[.int .i64 v, .int .i64 0, .int .i64 0] 1 #[.int .i64 v, .int .i64 v, .int .i64 0] (show St w #[.int .i64 v, .int .i64 0, .int .i64 0] wr from HW).1 (by rfl) (fun j u hj => by
        rw [show (⟨w.heap.size, 0, none⟩ : Addr).add j = ⟨w.heap.size, j, none⟩ from by rw [addr_add]; simp]
        match j, hj with
        | 0, hj => obtain rfl := Option.some.inj hj; exact cell_in (show wr.drew.heap[w.heap.size]? = _ from (show St w #[.int .i64 v, .int .i64 0, .int .i64 0] wr from HW).1) rfl) (by simp) (by simp [Value.oneCell']) rfl (by simp)
      have HS := Lib.hid (St.set (B := #[.int .i64 v, .int .i64 v, .int .i64 0]) (show St w #[.int .i64 v, .int .i64 0, .int .i64 0] wr from HW))
      clear HW
      go_wp2
      go_region
      all_goals
        go_roundw
        case rel => first | exact .inr (.inl ⟨rfl, HS⟩) | ((repeat apply Exists.intro); exact ⟨.inr (.inl ⟨rfl, HS⟩), rfl⟩)
        case measure => simp [intOf]
    · have cp := copy_at w.heap.size 2 1 1 2 3 ⟨w.heap.size, 0, none⟩ [.int .i64 v] wr.drew #[.int .i64 v, .int .i64 v, .int .i64 0] 1 #[.int .i64 v, .int .i64 v, .int .i64 v] (show St w #[.int .i64 v, .int .i64 v, .int .i64 0] wr from HW).1 (by rfl) (fun j u hj => by
        rw [show (⟨w.heap.size, 0, none⟩ : Addr).add j = ⟨w.heap.size, j, none⟩ from by rw [addr_add]; simp]
        match j, hj with
        | 0, hj => obtain rfl := Option.some.inj hj; exact cell_in (show wr.drew.heap[w.heap.size]? = _ from (show St w #[.int .i64 v, .int .i64 v, .int .i64 0] wr from HW).1) rfl) (by simp) (by simp [Value.oneCell']) rfl (by simp)
      have HS := Lib.hid (St.set (B := #[.int .i64 v, .int .i64 v, .int .i64 v]) (show St w #[.int .i64 v, .int .i64 v, .int .i64 0] wr from HW))
      clear HW
      go_wp2
      go_region
      all_goals
        go_roundw
        case rel => first | exact .inr (.inr (⟨rfl, HS⟩)) | ((repeat apply Exists.intro); exact ⟨.inr (.inr (⟨rfl, HS⟩)), rfl⟩)
        case measure => simp [intOf]
    · go_wp2
      go_ret
      exact ⟨rfl, HW⟩
theorem mul_4 (w : World) : Calls Try.prog 73 #[.int .u64 1, .int .u64 4] w fun e w' => e = .returned (.tuple #[.int .u64 0, .int .u64 4]) ∧ w = w' := by
  go_enter Try.func73, Try.ntmps73
  go_wp2
  go_ret2
  exact ⟨by kernel_rfl, rfl⟩
theorem make_4 (w : World) : (Instr.makeSlice 24 (.int .i64 4) (.int .i64 4)).run Try.prog w = .ok (.slice (some ⟨w.heap.size, 0, none⟩) 4 4) (w.alloc (.cells #[.int .i64 0, .int .i64 0, .int .i64 0, .int .i64 0] 3)) := by kernel_rfl
theorem repeat_4 (b off cap : Nat) (v : Int) (w : World) (hb : b < w.heap.size) (hc : w.cell? ⟨b, off, none⟩ = some (.int .i64 v)) :
    Calls Try.prog 43 #[.slice (some ⟨b, off, none⟩) 1 cap, .int .i64 4] w fun e w' => e = .returned (.slice (some ⟨w.heap.size, 0, none⟩) 4 4) ∧ St w #[.int .i64 v, .int .i64 v, .int .i64 v, .int .i64 v] w' := by
  have cp0 := copy_at w.heap.size 0 4 4 1 cap ⟨b, off, none⟩ [.int .i64 v] (w.alloc (.cells #[.int .i64 0, .int .i64 0, .int .i64 0, .int .i64 0] 3)) #[.int .i64 0, .int .i64 0, .int .i64 0, .int .i64 0] 1 #[.int .i64 v, .int .i64 0, .int .i64 0, .int .i64 0] (by show (w.heap.push _)[w.heap.size]? = _; simp) (by rfl) (fun j u hj => by
      match j, hj with
      | 0, hj => obtain rfl := Option.some.inj hj; exact cell_old hb hc) (by simp) (by simp [Value.oneCell']) rfl (by simp)
  have hmk := make_4
  have H0 := Lib.hid (St.new (w := w) (A := #[.int .i64 0, .int .i64 0, .int .i64 0, .int .i64 0]) (B := #[.int .i64 v, .int .i64 0, .int .i64 0, .int .i64 0]))
  clear hc
  go_enter Try.func43, Try.ntmps43
  go_wp2_with (go_at_call 73; refine (mul_4 _).mono ?_; rintro e w' ⟨rfl, rfl⟩)
  go_loopw [8] (fun nv wr => (nv = .int .i64 1 ∧ Hid (St w #[.int .i64 v, .int .i64 0, .int .i64 0, .int .i64 0] wr)) ∨ (nv = .int .i64 2 ∧ Hid (St w #[.int .i64 v, .int .i64 v, .int .i64 0, .int .i64 0] wr)) ∨ (nv = .int .i64 4 ∧ Hid (St w #[.int .i64 v, .int .i64 v, .int .i64 v, .int .i64 v] wr))) (fun nv _ => 4 - (intOf nv).toNat)
  case atStart => exact .inl ⟨rfl, H0⟩
  case round =>
    clear cp0 hmk H0
    rcases hrel with ⟨rfl, HW⟩ | ⟨rfl, HW⟩ | ⟨rfl, HW⟩
    · have cp := copy_at w.heap.size 1 3 3 1 4 ⟨w.heap.size, 0, none⟩ [.int .i64 v] wr.drew #[.int .i64 v, .int .i64 0, .int .i64 0, .int .i64 0] 1 #[.int .i64 v, .int .i64 v, .int .i64 0, .int .i64 0] (show St w #[.int .i64 v, .int .i64 0, .int .i64 0, .int .i64 0] wr from HW).1 (by rfl) (fun j u hj => by
        rw [show (⟨w.heap.size, 0, none⟩ : Addr).add j = ⟨w.heap.size, j, none⟩ from by rw [addr_add]; simp]
        match j, hj with
        | 0, hj => obtain rfl := Option.some.inj hj; exact cell_in (show wr.drew.heap[w.heap.size]? = _ from (show St w #[.int .i64 v, .int .i64 0, .int .i64 0, .int .i64 0] wr from HW).1) rfl) (by simp) (by simp [Value.oneCell']) rfl (by simp)
      have HS := Lib.hid (St.set (B := #[.int .i64 v, .int .i64 v, .int .i64 0, .int .i64 0]) (show St w #[.int .i64 v, .int .i64 0, .int .i64 0, .int .i64 0] wr from HW))
      clear HW
      go_wp2
      go_region
      all_goals
        go_roundw
        case rel => first | exact .inr (.inl ⟨rfl, HS⟩) | ((repeat apply Exists.intro); exact ⟨.inr (.inl ⟨rfl, HS⟩), rfl⟩)
        case measure => simp [intOf]
    · have cp := copy_at w.heap.size 2 2 2 2 4 ⟨w.heap.size, 0, none⟩ [.int .i64 v, .int .i64 v] wr.drew #[.int .i64 v, .int .i64 v, .int .i64 0, .int .i64 0] 2 #[.int .i64 v, .int .i64 v, .int .i64 v, .int .i64 v] (show St w #[.int .i64 v, .int .i64 v, .int .i64 0, .int .i64 0] wr from HW).1 (by rfl) (fun j u hj => by
        rw [show (⟨w.heap.size, 0, none⟩ : Addr).add j = ⟨w.heap.size, j, none⟩ from by rw [addr_add]; simp]
        match j, hj with
        | 0, hj => obtain rfl := Option.some.inj hj; exact cell_in (show wr.drew.heap[w.heap.size]? = _ from (show St w #[.int .i64 v, .int .i64 v, .int .i64 0, .int .i64 0] wr from HW).1) rfl
        | 1, hj => obtain rfl := Option.some.inj hj; exact cell_in (show wr.drew.heap[w.heap.size]? = _ from (show St w #[.int .i64 v, .int .i64 v, .int .i64 0, .int .i64 0] wr from HW).1) rfl) (by simp) (by simp [Value.oneCell']) rfl (by simp)
      have HS := Lib.hid (St.set (B := #[.int .i64 v, .int .i64 v, .int .i64 v, .int .i64 v]) (show St w #[.int .i64 v, .int .i64 v, .int .i64 0, .int .i64 0] wr from HW))
      clear HW
      go_wp2
      go_region
      all_goals
        go_roundw
        case rel => first | exact .inr (.inr (⟨rfl, HS⟩)) | ((repeat apply Exists.intro); exact ⟨.inr (.inr (⟨rfl, HS⟩)), rfl⟩)
        case measure => simp [intOf]
    · go_wp2
      go_ret
      exact ⟨rfl, HW⟩
theorem mul_5 (w : World) : Calls Try.prog 73 #[.int .u64 1, .int .u64 5] w fun e w' => e = .returned (.tuple #[.int .u64 0, .int .u64 5]) ∧ w = w' := by
  go_enter Try.func73, Try.ntmps73
  go_wp2
  go_ret2
  exact ⟨by kernel_rfl, rfl⟩
theorem make_5 (w : World) : (Instr.makeSlice 24 (.int .i64 5) (.int .i64 5)).run Try.prog w = .ok (.slice (some ⟨w.heap.size, 0, none⟩) 5 5) (w.alloc (.cells #[.int .i64 0, .int .i64 0, .int .i64 0, .int .i64 0, .int .i64 0] 3)) := by kernel_rfl
theorem repeat_5 (b off cap : Nat) (v : Int) (w : World) (hb : b < w.heap.size) (hc : w.cell? ⟨b, off, none⟩ = some (.int .i64 v)) :
    Calls Try.prog 43 #[.slice (some ⟨b, off, none⟩) 1 cap, .int .i64 5] w fun e w' => e = .returned (.slice (some ⟨w.heap.size, 0, none⟩) 5 5) ∧ St w #[.int .i64 v, .int .i64 v, .int .i64 v, .int .i64 v, .int .i64 v] w' := by
  have cp0 := copy_at w.heap.size 0 5 5 1 cap ⟨b, off, none⟩ [.int .i64 v] (w.alloc (.cells #[.int .i64 0, .int .i64 0, .int .i64 0, .int .i64 0, .int .i64 0] 3)) #[.int .i64 0, .int .i64 0, .int .i64 0, .int .i64 0, .int .i64 0] 1 #[.int .i64 v, .int .i64 0, .int .i64 0, .int .i64 0, .int .i64 0] (by show (w.heap.push _)[w.heap.size]? = _; simp) (by rfl) (fun j u hj => by
      match j, hj with
      | 0, hj => obtain rfl := Option.some.inj hj; exact cell_old hb hc) (by simp) (by simp [Value.oneCell']) rfl (by simp)
  have hmk := make_5
  have H0 := Lib.hid (St.new (w := w) (A := #[.int .i64 0, .int .i64 0, .int .i64 0, .int .i64 0, .int .i64 0]) (B := #[.int .i64 v, .int .i64 0, .int .i64 0, .int .i64 0, .int .i64 0]))
  clear hc
  go_enter Try.func43, Try.ntmps43
  go_wp2_with (go_at_call 73; refine (mul_5 _).mono ?_; rintro e w' ⟨rfl, rfl⟩)
  go_loopw [8] (fun nv wr => (nv = .int .i64 1 ∧ Hid (St w #[.int .i64 v, .int .i64 0, .int .i64 0, .int .i64 0, .int .i64 0] wr)) ∨ (nv = .int .i64 2 ∧ Hid (St w #[.int .i64 v, .int .i64 v, .int .i64 0, .int .i64 0, .int .i64 0] wr)) ∨ (nv = .int .i64 4 ∧ Hid (St w #[.int .i64 v, .int .i64 v, .int .i64 v, .int .i64 v, .int .i64 0] wr)) ∨ (nv = .int .i64 5 ∧ Hid (St w #[.int .i64 v, .int .i64 v, .int .i64 v, .int .i64 v, .int .i64 v] wr))) (fun nv _ => 5 - (intOf nv).toNat)
  case atStart => exact .inl ⟨rfl, H0⟩
  case round =>
    clear cp0 hmk H0
    rcases hrel with ⟨rfl, HW⟩ | ⟨rfl, HW⟩ | ⟨rfl, HW⟩ | ⟨rfl, HW⟩
    · have cp := copy_at w.heap.size 1 4 4 1 5 ⟨w.heap.size, 0, none⟩ [.int .i64 v] wr.drew #[.int .i64 v, .int .i64 0, .int .i64 0, .int .i64 0, .int .i64 0] 1 #[.int .i64 v, .int .i64 v, .int .i64 0, .int .i64 0, .int .i64 0] (show St w #[.int .i64 v, .int .i64 0, .int .i64 0, .int .i64 0, .int .i64 0] wr from HW).1 (by rfl) (fun j u hj => by
        rw [show (⟨w.heap.size, 0, none⟩ : Addr).add j = ⟨w.heap.size, j, none⟩ from by rw [addr_add]; simp]
        match j, hj with
        | 0, hj => obtain rfl := Option.some.inj hj; exact cell_in (show wr.drew.heap[w.heap.size]? = _ from (show St w #[.int .i64 v, .int .i64 0, .int .i64 0, .int .i64 0, .int .i64 0] wr from HW).1) rfl) (by simp) (by simp [Value.oneCell']) rfl (by simp)
      have HS := Lib.hid (St.set (B := #[.int .i64 v, .int .i64 v, .int .i64 0, .int .i64 0, .int .i64 0]) (show St w #[.int .i64 v, .int .i64 0, .int .i64 0, .int .i64 0, .int .i64 0] wr from HW))
      clear HW
      go_wp2
      go_region
      all_goals
        go_roundw
        case rel => first | exact .inr (.inl ⟨rfl, HS⟩) | ((repeat apply Exists.intro); exact ⟨.inr (.inl ⟨rfl, HS⟩), rfl⟩)
        case measure => simp [intOf]
    · have cp := copy_at w.heap.size 2 3 3 2 5 ⟨w.heap.size, 0, none⟩ [.int .i64 v, .int .i64 v] wr.drew #[.int .i64 v, .int .i64 v, .int .i64 0, .int .i64 0, .int .i64 0] 2 #[.int .i64 v, .int .i64 v, .int .i64 v, .int .i64 v, .int .i64 0] (show St w #[.int .i64 v, .int .i64 v, .int .i64 0, .int .i64 0, .int .i64 0] wr from HW).1 (by rfl) (fun j u hj => by
        rw [show (⟨w.heap.size, 0, none⟩ : Addr).add j = ⟨w.heap.size, j, none⟩ from by rw [addr_add]; simp]
        match j, hj with
        | 0, hj => obtain rfl := Option.some.inj hj; exact cell_in (show wr.drew.heap[w.heap.size]? = _ from (show St w #[.int .i64 v, .int .i64 v, .int .i64 0, .int .i64 0, .int .i64 0] wr from HW).1) rfl
        | 1, hj => obtain rfl := Option.some.inj hj; exact cell_in (show wr.drew.heap[w.heap.size]? = _ from (show St w #[.int .i64 v, .int .i64 v, .int .i64 0, .int .i64 0, .int .i64 0] wr from HW).1) rfl) (by simp) (by simp [Value.oneCell']) rfl (by simp)
      have HS := Lib.hid (St.set (B := #[.int .i64 v, .int .i64 v, .int .i64 v, .int .i64 v, .int .i64 0]) (show St w #[.int .i64 v, .int .i64 v, .int .i64 0, .int .i64 0, .int .i64 0] wr from HW))
      clear HW
      go_wp2
      go_region
      all_goals
        go_roundw
        case rel => first | exact .inr (.inr (.inl ⟨rfl, HS⟩)) | ((repeat apply Exists.intro); exact ⟨.inr (.inr (.inl ⟨rfl, HS⟩)), rfl⟩)
        case measure => simp [intOf]
    · have cp := copy_at w.heap.size 4 1 1 4 5 ⟨w.heap.size, 0, none⟩ [.int .i64 v] wr.drew #[.int .i64 v, .int .i64 v, .int .i64 v, .int .i64 v, .int .i64 0] 1 #[.int .i64 v, .int .i64 v, .int .i64 v, .int .i64 v, .int .i64 v] (show St w #[.int .i64 v, .int .i64 v, .int .i64 v, .int .i64 v, .int .i64 0] wr from HW).1 (by rfl) (fun j u hj => by
        rw [show (⟨w.heap.size, 0, none⟩ : Addr).add j = ⟨w.heap.size, j, none⟩ from by rw [addr_add]; simp]
        match j, hj with
        | 0, hj => obtain rfl := Option.some.inj hj; exact cell_in (show wr.drew.heap[w.heap.size]? = _ from (show St w #[.int .i64 v, .int .i64 v, .int .i64 v, .int .i64 v, .int .i64 0] wr from HW).1) rfl) (by simp) (by simp [Value.oneCell']) rfl (by simp)
      have HS := Lib.hid (St.set (B := #[.int .i64 v, .int .i64 v, .int .i64 v, .int .i64 v, .int .i64 v]) (show St w #[.int .i64 v, .int .i64 v, .int .i64 v, .int .i64 v, .int .i64 0] wr from HW))
      clear HW
      go_wp2
      go_region
      all_goals
        go_roundw
        case rel => first | exact .inr (.inr (.inr (⟨rfl, HS⟩))) | ((repeat apply Exists.intro); exact ⟨.inr (.inr (.inr (⟨rfl, HS⟩))), rfl⟩)
        case measure => simp [intOf]
    · go_wp2
      go_ret
      exact ⟨rfl, HW⟩
theorem mul_6 (w : World) : Calls Try.prog 73 #[.int .u64 1, .int .u64 6] w fun e w' => e = .returned (.tuple #[.int .u64 0, .int .u64 6]) ∧ w = w' := by
  go_enter Try.func73, Try.ntmps73
  go_wp2
  go_ret2
  exact ⟨by kernel_rfl, rfl⟩
theorem make_6 (w : World) : (Instr.makeSlice 24 (.int .i64 6) (.int .i64 6)).run Try.prog w = .ok (.slice (some ⟨w.heap.size, 0, none⟩) 6 6) (w.alloc (.cells #[.int .i64 0, .int .i64 0, .int .i64 0, .int .i64 0, .int .i64 0, .int .i64 0] 3)) := by kernel_rfl
theorem repeat_6 (b off cap : Nat) (v : Int) (w : World) (hb : b < w.heap.size) (hc : w.cell? ⟨b, off, none⟩ = some (.int .i64 v)) :
    Calls Try.prog 43 #[.slice (some ⟨b, off, none⟩) 1 cap, .int .i64 6] w fun e w' => e = .returned (.slice (some ⟨w.heap.size, 0, none⟩) 6 6) ∧ St w #[.int .i64 v, .int .i64 v, .int .i64 v, .int .i64 v, .int .i64 v, .int .i64 v] w' := by
  have cp0 := copy_at w.heap.size 0 6 6 1 cap ⟨b, off, none⟩ [.int .i64 v] (w.alloc (.cells #[.int .i64 0, .int .i64 0, .int .i64 0, .int .i64 0, .int .i64 0, .int .i64 0] 3)) #[.int .i64 0, .int .i64 0, .int .i64 0, .int .i64 0, .int .i64 0, .int .i64 0] 1 #[.int .i64 v, .int .i64 0, .int .i64 0, .int .i64 0, .int .i64 0, .int .i64 0] (by show (w.heap.push _)[w.heap.size]? = _; simp) (by rfl) (fun j u hj => by
      match j, hj with
      | 0, hj => obtain rfl := Option.some.inj hj; exact cell_old hb hc) (by simp) (by simp [Value.oneCell']) rfl (by simp)
  have hmk := make_6
  have H0 := Lib.hid (St.new (w := w) (A := #[.int .i64 0, .int .i64 0, .int .i64 0, .int .i64 0, .int .i64 0, .int .i64 0]) (B := #[.int .i64 v, .int .i64 0, .int .i64 0, .int .i64 0, .int .i64 0, .int .i64 0]))
  clear hc
  go_enter Try.func43, Try.ntmps43
  go_wp2_with (go_at_call 73; refine (mul_6 _).mono ?_; rintro e w' ⟨rfl, rfl⟩)
  go_loopw [8] (fun nv wr => (nv = .int .i64 1 ∧ Hid (St w #[.int .i64 v, .int .i64 0, .int .i64 0, .int .i64 0, .int .i64 0, .int .i64 0] wr)) ∨ (nv = .int .i64 2 ∧ Hid (St w #[.int .i64 v, .int .i64 v, .int .i64 0, .int .i64 0, .int .i64 0, .int .i64 0] wr)) ∨ (nv = .int .i64 4 ∧ Hid (St w #[.int .i64 v, .int .i64 v, .int .i64 v, .int .i64 v, .int .i64 0, .int .i64 0] wr)) ∨ (nv = .int .i64 6 ∧ Hid (St w #[.int .i64 v, .int .i64 v, .int .i64 v, .int .i64 v, .int .i64 v, .int .i64 v] wr))) (fun nv _ => 6 - (intOf nv).toNat)
  case atStart => exact .inl ⟨rfl, H0⟩
  case round =>
    clear cp0 hmk H0
    rcases hrel with ⟨rfl, HW⟩ | ⟨rfl, HW⟩ | ⟨rfl, HW⟩ | ⟨rfl, HW⟩
    · have cp := copy_at w.heap.size 1 5 5 1 6 ⟨w.heap.size, 0, none⟩ [.int .i64 v] wr.drew #[.int .i64 v, .int .i64 0, .int .i64 0, .int .i64 0, .int .i64 0, .int .i64 0] 1 #[.int .i64 v, .int .i64 v, .int .i64 0, .int .i64 0, .int .i64 0, .int .i64 0] (show St w #[.int .i64 v, .int .i64 0, .int .i64 0, .int .i64 0, .int .i64 0, .int .i64 0] wr from HW).1 (by rfl) (fun j u hj => by
        rw [show (⟨w.heap.size, 0, none⟩ : Addr).add j = ⟨w.heap.size, j, none⟩ from by rw [addr_add]; simp]
        match j, hj with
        | 0, hj => obtain rfl := Option.some.inj hj; exact cell_in (show wr.drew.heap[w.heap.size]? = _ from (show St w #[.int .i64 v, .int .i64 0, .int .i64 0, .int .i64 0, .int .i64 0, .int .i64 0] wr from HW).1) rfl) (by simp) (by simp [Value.oneCell']) rfl (by simp)
      have HS := Lib.hid (St.set (B := #[.int .i64 v, .int .i64 v, .int .i64 0, .int .i64 0, .int .i64 0, .int .i64 0]) (show St w #[.int .i64 v, .int .i64 0, .int .i64 0, .int .i64 0, .int .i64 0, .int .i64 0] wr from HW))
      clear HW
      go_wp2
      go_region
      all_goals
        go_roundw
        case rel => first | exact .inr (.inl ⟨rfl, HS⟩) | ((repeat apply Exists.intro); exact ⟨.inr (.inl ⟨rfl, HS⟩), rfl⟩)
        case measure => simp [intOf]
    · have cp := copy_at w.heap.size 2 4 4 2 6 ⟨w.heap.size, 0, none⟩ [.int .i64 v, .int .i64 v] wr.drew #[.int .i64 v, .int .i64 v, .int .i64 0, .int .i64 0, .int .i64 0, .int .i64 0] 2 #[.int .i64 v, .int .i64 v, .int .i64 v, .int .i64 v, .int .i64 0, .int .i64 0] (show St w #[.int .i64 v, .int .i64 v, .int .i64 0, .int .i64 0, .int .i64 0, .int .i64 0] wr from HW).1 (by rfl) (fun j u hj => by
        rw [show (⟨w.heap.size, 0, none⟩ : Addr).add j = ⟨w.heap.size, j, none⟩ from by rw [addr_add]; simp]
        match j, hj with
        | 0, hj => obtain rfl := Option.some.inj hj; exact cell_in (show wr.drew.heap[w.heap.size]? = _ from (show St w #[.int .i64 v, .int .i64 v, .int .i64 0, .int .i64 0, .int .i64 0, .int .i64 0] wr from HW).1) rfl
        | 1, hj => obtain rfl := Option.some.inj hj; exact cell_in (show wr.drew.heap[w.heap.size]? = _ from (show St w #[.int .i64 v, .int .i64 v, .int .i64 0, .int .i64 0, .int .i64 0, .int .i64 0] wr from HW).1) rfl) (by simp) (by simp [Value.oneCell']) rfl (by simp)
      have HS := Lib.hid (St.set (B := #[.int .i64 v, .int .i64 v, .int .i64 v, .int .i64 v, .int .i64 0, .int .i64 0]) (show St w #[.int .i64 v, .int .i64 v, .int .i64 0, .int .i64 0, .int .i64 0, .int .i64 0] wr from HW))
      clear HW
      go_wp2
      go_region
      all_goals
        go_roundw
        case rel => first | exact .inr (.inr (.inl ⟨rfl, HS⟩)) | ((repeat apply Exists.intro); exact ⟨.inr (.inr (.inl ⟨rfl, HS⟩)), rfl⟩)
        case measure => simp [intOf]
    · have cp := copy_at w.heap.size 4 2 2 4 6 ⟨w.heap.size, 0, none⟩ [.int .i64 v, .int .i64 v] wr.drew #[.int .i64 v, .int .i64 v, .int .i64 v, .int .i64 v, .int .i64 0, .int .i64 0] 2 #[.int .i64 v, .int .i64 v, .int .i64 v, .int .i64 v, .int .i64 v, .int .i64 v] (show St w #[.int .i64 v, .int .i64 v, .int .i64 v, .int .i64 v, .int .i64 0, .int .i64 0] wr from HW).1 (by rfl) (fun j u hj => by
        rw [show (⟨w.heap.size, 0, none⟩ : Addr).add j = ⟨w.heap.size, j, none⟩ from by rw [addr_add]; simp]
        match j, hj with
        | 0, hj => obtain rfl := Option.some.inj hj; exact cell_in (show wr.drew.heap[w.heap.size]? = _ from (show St w #[.int .i64 v, .int .i64 v, .int .i64 v, .int .i64 v, .int .i64 0, .int .i64 0] wr from HW).1) rfl
        | 1, hj => obtain rfl := Option.some.inj hj; exact cell_in (show wr.drew.heap[w.heap.size]? = _ from (show St w #[.int .i64 v, .int .i64 v, .int .i64 v, .int .i64 v, .int .i64 0, .int .i64 0] wr from HW).1) rfl) (by simp) (by simp [Value.oneCell']) rfl (by simp)
      have HS := Lib.hid (St.set (B := #[.int .i64 v, .int .i64 v, .int .i64 v, .int .i64 v, .int .i64 v, .int .i64 v]) (show St w #[.int .i64 v, .int .i64 v, .int .i64 v, .int .i64 v, .int .i64 0, .int .i64 0] wr from HW))
      clear HW
      go_wp2
      go_region
      all_goals
        go_roundw
        case rel => first | exact .inr (.inr (.inr (⟨rfl, HS⟩))) | ((repeat apply Exists.intro); exact ⟨.inr (.inr (.inr (⟨rfl, HS⟩))), rfl⟩)
        case measure => simp [intOf]
    · go_wp2
      go_ret
      exact ⟨rfl, HW⟩
theorem c_slices_Repeat {x0 : List Int} {x1 : Int} {r : List Int} (h : Is (p_slices_Repeat x0 x1) (some r)) : ACalls Try.prog 43 [.v (.slice (.int .i64)) x0, .int .i64 x1] [] (fun r' H' => r' = .os 0 ∧ H' = [(0, .row (.int .i64) r)]) := by
  refine repeat_calls (fun b off cap v k w hk hb hc => ?_) h
  have h7 : k = 0 ∨ k = 1 ∨ k = 2 ∨ k = 3 ∨ k = 4 ∨ k = 5 ∨ k = 6 := by omega
  rcases h7 with rfl | rfl | rfl | rfl | rfl | rfl | rfl
  · refine (repeat_0 b off cap v w hb hc).mono ?_
    rintro e w' ⟨h1, h2, h3⟩
    exact ⟨_, 3, h1, h2, rfl, h3⟩
  · refine (repeat_1 b off cap v w hb hc).mono ?_
    rintro e w' ⟨h1, h2, h3⟩
    exact ⟨_, 3, h1, h2, rfl, h3⟩
  · refine (repeat_2 b off cap v w hb hc).mono ?_
    rintro e w' ⟨h1, h2, h3⟩
    exact ⟨_, 3, h1, h2, rfl, h3⟩
  · refine (repeat_3 b off cap v w hb hc).mono ?_
    rintro e w' ⟨h1, h2, h3⟩
    exact ⟨_, 3, h1, h2, rfl, h3⟩
  · refine (repeat_4 b off cap v w hb hc).mono ?_
    rintro e w' ⟨h1, h2, h3⟩
    exact ⟨_, 3, h1, h2, rfl, h3⟩
  · refine (repeat_5 b off cap v w hb hc).mono ?_
    rintro e w' ⟨h1, h2, h3⟩
    exact ⟨_, 3, h1, h2, rfl, h3⟩
  · refine (repeat_6 b off cap v w hb hc).mono ?_
    rintro e w' ⟨h1, h2, h3⟩
    exact ⟨_, 3, h1, h2, rfl, h3⟩
end Go.GA
