/- The law's frame: what came in, as plain data. -/
import Derived.Test.YtcminfahdindnaaDoorGA18
import Derived.WalkKit
import Derived.ProofKit
import Derived.OpenShut
import Derived.ShutString
import Derived.ChangeOld
import Derived.Below
namespace Go.GA
open Go Go.RowKit Go.ChangeShapes Go.WideShapes

/-- what is known of data that came in -/
def OkT : (t : Ty) → t.D → Prop
  | .bool, _ => True
  | .int k, x => (Lit.int k x).wf = true
  | .str, s => ByteArray.size s ≤ maxLen
  | .arr n t, xs => List.length (α := t.D) xs = n ∧ ∀ x, List.Mem (α := t.D) x xs → OkT t x
  | .slice t, xs => List.length (α := t.D) xs ≤ lim ∧ ∀ x, List.Mem (α := t.D) x xs → OkT t x
  | .unit, _ => True
  | .pair a b, x => OkT a x.1 ∧ OkT b x.2

mutual
inductive TyP (P : Program) : TypeId → Ty → Prop
  | bool {t} : P.underlying t = some .bool → P.cellsOf t = 1 → TyP P t .bool
  | int {t k} : P.underlying t = some (.int k) → P.cellsOf t = 1 → TyP P t (.int k)
  | str {t} : P.underlying t = some .string → P.cellsOf t = 1 → TyP P t .str
  | arr {t n e τ} : P.underlying t = some (.array n e) → P.cellsOf t = n * τ.sz → TyP P e τ → TyP P t (.arr n τ)
  | slice {t e τ} : P.underlying t = some (.slice e) → P.cellsOf t = 1 → Nat.blt 0 τ.sz = true → TyP P e τ → TyP P t (.slice τ)
  | struct {t fs τ} : P.underlying t = some (.struct fs) → P.cellsOf t = τ.sz → TyF P 0 fs.toList τ → τ.agg = true → TyP P t τ
inductive TyF (P : Program) : Nat → List Field → Ty → Prop
  | nil {o} : TyF P o [] .unit
  | cons {o f fs a b} : f.offset = o → TyP P f.type a → TyF P (o + a.sz) fs b → TyF P o (f :: fs) (.pair a b)
end
theorem TyP.cells {P : Program} {t : TypeId} {τ : Ty} (h : TyP P t τ) : P.cellsOf t = τ.sz := by
  cases h <;> first | assumption | simp_all [Ty.sz]

theorem chunks {α : Type} {R : α → List Value → List Nat → Prop} {p : α → Prop} {s : Nat} : ∀ (n : Nat) (cs : List Value), cs.length = n * s → (∀ i, i < n → ∃ x F, R x ((cs.drop (i * s)).take s) F ∧ p x) → ∃ xs F, xs.length = n ∧ RelL R xs cs F ∧ ∀ x, List.Mem x xs → p x
  | 0, cs, hl, _ => ⟨[], [], rfl, ⟨List.eq_nil_of_length_eq_zero (by simpa using hl), rfl⟩, fun x h => nomatch h⟩
  | n + 1, cs, hl, h => by
    obtain ⟨x, F, hx, px⟩ := h 0 (by omega)
    rw [Nat.succ_mul] at hl
    obtain ⟨xs, G, h1, h2, h3⟩ := chunks (R := R) (p := p) (s := s) n (cs.drop s) (by rw [List.length_drop]; omega) (fun i hi => by
      obtain ⟨x, F, hx, px⟩ := h (i + 1) (by omega)
      refine ⟨x, F, ?_, px⟩
      rw [List.drop_drop]
      rwa [Nat.succ_mul, Nat.add_comm] at hx)
    refine ⟨x :: xs, F ++ G, by rw [List.length_cons, h1], ⟨cs.take s, cs.drop s, F, G, (List.take_append_drop s cs).symm, rfl, by simpa using hx, h2⟩, fun y hy => ?_⟩
    cases hy with
    | head => exact px
    | tail _ h => exact h3 y h

theorem rows {α : Type} {R : α → List Value → List Nat → Prop} {p : α → Prop} {s : Nat} {w : World} {base b off : Nat} : ∀ (n : Nat), (∀ i, i < n → ∃ x F cs, w.cells? base (Addr.add ⟨b, off, none⟩ (i * s)) s = some cs ∧ R x cs F ∧ p x) →
    ∃ xs F mid, xs.length = n ∧ mid.length = n * s ∧ RelL R xs mid F ∧ (∀ x, List.Mem x xs → p x) ∧ ∀ k, k < n * s → w.cell? ⟨b, off + k, none⟩ = mid[k]?
  | 0, _ => ⟨[], [], [], rfl, by simp, ⟨rfl, rfl⟩, (fun x h => nomatch h), fun k hk => by simp at hk⟩
  | n + 1, h => by
    obtain ⟨xs, F, mid, h1, h2, h3, h4, h5⟩ := rows n (fun i hi => h i (by omega))
    obtain ⟨x, G, cs, hc, hx, px⟩ := h n (by omega)
    obtain ⟨_, hl, hcell⟩ := World.cells?_some hc
    refine ⟨xs ++ [x], F ++ G, mid ++ cs, by simp [h1], by rw [List.length_append, h2, hl, Nat.succ_mul], RelL.append h3 ⟨cs, [], G, [], by simp, by simp, hx, rfl, rfl⟩, fun y hy => ?_, fun k hk => ?_⟩
    · have : y ∈ xs ++ [x] := hy
      rcases List.mem_append.1 this with h | h
      · exact h4 y h
      · simp only [List.mem_singleton] at h; subst h; exact px
    · by_cases hk' : k < n * s
      · rw [List.getElem?_append_left (by omega)]; exact h5 k hk'
      · rw [Nat.succ_mul] at hk
        rw [List.getElem?_append_right (by omega), h2, ← hcell (k - n * s) (by omega)]
        rw [addr_add, addr_add]
        congr 2; omega

section
variable {H : Type} {enc : TypeId × Value → H} {P : Program} {w : World} {base : Nat} {spare : Nat → Bool} {held : Bool}
theorem open_rc : ∀ (m : Nat) {t : TypeId} {τ : Ty} {cs : List Value} {x : DataW H × List MemPlace}, DataW.trod enc P w base spare held m t cs = some x → TyP P t τ → ∃ y F, Rc (World.hf w) τ y cs F ∧ OkT τ y
  | 0, _, _, _, _, h, _ => by simp [DataW.trod] at h
  | m + 1, t, τ, cs, x, h, ht => by
    cases ht with
    | bool hu _ =>
      obtain ⟨b, rfl, _⟩ := DataW.trod_bool hu h
      exact ⟨b, [], ⟨rfl, rfl⟩, trivial⟩
    | int hu _ =>
      obtain ⟨n, rfl, _, hw⟩ := DataW.trod_int hu h
      exact ⟨n, [], ⟨rfl, rfl⟩, hw⟩
    | str hu _ =>
      obtain ⟨s, rfl, _, hw⟩ := DataW.trod_string hu h
      exact ⟨s, [], ⟨rfl, rfl⟩, hw⟩
    | @arr _ n e τ hu hc he =>
      obtain ⟨xs, m', hm, _, hl, hn, hx⟩ := DataW.trod_array hu h
      obtain rfl : m = m' := by omega
      rw [hc] at hl
      have hs := he.cells
      obtain ⟨ys, F, h1, h2, h3⟩ := chunks (R := Rc (World.hf w) τ) (p := OkT τ) n cs hl (fun i hi => by
        have h1 := hx i hi
        rw [hs, List.getElem?_eq_getElem (by omega)] at h1
        exact open_rc m h1 he)
      exact ⟨ys, F, ⟨h1, h2⟩, h1, h3⟩
    | @slice _ e τ hu hc hz he =>
      have hz' : 0 < τ.sz := by simpa using hz
      rcases DataW.trod_slice hu h with ⟨rfl, _⟩ | ⟨a, len, cap, elems, rest, m', hm, rfl, _, hb, hl, hcap, hlen, hel, _⟩
      · exact ⟨([] : List τ.D), [], ⟨Nat.zero_le _, .inl ⟨rfl, rfl, _, _, rfl⟩⟩, Nat.zero_le _, fun x h => nomatch h⟩
      · obtain rfl : m = m' := by omega
        have hs := he.cells
        obtain ⟨b, off, spot⟩ := a
        by_cases hl0 : len = 0
        · subst hl0
          exact ⟨([] : List τ.D), [], ⟨Nat.zero_le _, .inl ⟨rfl, rfl, _, _, rfl⟩⟩, Nat.zero_le _, fun x h => nomatch h⟩
        have hsp : spot = none := by
          have h1 := hel 0 (by omega)
          rw [hs, List.getElem?_eq_getElem (by omega)] at h1
          obtain ⟨cs', hc1, _⟩ := Option.bind_eq_some_iff.1 h1
          obtain ⟨_, hcl, hcc⟩ := World.cells?_some hc1
          have h2 := hcc 0 hz'
          rw [List.getElem?_eq_getElem (by omega)] at h2
          have h3 := World.cell?_spot h2
          unfold Addr.add at h3
          simpa using h3
        subst hsp
        obtain ⟨ys, F, mid, h1, h2, h3, h4, h5⟩ := rows (R := Rc (World.hf w) τ) (p := OkT τ) (s := τ.sz) (w := w) (base := base) (b := b) (off := off) len (fun i hi => by
          have h1 := hel i hi
          rw [hs, List.getElem?_eq_getElem (by omega)] at h1
          obtain ⟨cs', hc1, hc2⟩ := Option.bind_eq_some_iff.1 h1
          obtain ⟨y, F, hy, py⟩ := open_rc m hc2 he
          exact ⟨y, F, cs', hc1, hy, py⟩)
        have hlim : ys.length ≤ lim := by rw [h1]; unfold maxLen at hcap; unfold lim; omega
        cases ys with
        | nil =>
          simp only [List.length_nil] at h1
          subst h1
          exact ⟨([] : List τ.D), [], ⟨Nat.zero_le _, .inl ⟨rfl, rfl, _, _, rfl⟩⟩, Nat.zero_le _, fun x h => nomatch h⟩
        | cons y ys =>
          have hpos : 0 < len := by rw [← h1]; simp
          have hpos2 : 0 < len * τ.sz := Nat.mul_pos hpos hz'
          have hc0 := h5 0 hpos2
          rw [List.getElem?_eq_getElem (by omega)] at hc0
          have hblk : ∃ c T z, w.heap[b]? = some (.cells c T z) := by
            unfold World.cell? at hc0
            cases hh : w.heap[b]? with
            | none => simp [hh] at hc0
            | some o =>
              cases o with
              | cells c T z => exact ⟨c, T, z, rfl⟩
              | _ => simp [hh] at hc0
          obtain ⟨c, T, z, hblk⟩ := hblk
          have hcell : ∀ k, k < len * τ.sz → c.toList[off + k]? = mid[k]? := fun k hk => by
            have := h5 k hk
            unfold World.cell? at this
            simp only [hblk, Option.isSome_none, Bool.false_eq_true, if_false] at this
            rw [← this]; simp
          have hmid : c.toList = c.toList.take off ++ (mid ++ c.toList.drop (off + mid.length)) := by
            apply List.ext_getElem?
            intro i
            have hoff : off + mid.length ≤ c.toList.length := by
              have := hcell (len * τ.sz - 1) (by omega)
              rw [List.getElem?_eq_getElem (l := mid) (by omega)] at this
              have := (List.getElem?_eq_some_iff.1 this).1
              omega
            by_cases hi : i < off
            · rw [List.getElem?_append_left (by rw [List.length_take]; omega), List.getElem?_take_of_lt hi]
            · rw [List.getElem?_append_right (by rw [List.length_take]; omega), List.length_take, Nat.min_eq_left (by omega)]
              by_cases hi2 : i - off < mid.length
              · rw [List.getElem?_append_left hi2, ← hcell (i - off) (by omega)]
                congr 1; omega
              · rw [List.getElem?_append_right (by omega), List.getElem?_drop]
                congr 1; omega
          have hoff : off ≤ c.toList.length := by
            have := hcell 0 hpos2
            rw [List.getElem?_eq_getElem (l := mid) (by omega)] at this
            have := (List.getElem?_eq_some_iff.1 this).1
            omega
          refine ⟨y :: ys, b :: F, ⟨hlim, .inr ⟨b, off, cap - len, F, ?_, rfl, c, T, z, _, mid, _, hblk, hmid, by rw [List.length_take]; omega, h3⟩⟩, hlim, h4⟩
          have h1' : List.length (α := τ.D) (y :: ys) = len := h1
          rw [h1']
          congr 3
          omega
    | @struct _ fs τ hu hc hf ha =>
      obtain ⟨xs, m', hm, _, hl, hn, hx⟩ := DataW.trod_struct hu h
      obtain rfl : m = m' := by omega
      rw [hc] at hl
      have key : ∀ (l : List Field) (o : Nat) (σ : Ty), TyF P o l σ → (∀ f ∈ l, ∃ y, DataW.trod enc P w base spare held m f.type ((cs.drop f.offset).take (P.cellsOf f.type)) = some y) → cs.length = o + σ.sz → ∃ y F, Rc (World.hf w) σ y (cs.drop o) F ∧ OkT σ y := by
        intro l
        induction l with
        | nil =>
          intro o σ hσ _ hlen
          cases hσ
          exact ⟨(), [], ⟨List.drop_eq_nil_of_le (by simp [Ty.sz] at hlen; omega), rfl⟩, trivial⟩
        | cons f l ih =>
          intro o σ hσ hf hlen
          cases hσ with
          | @cons _ _ _ a b ho hta htb =>
            simp only [Ty.sz] at hlen
            obtain ⟨y, hy⟩ := hf f (by simp)
            obtain ⟨y1, F1, r1, o1⟩ := open_rc m hy hta
            obtain ⟨y2, F2, r2, o2⟩ := ih (o + a.sz) b htb (fun f hf' => hf f (List.mem_cons_of_mem _ hf')) (by omega)
            rw [ho, hta.cells] at r1
            refine ⟨(y1, y2), F1 ++ F2, ⟨_, _, F1, F2, ?_, rfl, r1, r2⟩, o1, o2⟩
            rw [← List.drop_drop]
            exact (List.take_append_drop _ _).symm
      have := key fs.toList 0 τ hf (fun f hf => by
        obtain ⟨i, hi, he⟩ := List.getElem_of_mem hf
        have h1 := hx i f (by rw [← Array.getElem?_toList, List.getElem?_eq_getElem hi, he])
        rw [List.getElem?_eq_getElem (by rw [hn]; simpa using hi)] at h1
        exact ⟨_, h1⟩) (by omega)
      simpa using this
end
end Go.GA
