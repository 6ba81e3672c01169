/- Plain law of FnStrings: sums of texts; a byte that is changed. -/
import Derived.Test.YtigjhapmgaejnaaDoorNKb
namespace Go.GA
open Go
set_option maxRecDepth 100000
/-- one step of the sum -/
def sst (h : Nat) (b : UInt8) : Nat := (41 * h + b.toNat + 1) % 999979
def sm (l : List UInt8) : Nat := l.foldl sst 7
theorem sst_lt (h : Nat) (b : UInt8) : sst h b < 999979 := Nat.mod_lt _ (by decide)
theorem sm_lt (l : List UInt8) : sm l < 999979 := by
  unfold sm
  suffices ∀ (l : List UInt8) (h : Nat), h < 999979 → l.foldl sst h < 999979 from this l 7 (by decide)
  intro l
  induction l with
  | nil => exact fun h hh => hh
  | cons b l ih => exact fun h _ => ih _ (sst_lt h b)
theorem sst_inj {h h' : Nat} (b : UInt8) (h1 : h < 999979) (h2 : h' < 999979) (e : sst h b = sst h' b) : h = h' := by
  unfold sst at e
  generalize b.toNat = c at e
  omega
theorem sst_byte {h : Nat} {b b' : UInt8} (e : sst h b = sst h b') : b = b' := by
  unfold sst at e
  have h1 := UInt8.toNat_lt b
  have h2 := UInt8.toNat_lt b'
  refine UInt8.toNat_inj.1 ?_
  generalize b.toNat = c at *
  generalize b'.toNat = c' at *
  omega
theorem fold_inj (l : List UInt8) : ∀ {h h' : Nat}, h < 999979 → h' < 999979 → l.foldl sst h = l.foldl sst h' → h = h' := by
  induction l with
  | nil => exact fun _ _ e => e
  | cons b l ih => exact fun h1 h2 e => sst_inj b h1 h2 (ih (sst_lt _ b) (sst_lt _ b) e)
theorem sm_set (l : List UInt8) (k : Nat) (b : UInt8) (hk : k < l.length) (e : sm (l.set k b) = sm l) : b = l[k] := by
  unfold sm at e
  suffices ∀ (l : List UInt8) (k : Nat) (h : Nat) (hk : k < l.length), (l.set k b).foldl sst h = l.foldl sst h → b = l[k] from this l k 7 hk e
  intro l
  induction l with
  | nil => intro k h hk; simp at hk
  | cons c l ih =>
    intro k h hk e
    cases k with
    | zero => exact sst_byte (fold_inj l (sst_lt _ _) (sst_lt _ _) e)
    | succ k => exact ih k _ (by simpa using hk) e
theorem dec_ne35 {n : Nat} : ∀ y ∈ Lib.decDigits n, y ≠ 35 := fun y hy e => by
  have := dec_digit hy
  subst e
  have h2 : (35 : UInt8).toNat = 35 := rfl
  omega
theorem ofNat_dig {a b : Nat} (ha : a < 10) (hb : b < 10) (h : UInt8.ofNat (48 + a) = UInt8.ofNat (48 + b)) : a = b := by
  have h1 : (UInt8.ofNat (48 + a)).toNat = 48 + a := by rw [UInt8.toNat_ofNat']; omega
  have h2 : (UInt8.ofNat (48 + b)).toNat = 48 + b := by rw [UInt8.toNat_ofNat']; omega
  rw [h] at h1
  omega
theorem dec_pos (n : Nat) : 1 ≤ (Lib.decDigits n).length := by
  rw [Lib.decDigits]
  split <;> simp
theorem dec_inj : ∀ (n m : Nat), Lib.decDigits n = Lib.decDigits m → n = m := by
  intro n
  induction n using Nat.strongRecOn with
  | _ n ih =>
    intro m h
    have hn := dec_pos (n / 10)
    have hm := dec_pos (m / 10)
    rw [Lib.decDigits.eq_def n, Lib.decDigits.eq_def m] at h
    split at h
    · split at h
      · rename_i h1 h2
        exact ofNat_dig h1 h2 (List.singleton_inj.1 h)
      · have := congrArg List.length h
        simp only [List.length_append, List.length_cons, List.length_nil] at this
        omega
    · split at h
      · have := congrArg List.length h
        simp only [List.length_append, List.length_cons, List.length_nil] at this
        omega
      · rename_i h1 h2
        obtain ⟨e1, e2⟩ := List.append_inj' h rfl
        have := ih (n / 10) (by omega) _ e1
        have h3 := ofNat_dig (Nat.mod_lt n (by decide)) (Nat.mod_lt m (by decide)) (List.singleton_inj.1 e2)
        omega
/-- a text with its sum behind it -/
def sealL (l : List UInt8) : List UInt8 := l ++ 35 :: Lib.decDigits (sm l)
theorem seal_at {l : List UInt8} (hl : ∀ y ∈ l, y ≠ 35) {i : Nat} : (sealL l)[i]? = some 35 ↔ i = l.length := by
  unfold sealL
  constructor
  · intro h
    rcases Nat.lt_trichotomy i l.length with h1 | h1 | h1
    · rw [List.getElem?_append_left h1] at h
      exact absurd rfl (hl 35 (List.mem_of_getElem? h))
    · exact h1
    · rw [List.getElem?_append_right (by omega), show i - l.length = (i - l.length - 1) + 1 by omega, List.getElem?_cons_succ] at h
      exact absurd rfl (dec_ne35 35 (List.mem_of_getElem? h))
  · rintro rfl
    simp
theorem seal_changed {x t : List UInt8} (hx : ∀ y ∈ x, y ≠ 35) (ht : ∀ y ∈ t, y ≠ 35) {k : Nat} {b : UInt8} (hk : k < (sealL x).length) (hb : b ≠ (sealL x)[k]) (e : sealL t = (sealL x).set k b) : False := by
  have hlen : t.length = x.length := by
    refine Classical.byContradiction fun hne => ?_
    have h1 : (sealL t)[t.length]? = some 35 := (seal_at ht).2 rfl
    have h2 : (sealL x)[x.length]? = some 35 := (seal_at hx).2 rfl
    have h3 : k = t.length := by
      refine Classical.byContradiction fun h => ?_
      rw [e, List.getElem?_set_ne h] at h1
      exact hne ((seal_at hx).1 h1)
    have h4 : k = x.length := by
      refine Classical.byContradiction fun h => ?_
      have : (sealL t)[x.length]? = some 35 := by rw [e, List.getElem?_set_ne h]; exact h2
      exact hne ((seal_at ht).1 this).symm
    exact hne (h3.symm.trans h4)
  have hkx : k ≠ x.length := fun h => by
    subst h
    have h1 : (sealL t)[t.length]? = some 35 := (seal_at ht).2 rfl
    rw [hlen, e, List.getElem?_set_self hk] at h1
    have h2 : (sealL x)[x.length]? = some 35 := (seal_at hx).2 rfl
    rw [List.getElem?_eq_getElem hk] at h2
    exact hb ((Option.some.inj h1).trans (Option.some.inj h2).symm)
  by_cases hlt : k < x.length
  · have e2 : (sealL x).set k b = x.set k b ++ 35 :: Lib.decDigits (sm x) := by
      unfold sealL; rw [List.set_append_left _ _ hlt]
    rw [e2] at e
    obtain ⟨e3, e4⟩ := List.append_inj e (by rw [List.length_set, hlen])
    have e5 := dec_inj _ _ (List.cons.inj e4).2
    rw [e3] at e5
    have := sm_set x k b hlt e5
    apply hb
    rw [this]
    simp [sealL, List.getElem_append_left hlt]
  · have e2 : (sealL x).set k b = x ++ (35 :: Lib.decDigits (sm x)).set (k - x.length) b := by
      unfold sealL; rw [List.set_append_right _ _ (by omega)]
    have e' := e
    rw [e2] at e'
    obtain ⟨e3, _⟩ := List.append_inj e' hlen
    rw [e3] at e
    have h1 : (sealL x)[k]? = some b := by
      have := congrArg (fun l => l[k]?) e
      rw [List.getElem?_set_self hk] at this
      exact this
    rw [List.getElem?_eq_getElem hk] at h1
    exact hb (Option.some.inj h1).symm
end Go.GA
