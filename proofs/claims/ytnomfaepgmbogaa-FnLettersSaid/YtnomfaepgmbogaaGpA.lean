/- Plain laws of the loops that the printed functions are told by. -/
import Derived.Test.YtnomfaepgmbogaaGaC
import Derived.Test.YtnomfaepgmbogaaGaD
import Derived.Lib.ItoaLen
import Derived.Lib.ItoaMem
section
namespace Go.GA
/-- a loop over a list -/
def lrun {α S R : Type} (F : α → S → (S → R) → R) (k : S → R) : List α → S → R
  | [], s => k s
  | x :: xs, s => F x s (fun s' => lrun F k xs s')
theorem cnt_list_aux {α S R : Type} {f : Int → S → (S → R) → (Int → S → R) → R} {k : Int → S → R} (F : α → S → (S → R) → R) (xs : List α) (dflt : α) (hf : ∀ i s c, 0 ≤ i → i < (xs.length : Int) → f i s c k = F (xs.getD i.toNat dflt) s c) :
    ∀ (d : Nat) (i : Nat) (s : S), d + i = xs.length → cnt f k d (i : Int) s = lrun F (k xs.length) (xs.drop i) s
  | 0, i, s, h => by
    have : xs.drop i = [] := List.drop_eq_nil_of_le (by omega)
    rw [this]
    obtain rfl : i = xs.length := by omega
    rfl
  | d + 1, i, s, h => by
    have hi : i < xs.length := by omega
    rw [List.drop_eq_getElem_cons hi]
    show f (i : Int) s _ k = F xs[i] s _
    rw [hf (i : Int) s _ (by omega) (by omega)]
    have e : xs.getD (i : Int).toNat dflt = xs[i] := by simp [hi]
    rw [e]
    congr 1
    funext s'
    have := cnt_list_aux F xs dflt hf d (i + 1) s' (by omega)
    simpa using this
theorem cnt_list {α S R : Type} {f : Int → S → (S → R) → (Int → S → R) → R} {k : Int → S → R} (F : α → S → (S → R) → R) (xs : List α) (dflt : α) {d : Nat} {s : S} (hd : d = xs.length) (hf : ∀ i s c, 0 ≤ i → i < (xs.length : Int) → f i s c k = F (xs.getD i.toNat dflt) s c) :
    cnt f k d 0 s = lrun F (k xs.length) xs s := by
  have := cnt_list_aux F xs dflt hf d 0 s (by omega)
  simpa using this
theorem lrun_fold {α S R : Type} (G : α → S → S) (k : S → R) : ∀ (xs : List α) (s : S), lrun (fun x s c => c (G x s)) k xs s = k (xs.foldl (fun s x => G x s) s)
  | [], s => rfl
  | x :: xs, s => lrun_fold G k xs (G x s)
theorem cnt_congr {S R : Type} {f g : Int → S → (S → R) → (Int → S → R) → R} {k : Int → S → R} (h : ∀ i s c, f i s c k = g i s c k) : ∀ (d : Nat) (i : Int) (s : S), cnt f k d i s = cnt g k d i s
  | 0, i, s => rfl
  | d + 1, i, s => by
    show f i s _ k = g i s _ k
    rw [h]; congr 1; funext s'; exact cnt_congr h d (i + 1) s'
theorem len6 {α : Type} {x : List α} (h : x.length = 6) : ∃ a b c d e f, x = [a, b, c, d, e, f] := by
  match x, h with
  | [a, b, c, d, e, f], _ => exact ⟨a, b, c, d, e, f, rfl⟩
end Go.GA
namespace Go.GA
theorem cnt_find {α : Type} (b : α → Bool) (dflt : α) (xs : List α) : ∀ (d i : Nat), d + i = xs.length →
    decide (0 ≤ cnt (fun i (s : Unit) c _ => if b (xs.getD i.toNat dflt) = true then i else c ()) (fun _ _ => (-1 : Int)) d (i : Int) ()) = (xs.drop i).any b
  | 0, i, h => by rw [List.drop_eq_nil_of_le (by omega)]; rfl
  | d + 1, i, h => by
    have h1 : i < xs.length := by omega
    have := cnt_find b dflt xs d (i + 1) (by omega)
    simp only [cnt]
    rw [List.drop_eq_getElem_cons h1, List.any_cons, ← this]
    simp only [Int.toNat_natCast, List.getD_eq_getElem?_getD, List.getElem?_eq_getElem h1, Option.getD_some]
    by_cases he : b xs[i] = true
    · simp only [he, if_true, Bool.true_or, decide_eq_true_eq]; omega
    · simp only [he]; simp
end Go.GA
end
section
namespace Go.GA
/-- neighbours alike, once -/
def dd : List Int → List Int
  | [] => []
  | x :: l => match l with
    | [] => [x]
    | y :: _ => if x = y then dd l else x :: dd l
end Go.GA
end
section
namespace Go.GA
/-- what holds at each round of a loop -/
theorem cnt_ind {S R : Type} {f : Int → S → (S → R) → (Int → S → R) → R} {k : Int → S → R} (n : Nat) (I : Nat → S → Prop) (Q : R → Prop) (hk : ∀ s, I n s → Q (k (n : Int) s)) (hf : ∀ (i : Nat) s c, i < n → I i s → (∀ s', I (i + 1) s' → Q (c s')) → Q (f (i : Int) s c k)) :
    ∀ (d i : Nat) (s : S), d + i = n → I i s → Q (cnt f k d (i : Int) s)
  | 0, i, s, h, hi => by
    obtain rfl : i = n := by omega
    exact hk s hi
  | d + 1, i, s, h, hi => by
    refine hf i s _ (by omega) hi (fun s' hs' => ?_)
    have := cnt_ind n I Q hk hf d (i + 1) s' (by omega) hs'
    simpa using this
theorem cnt_ind0 {S R : Type} {f : Int → S → (S → R) → (Int → S → R) → R} {k : Int → S → R} {d : Nat} {s : S} (n : Nat) (I : Nat → S → Prop) (Q : R → Prop) (hd : d = n) (h0 : I 0 s) (hk : ∀ s, I n s → Q (k (n : Int) s)) (hf : ∀ (i : Nat) s c, i < n → I i s → (∀ s', I (i + 1) s' → Q (c s')) → Q (f (i : Int) s c k)) : Q (cnt f k d 0 s) := by
  have := cnt_ind n I Q hk hf d 0 s (by omega) h0
  simpa using this
end Go.GA
end
section
namespace Go.GA
open Go
end Go.GA
end
section
namespace Go.GA
open Go
end Go.GA
end
section
namespace Go.GA
open Go
theorem anyI (x1 : Int) (xs : List Int) : decide (0 ≤ cnt (fun i2 (s1 : Unit) c3 _ => (if x1 = (xs.getD i2.toNat 0) then i2 else c3 ())) (fun i2 (s1 : Unit) => (-1 : Int)) (Int.toNat ((xs.length : Int) - 0)) 0 ()) = xs.any (fun y => decide (x1 = y)) := by
  have h := cnt_find (fun y => decide (x1 = y)) (0 : Int) xs xs.length 0 (by omega)
  rw [cnt_congr (g := fun i (s : Unit) c _ => if (fun y => decide (x1 = y)) (xs.getD i.toNat 0) = true then i else c ()) (fun i s c => by
    show (if x1 = xs.getD i.toNat 0 then i else c ()) = if decide (x1 = xs.getD i.toNat 0) = true then i else c ()
    by_cases hh : x1 = xs.getD i.toNat 0
    · rw [if_pos hh, if_pos (decide_eq_true hh)]
    · rw [if_neg hh, if_neg (by simpa using hh)])]
  simp only [Int.sub_zero, Int.toNat_natCast]
  simp only [Int.natCast_zero, List.drop_zero] at h
  exact h
end Go.GA
end
section
namespace Go.GA
open Go
/-- v more at the place j -/
def addAt (s : List Int) (j : Nat) (v : Int) : List Int := s.set j (s.getD j 0 + v)
def inner (i : Nat) (v : Int) (d : List Int) (s : List Int) : List Int := d.foldl (fun s f => addAt s (i + f.toNat) v) s
/-- the table with one die more: from the sum i on -/
def convL (T d : List Int) (l : List Nat) (s : List Int) : List Int := l.foldl (fun s i => inner i (T.getD i 0) d s) s
def conv (T d : List Int) : List Int := convL T d (List.range 121) (List.replicate 121 0)
def NN (s : List Int) : Prop := ∀ j, 0 ≤ s.getD j 0
end Go.GA
end
section
namespace Go.GA
open Go
set_option maxRecDepth 10000
/-- a table of m dice -/
structure Tab (m : Nat) (T : List Int) : Prop where
  len : T.length = 121
  nn : NN T
  sum : T.sum = ((6 ^ m : Nat) : Int)
  supp : ∀ j, 30 * m < j → T.getD j 0 = 0
end Go.GA
end
section
namespace Go.GA
open Go
set_option maxRecDepth 10000
/-- entries weighed by g from the place j on -/
def momL (g : Int → Int) : Int → List Int → Int
  | _, [] => 0
  | j, x :: l => g j * x + momL g (j + 1) l
def mom (g : Int → Int) (T : List Int) : Int := momL g 0 T
def sq (d : List Int) : Int := (d.map (fun f => f * f)).sum
def m1 (T : List Int) : Int := mom (fun i => i) T
def m2 (T : List Int) : Int := mom (fun i => i * i) T
/-! ### bounds -/
end Go.GA
end
section
namespace Go.GA
open Go
set_option maxRecDepth 10000
/-- a die of six faces in order -/
def Die6 (d : List Int) : Prop := ∃ a b c e f g, d = [a, b, c, e, f, g] ∧ 0 ≤ a ∧ a ≤ b ∧ b ≤ c ∧ c ≤ e ∧ e ≤ f ∧ f ≤ g ∧ g ≤ 30
theorem Die6.len {d : List Int} (h : Die6 d) : d.length = 6 := by obtain ⟨a, b, c, e, f, g, rfl, _⟩ := h; rfl
theorem Die6.sum {d : List Int} (h : Die6 d) : 0 ≤ d.sum ∧ d.sum ≤ 180 ∧ 0 ≤ sq d ∧ sq d ≤ 5400 := by
  obtain ⟨a, b, c, e, f, g, rfl, h⟩ := h
  have e1 : sq [a, b, c, e, f, g] = a * a + b * b + c * c + e * e + f * f + g * g := by simp [sq]; omega
  have e2 : [a, b, c, e, f, g].sum = a + b + c + e + f + g := by simp; omega
  rw [e1, e2]
  have k : ∀ z : Int, 0 ≤ z → z ≤ 30 → 0 ≤ z * z ∧ z * z ≤ 900 := fun z h0 h1 => ⟨Int.mul_nonneg h0 h0, by have := Int.mul_le_mul h1 h1 h0 (by omega); omega⟩
  have := k a (by omega) (by omega)
  have := k b (by omega) (by omega)
  have := k c (by omega) (by omega)
  have := k e (by omega) (by omega)
  have := k f (by omega) (by omega)
  have := k g (by omega) (by omega)
  omega
/-- what is known of the table T of dice with the sum A, the spread V and the bounds lo, hi -/
structure TM (T : List Int) (A V lo hi : Int) : Prop where
  a : 6 * m1 T = T.sum * A
  v : 36 * (m2 T * T.sum - m1 T * m1 T) = T.sum * T.sum * V
  l0 : 0 ≤ lo
  lh : lo ≤ hi
  lo1 : 1 ≤ T.getD lo.toNat 0
  hi1 : 1 ≤ T.getD hi.toNat 0
  out : ∀ s : Nat, T.getD s 0 ≠ 0 → lo ≤ s ∧ (s : Int) ≤ hi
  an : 0 ≤ A
  vn : 0 ≤ V
/-! ### tails -/
end Go.GA
end
section
namespace Go.GA
def seedF (s : Nat) : Nat := s * 6364136223846793005 + 462197
def itN (f : Nat → Nat) : Nat → Nat → Nat
  | 0, s => s
  | j + 1, s => itN f j (f s)
theorem itN_succ (f : Nat → Nat) (j s : Nat) : itN f (j + 1) s = itN f j (f s) := rfl
theorem itN_zero (f : Nat → Nat) (s : Nat) : itN f 0 s = s := rfl
theorem itN_add (f : Nat → Nat) : ∀ (i j s : Nat), itN f (i + j) s = itN f j (itN f i s)
  | 0, j, s => by rw [Nat.zero_add, itN_zero]
  | i + 1, j, s => by
    rw [show i + 1 + j = (i + j) + 1 by omega, itN_succ, itN_succ]
    exact itN_add f i j (f s)
abbrev seedI : Nat → Nat → Nat := itN seedF
theorem seedI_add (i j s : Nat) : seedI (i + j) s = seedI j (seedI i s) := itN_add seedF i j s
/-- after 2 ^ k steps -/
theorem seed_aff : ∀ k : Nat, ∃ u v : Nat, ∀ s, seedI (2 ^ k) s = (1 + 2 ^ (k + 2) * u) * s + 2 ^ k * (1 + 2 * v)
  | 0 => ⟨1591034055961698251, 231098, fun s => by
    rw [show 2 ^ 0 = 0 + 1 from rfl, seedI, itN_succ, itN_zero]
    unfold seedF
    omega⟩
  | k + 1 => by
    obtain ⟨u, v, h⟩ := seed_aff k
    refine ⟨u + 2 ^ (k + 1) * u * u, v + 2 ^ k * u * (1 + 2 * v), fun s => ?_⟩
    rw [show 2 ^ (k + 1) = 2 ^ k + 2 ^ k by rw [Nat.pow_succ]; omega, seedI_add, h, h]
    have e1 : 2 ^ (k + 2) = 4 * 2 ^ k := by rw [Nat.pow_succ, Nat.pow_succ]; omega
    have e3 : 2 ^ (k + 1 + 2) = 8 * 2 ^ k := by rw [Nat.pow_succ, Nat.pow_succ, Nat.pow_succ]; omega
    rw [e1, e3]
    generalize 2 ^ k = p
    grind
/-- each number comes -/
theorem seed_reach (s T : Nat) : ∀ k : Nat, ∃ j, j < 2 ^ k ∧ seedI j s % 2 ^ k = T % 2 ^ k
  | 0 => ⟨0, by simp, by simp [Nat.mod_one]⟩
  | k + 1 => by
    obtain ⟨j, hj, e⟩ := seed_reach s T k
    have hp : 2 ^ (k + 1) = 2 * 2 ^ k := by rw [Nat.pow_succ]; omega
    by_cases hc : seedI j s % 2 ^ (k + 1) = T % 2 ^ (k + 1)
    · exact ⟨j, by omega, hc⟩
    · refine ⟨j + 2 ^ k, by omega, ?_⟩
      obtain ⟨u, v, h⟩ := seed_aff k
      rw [seedI_add, h]
      generalize seedI j s = x at *
      have e1 : 2 ^ (k + 2) = 2 * 2 ^ (k + 1) := by rw [Nat.pow_succ]; omega
      have e2 : (1 + 2 ^ (k + 2) * u) * x + 2 ^ k * (1 + 2 * v) = x + 2 ^ k + 2 ^ (k + 1) * (2 * u * x + v) := by
        rw [e1, hp]
        generalize 2 ^ k = p
        grind
      rw [e2, Nat.add_mul_mod_self_left]
      rw [hp] at hc ⊢
      have h1 := Nat.mod_mul (x := x) (a := 2 ^ k) (b := 2)
      have h2 := Nat.mod_mul (x := T) (a := 2 ^ k) (b := 2)
      have h3 := Nat.mod_mul (x := x + 2 ^ k) (a := 2 ^ k) (b := 2)
      have hp0 : 0 < 2 ^ k := Nat.pow_pos (by omega)
      rw [Nat.mul_comm 2 (2 ^ k)] at hc ⊢
      rw [Nat.add_mod_right, Nat.add_div_right _ hp0] at h3
      rw [h1, h2] at hc
      rw [h3, h2]
      have m1 : x / 2 ^ k % 2 < 2 := Nat.mod_lt _ (by omega)
      have m2 : T / 2 ^ k % 2 < 2 := Nat.mod_lt _ (by omega)
      rw [e] at hc ⊢
      have hne : x / 2 ^ k % 2 ≠ T / 2 ^ k % 2 := fun hh => hc (by rw [hh])
      have : (x / 2 ^ k).succ % 2 = T / 2 ^ k % 2 := by omega
      rw [this]
/-- the seed is kept modulo 2 ^ 64 -/
def seedM (s : Nat) : Nat := seedF s % 18446744073709551616
abbrev seedJ : Nat → Nat → Nat := itN seedM
theorem seedM_mod (a b : Nat) (h : a % 18446744073709551616 = b % 18446744073709551616) : seedM a = seedM b := by
  unfold seedM seedF
  omega
theorem seedJ_eq : ∀ (j s t : Nat), s % 18446744073709551616 = t % 18446744073709551616 → seedJ j s % 18446744073709551616 = seedI j t % 18446744073709551616
  | 0, s, t, h => by rw [seedJ, seedI, itN_zero, itN_zero]; exact h
  | j + 1, s, t, h => by
    rw [seedJ, seedI, itN_succ, itN_succ]
    refine seedJ_eq j (seedM s) (seedF t) ?_
    rw [seedM_mod s t h]
    unfold seedM
    exact Nat.mod_mod _ _
/-- what is drawn from a seed -/
def seedV (s : Nat) : Nat := s / 1099511627776 % 256
theorem seedV_of (y i : Nat) (hi : i < 256) (h : y % 281474976710656 = i * 1099511627776) : seedV y = i := by
  unfold seedV
  omega
theorem seed_hit (s i : Nat) (hi : i < 256) : ∃ j, j < 2 ^ 48 ∧ seedV (seedJ (j + 1) s) = i := by
  obtain ⟨j, hj, e⟩ := seed_reach (seedF s) (i * 1099511627776) 48
  refine ⟨j, hj, seedV_of _ i hi ?_⟩
  have h1 := seedJ_eq (j + 1) s s rfl
  rw [seedI, itN_succ] at h1
  rw [show (2 : Nat) ^ 48 = 281474976710656 by decide] at e
  simp only [seedI, seedJ] at h1 e ⊢
  generalize itN seedM (j + 1) s = y at h1 ⊢
  generalize itN seedF j (seedF s) = z at h1 e
  omega
end Go.GA
end
