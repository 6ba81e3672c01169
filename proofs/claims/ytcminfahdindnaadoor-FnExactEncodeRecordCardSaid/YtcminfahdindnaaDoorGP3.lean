/- Plain laws: what holds at each round of a loop. -/
import Derived.Test.YtcminfahdindnaaDoorGP2
namespace Go.GA
/-- what holds at each round of a loop -/
theorem cnt_ind {S R : Type} {f : Int → S → (S → R) → (Int → S → R) → R} {k : Int → S → R} (n : Nat) (I : Nat → S → Prop) (Q : R → Prop) (hk : ∀ s, I n s → Q (k (n : Int) s)) (hf : ∀ (i : Nat) s c, i < n → I i s → (∀ s', I (i + 1) s' → Q (c s')) → Q (f (i : Int) s c k)) :
    ∀ (d i : Nat) (s : S), d + i = n → I i s → Q (cnt f k d (i : Int) s)
  | 0, i, s, h, hi => by
    obtain rfl : i = n := by omega
    exact hk s hi
  | d + 1, i, s, h, hi => by
    refine hf i s _ (by omega) hi (fun s' hs' => ?_)
    have := cnt_ind n I Q hk hf d (i + 1) s' (by omega) hs'
    simpa using this
theorem cnt_ind0 {S R : Type} {f : Int → S → (S → R) → (Int → S → R) → R} {k : Int → S → R} {d : Nat} {s : S} (n : Nat) (I : Nat → S → Prop) (Q : R → Prop) (hd : d = n) (h0 : I 0 s) (hk : ∀ s, I n s → Q (k (n : Int) s)) (hf : ∀ (i : Nat) s c, i < n → I i s → (∀ s', I (i + 1) s' → Q (c s')) → Q (f (i : Int) s c k)) : Q (cnt f k d 0 s) := by
  have := cnt_ind n I Q hk hf d 0 s (by omega) h0
  simpa using this
/-- two loops that are alike where they run -/
theorem cnt_congr_n {S R : Type} {f g : Int → S → (S → R) → (Int → S → R) → R} {k : Int → S → R} {d : Nat} {s : S} (n : Nat) (hd : d = n) (h : ∀ (i : Nat) s c, i < n → f (i : Int) s c k = g (i : Int) s c k) : cnt f k d 0 s = cnt g k d 0 s := by
  have key : ∀ (d i : Nat) (s : S), d + i = n → cnt f k d (i : Int) s = cnt g k d (i : Int) s := by
    intro d
    induction d with
    | zero => intro i s _; rfl
    | succ d ih =>
      intro i s hi
      show f (i : Int) s _ k = g (i : Int) s _ k
      rw [h i s _ (by omega)]
      congr 1
      funext s'
      have := ih (i + 1) s' (by omega)
      simpa using this
  have := key d 0 s (by omega)
  simpa using this
end Go.GA
