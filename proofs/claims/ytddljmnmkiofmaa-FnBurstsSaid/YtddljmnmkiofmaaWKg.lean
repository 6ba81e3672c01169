/- Plain law of FnBursts: tables of explosions. -/
import Derived.Test.YtddljmnmkiofmaaWKf
namespace Go.GA.E
open Go
set_option maxRecDepth 100000
def Fa (x : List Int) : Prop := ∀ f ∈ x, 0 ≤ f ∧ f ≤ 30
theorem die_fa {x : List Int} (hd : p_impl_IsDie x = true) : Fa x := fun f hf => by
  unfold p_impl_IsDie at hd
  simp only [Bool.and_eq_true, areAll_eq] at hd
  have := List.all_eq_true.1 hd.1 f hf
  rw [within_eq, decide_eq_true_eq] at this
  exact this
/-! ### what is added, face by face -/
def Bt (x : List Int) (top : Int) : Nat → Nat → List Int → List Int
  | 0, s, T => x.foldl (fun T f => addAt T (s + f.toNat) 1) T
  | l + 1, s, T => x.foldl (fun T f => if f = top then Bt x top l (s + f.toNat) T else addAt T (s + f.toNat) ((6 ^ (l + 1) : Nat) : Int)) T
/-- a measure of tables that grows evenly -/
structure Lin (φ : List Int → Int) (g : Nat → Int) : Prop where
  add : ∀ (T : List Int) (j : Nat) (v : Int), T.length = 121 → j < 121 → φ (addAt T j v) = φ T + v * g j
def cF (x : List Int) (top : Int) (g : Nat → Int) : Nat → Nat → Int
  | 0, s => (x.map (fun f => g (s + f.toNat))).sum
  | l + 1, s => (x.map (fun f => if f = top then cF x top g l (s + f.toNat) else ((6 ^ (l + 1) : Nat) : Int) * g (s + f.toNat))).sum
theorem fold_lin {φ : List Int → Int} (step : List Int → Int → List Int) (c : Int → Int) : ∀ (y : List Int) (T : List Int), (∀ f ∈ y, ∀ T, T.length = 121 → (step T f).length = 121 ∧ φ (step T f) = φ T + c f) → T.length = 121 → (y.foldl step T).length = 121 ∧ φ (y.foldl step T) = φ T + (y.map c).sum
  | [], T, _, hT => ⟨hT, by simp⟩
  | f :: y, T, h, hT => by
    obtain ⟨h1, h2⟩ := h f (by simp) T hT
    obtain ⟨h3, h4⟩ := fold_lin step c y (step T f) (fun g hg => h g (by simp [hg])) h1
    refine ⟨h3, ?_⟩
    rw [List.foldl_cons, h4, h2, List.map_cons, List.sum_cons]; omega
theorem bt_lin {x : List Int} (hx : Fa x) (top : Int) {φ : List Int → Int} {g : Nat → Int} (L : Lin φ g) : ∀ (l s : Nat) (T : List Int), T.length = 121 → s + 30 * (l + 1) ≤ 120 → (Bt x top l s T).length = 121 ∧ φ (Bt x top l s T) = φ T + cF x top g l s
  | 0, s, T, hT, hs => by
    refine fold_lin (φ := φ) _ (fun f => g (s + f.toNat)) x T (fun f hf T hT => ?_) hT
    have := hx f hf
    refine ⟨by rw [addAt_len, hT], ?_⟩
    rw [L.add T _ 1 hT (by omega)]; omega
  | l + 1, s, T, hT, hs => by
    refine fold_lin (φ := φ) _ (fun f => if f = top then cF x top g l (s + f.toNat) else ((6 ^ (l + 1) : Nat) : Int) * g (s + f.toNat)) x T (fun f hf T hT => ?_) hT
    have := hx f hf
    by_cases h : f = top
    · rw [if_pos h, if_pos h]
      exact bt_lin hx top L l (s + f.toNat) T hT (by omega)
    · rw [if_neg h, if_neg h]
      exact ⟨by rw [addAt_len, hT], L.add T _ _ hT (by omega)⟩
theorem lin_sum : Lin (fun T => T.sum) (fun _ => 1) := ⟨fun T j v hT hj => by rw [addAt_sum (by omega)]; omega⟩
theorem lin_get (q : Nat) : Lin (fun T => T.getD q 0) (fun j => if q = j then 1 else 0) := ⟨fun T j v hT hj => by
  rw [addAt_getD T j v q (by omega)]
  split <;> omega⟩
def momF : Nat → List Int → Int
  | _, [] => 0
  | b, a :: l => (b : Int) * a + momF (b + 1) l
theorem momF_set : ∀ (T : List Int) (b j : Nat) (y : Int), j < T.length → momF b (T.set j y) = momF b T + ((b + j : Nat) : Int) * (y - T.getD j 0)
  | [], b, j, y, h => by simp at h
  | a :: T, b, 0, y, _ => by
    simp only [List.set_cons_zero, momF, List.getD_cons_zero, Nat.add_zero, Int.mul_sub]; omega
  | a :: T, b, j + 1, y, h => by
    simp only [List.set_cons_succ, momF, List.getD_cons_succ]
    rw [momF_set T (b + 1) j y (by simpa using h), show b + 1 + j = b + (j + 1) by omega]; omega
theorem lin_mom : Lin (momF 0) (fun j => (j : Int)) := ⟨fun T j v hT hj => by
  unfold addAt
  rw [momF_set T 0 j _ (by omega), Nat.zero_add, show T.getD j 0 + v - T.getD j 0 = v by omega, Int.mul_comm]⟩
theorem bt_nn {x : List Int} (hx : Fa x) (top : Int) : ∀ (l s : Nat) (T : List Int), T.length = 121 → s + 30 * (l + 1) ≤ 120 → NN T → NN (Bt x top l s T) := by
  have fold : ∀ (step : List Int → Int → List Int) (y : List Int) (T : List Int), (∀ f ∈ y, ∀ T, T.length = 121 → NN T → (step T f).length = 121 ∧ NN (step T f)) → T.length = 121 → NN T → NN (y.foldl step T) := by
    intro step y
    induction y with
    | nil => intro T _ _ h; exact h
    | cons f y ih =>
      intro T h hT hn
      obtain ⟨h1, h2⟩ := h f (by simp) T hT hn
      exact ih (step T f) (fun g hg => h g (by simp [hg])) h1 h2
  intro l
  induction l with
  | zero =>
    intro s T hT hs hn
    refine fold _ x T (fun f hf T hT hn => ?_) hT hn
    have := hx f hf
    exact ⟨by rw [addAt_len, hT], addAt_nn hn (by omega) (by omega)⟩
  | succ l ih =>
    intro s T hT hs hn
    refine fold _ x T (fun f hf T hT hn => ?_) hT hn
    have := hx f hf
    by_cases h : f = top
    · rw [if_pos h]
      exact ⟨(bt_lin hx top lin_sum l (s + f.toNat) T hT (by omega)).1, ih (s + f.toNat) T hT (by omega) hn⟩
    · rw [if_neg h]
      exact ⟨by rw [addAt_len, hT], addAt_nn hn (Int.natCast_nonneg _) (by omega)⟩
/-! ### the program's recursion -/
section
variable {x : List Int} {fu : Nat}
theorem pow4 {l : Nat} (h : l ≤ 4) : 6 ^ l ≤ 1296 := Nat.pow_le_pow_right (n := 6) (by omega) h
theorem sum_const (y : List Int) (c : Int) (F : Int → Int) (h : ∀ f ∈ y, F f = c) : (y.map F).sum = c * y.length := by
  induction y with
  | nil => simp
  | cons f y ih =>
    rw [List.map_cons, List.sum_cons, ih (fun g hg => h g (by simp [hg])), h f (by simp), List.length_cons, Int.natCast_add, Int.mul_add]; omega
theorem cF_one (h : x.length = 6) (top : Int) : ∀ (l s : Nat), cF x top (fun _ => 1) l s = ((6 ^ (l + 1) : Nat) : Int)
  | 0, s => by
    show (x.map (fun f => (1 : Int))).sum = _
    rw [sum_const x 1 _ (fun f _ => rfl), h]; rfl
  | l + 1, s => by
    show (x.map (fun f => if f = top then cF x top (fun _ => 1) l (s + f.toNat) else ((6 ^ (l + 1) : Nat) : Int) * 1)).sum = _
    rw [sum_const x ((6 ^ (l + 1) : Nat) : Int) _ (fun f _ => by rw [cF_one h top l]; split <;> omega), h, Nat.pow_succ 6 (l + 1), Int.natCast_mul]
theorem bt_sum (h : x.length = 6) (hx : Fa x) (top : Int) {l s : Nat} {T : List Int} (hT : T.length = 121) (hs : s + 30 * (l + 1) ≤ 120) : (Bt x top l s T).length = 121 ∧ (Bt x top l s T).sum = T.sum + ((6 ^ (l + 1) : Nat) : Int) := by
  obtain ⟨h1, h2⟩ := bt_lin hx top lin_sum l s T hT hs
  exact ⟨h1, by rw [← cF_one h top l s]; exact h2⟩
theorem addAt_wrap {T : List Int} (hT : NN T) {j : Nat} {v : Int} (hv : 0 ≤ v) (hb : T.sum + v ≤ 1000000000) : T.set j (IntKind.wrap .i64 (T.getD j 0 + v)) = addAt T j v := by
  unfold addAt
  have h1 := getD_le_sum hT j
  have h2 := hT j
  rw [wrap_i64 (by omega) (by omega)]
def recF (fu : Nat) (x : List Int) (s left : Int) : Int → List Int → (List Int → Option (List Int)) → Option (List Int) := fun f s1 c3 => (if ((decide (f = (x.getD 5 0))) && (decide (0 < left))) = true then (p_impl_BurstTable_1 fu (IntKind.wrap .i64 (s + f)) (IntKind.wrap .i64 (left - 1)) x s1).bind (fun r17 => c3 r17) else if 0 ≤ (IntKind.wrap .i64 (s + f)) then if (IntKind.wrap .i64 (s + f)) < 121 then (p_impl_power fu left).bind (fun r20 => c3 (s1.set (IntKind.wrap .i64 (s + f)).toNat (IntKind.wrap .i64 ((s1.getD (IntKind.wrap .i64 (s + f)).toNat 0) + r20)))) else none else none)
theorem rec_run (h : x.length = 6) (hx : Fa x) : ∀ (l s fu : Nat) (T : List Int), l ≤ 3 → 100 + l < fu → T.length = 121 → NN T → s + 30 * (l + 1) ≤ 120 → T.sum + ((6 ^ (l + 1) : Nat) : Int) ≤ 100000 → p_impl_BurstTable_1 fu (s : Int) (l : Int) x T = some (Bt x (x.getD 5 0) l s T) := by
  intro l
  induction l with
  | zero =>
    intro s fu T hl hf hT hn hs hb
    obtain ⟨f, rfl⟩ : ∃ f, fu = f + 1 := ⟨fu - 1, by omega⟩
    rw [p_impl_BurstTable_1.eq_2, cnt_list (recF f x (s : Int) ((0 : Nat) : Int)) x 0 (by rw [h]; rfl) (fun _ _ _ _ _ => rfl)]
    have key : ∀ (y : List Int) (T : List Int), (∀ f ∈ y, 0 ≤ f ∧ f ≤ 30) → T.length = 121 → NN T → T.sum + (y.length : Int) ≤ 100000 → lrun (recF f x (s : Int) ((0 : Nat) : Int)) (fun s1 => some s1) y T = some (y.foldl (fun T f => addAt T (s + f.toNat) 1) T) := by
      intro y
      induction y with
      | nil => intro T _ _ _ _; rfl
      | cons a y ih =>
        intro T hy hT hn hb
        have ha := hy a (by simp)
        rw [List.length_cons] at hb
        rw [lrun.eq_2]
        have e : ∀ K, recF f x (s : Int) ((0 : Nat) : Int) a T K = K (addAt T (s + a.toNat) 1) := fun K => by
          unfold recF
          have ew : IntKind.wrap .i64 ((s : Int) + a) = ((s + a.toNat : Nat) : Int) := by rw [wrap_i64 (by omega) (by omega)]; omega
          rw [if_neg (by simp), ew, if_pos (by omega), if_pos (by omega), power_eq 0 (by omega) (by omega), Option.bind_some, Int.toNat_natCast, addAt_wrap hn (by omega) (by omega)]
          rfl
        rw [e]
        exact ih _ (fun b hb' => hy b (by simp [hb'])) (by rw [addAt_len, hT]) (addAt_nn hn (by omega) (by omega)) (by rw [addAt_sum (by omega)]; omega)
    exact key x T hx hT hn (by rw [h]; omega)
  | succ l ihl =>
    intro s fu T hl hf hT hn hs hb
    obtain ⟨f, rfl⟩ : ∃ f, fu = f + 1 := ⟨fu - 1, by omega⟩
    rw [p_impl_BurstTable_1.eq_2, cnt_list (recF f x (s : Int) ((l + 1 : Nat) : Int)) x 0 (by rw [h]; rfl) (fun _ _ _ _ _ => rfl)]
    have hp := pow4 (l := l + 1) (by omega)
    have key : ∀ (y : List Int) (T : List Int), (∀ f ∈ y, 0 ≤ f ∧ f ≤ 30) → T.length = 121 → NN T → T.sum + (y.length : Int) * ((6 ^ (l + 1) : Nat) : Int) ≤ 100000 → lrun (recF f x (s : Int) ((l + 1 : Nat) : Int)) (fun s1 => some s1) y T = some (y.foldl (fun T f => if f = x.getD 5 0 then Bt x (x.getD 5 0) l (s + f.toNat) T else addAt T (s + f.toNat) ((6 ^ (l + 1) : Nat) : Int)) T) := by
      intro y
      induction y with
      | nil => intro T _ _ _ _; rfl
      | cons a y ih =>
        intro T hy hT hn hb
        have ha := hy a (by simp)
        rw [List.length_cons, Int.natCast_add, Int.add_mul] at hb
        have hyn : 0 ≤ (y.length : Int) * ((6 ^ (l + 1) : Nat) : Int) := Int.mul_nonneg (by omega) (Int.natCast_nonneg _)
        have h60 := Int.natCast_nonneg (6 ^ (l + 1))
        rw [lrun.eq_2]
        have ew : IntKind.wrap .i64 ((s : Int) + a) = ((s + a.toNat : Nat) : Int) := by rw [wrap_i64 (by omega) (by omega)]; omega
        rw [List.foldl_cons]
        by_cases hc : a = x.getD 5 0
        · have e : ∀ K, recF f x (s : Int) ((l + 1 : Nat) : Int) a T K = K (Bt x (x.getD 5 0) l (s + a.toNat) T) := fun K => by
            unfold recF
            rw [if_pos (by simp only [Bool.and_eq_true, decide_eq_true_eq]; exact ⟨hc, by omega⟩), ew, wrap_i64 (n := ((l + 1 : Nat) : Int) - 1) (by omega) (by omega), show ((l + 1 : Nat) : Int) - 1 = (l : Int) by omega, ihl (s + a.toNat) f T (by omega) (by omega) hT hn (by omega) (by omega), Option.bind_some]
          obtain ⟨b1, b2⟩ := bt_sum h hx (x.getD 5 0) (l := l) (s := s + a.toNat) hT (by omega)
          rw [e, if_pos hc]
          exact ih _ (fun b hb' => hy b (by simp [hb'])) b1 (bt_nn hx _ l _ T hT (by omega) hn) (by rw [b2]; omega)
        · have e : ∀ K, recF f x (s : Int) ((l + 1 : Nat) : Int) a T K = K (addAt T (s + a.toNat) ((6 ^ (l + 1) : Nat) : Int)) := fun K => by
            unfold recF
            rw [if_neg (by simp only [Bool.and_eq_true, decide_eq_true_eq]; exact fun hh => hc hh.1), ew, if_pos (by omega), if_pos (by omega), power_eq (l + 1) (by omega) (by omega), Option.bind_some, Int.toNat_natCast, addAt_wrap hn h60 (by omega)]
          rw [e, if_neg hc]
          exact ih _ (fun b hb' => hy b (by simp [hb'])) (by rw [addAt_len, hT]) (addAt_nn hn h60 (by omega)) (by rw [addAt_sum (by omega)]; omega)
    refine key x T hx hT hn ?_
    rw [h, ← Int.natCast_mul, Nat.mul_comm, ← Nat.pow_succ]
    exact hb
end
end Go.GA.E
