/- Plain law of FnPairForms: one die like a pool, both ways. -/
import Derived.Test.YtebdkchfblddeaaPK9
namespace Go.GA
open Go
set_option maxRecDepth 100000
set_option linter.unusedSectionVars false
theorem mod_six {a q : Int} (ha : 0 ≤ a) (hq : 0 < q) : (a * 6).tmod (6 * q) = 0 ↔ a % q = 0 := by
  rw [Int.tmod_eq_emod_of_nonneg (by omega), Int.mul_comm a 6, Int.mul_emod_mul_of_pos _ _ (by omega)]
  omega
theorem div_six {a q : Int} (ha : 0 ≤ a) (hq : 0 < q) : (a * 6).tdiv (6 * q) = a / q := by
  rw [Int.tdiv_eq_ediv_of_nonneg (by omega), Int.mul_comm a 6, Int.mul_ediv_mul_of_pos _ _ (by omega)]
section
variable {x : List (List Int)} (h6 : Six x) (hp : p_impl_IsPool x = true)
include h6 hp
/-- 6 to the power of one die less -/
theorem q_facts : ((6 ^ x.length : Nat) : Int) = 6 * ((6 ^ (x.length - 1) : Nat) : Int) ∧ (0 : Int) < ((6 ^ (x.length - 1) : Nat) : Int) ∧ ((6 ^ (x.length - 1) : Nat) : Int) ≤ 216 := by
  obtain ⟨h1, h2, _⟩ := pool_good h6 hp
  have hn := n_le h6 hp
  have e : 6 ^ x.length = 6 * 6 ^ (x.length - 1) := by
    rw [show x.length = (x.length - 1) + 1 by omega, Nat.pow_succ]; simp; omega
  have h0 : 0 < 6 ^ (x.length - 1) := Nat.pow_pos (by omega)
  refine ⟨by rw [e]; omega, by omega, by omega⟩
theorem tab_six : (tabOf x).length = 121 ∧ NN (tabOf x) ∧ (tabOf x).sum = 6 * ((6 ^ (x.length - 1) : Nat) : Int) := by
  obtain ⟨_, _, c, _⟩ := tab_facts h6 hp
  obtain ⟨q1, q2, q3⟩ := q_facts h6 hp
  exact ⟨c.len, c.nn, by rw [c.sum, q1]⟩
theorem oneI_good {fu : Nat} (hf : 2000 < fu) (hg : ∀ j, j < 121 → Gd (tabOf x) ((6 ^ (x.length - 1) : Nat) : Int) j) : p_impl_OneLike fu x = some (ex (tabOf x) ((6 ^ (x.length - 1) : Nat) : Int) 31, true) := by
  obtain ⟨a, _, c, _⟩ := tab_facts h6 hp
  obtain ⟨t1, t2, t3⟩ := tab_six h6 hp
  obtain ⟨q1, q2, q3⟩ := q_facts h6 hp
  obtain ⟨h1, h2, _⟩ := pool_good h6 hp
  have hp6 : p_impl_power fu (x.length : Int) = some (6 * ((6 ^ (x.length - 1) : Nat) : Int)) := by rw [power_eq (by omega) (by omega), q1]
  unfold p_impl_OneLike
  rw [if_pos hp, a, Option.bind_some, hp6]
  generalize hq : ((6 ^ (x.length - 1) : Nat) : Int) = q at *
  refine cnt_ind0 (S := List Int) 121 (fun i s => s = cts (tabOf x) q i) (fun r => r = some (ex (tabOf x) q 31, true)) rfl rfl (fun s hs => ?_) (fun i s cc hi hs hcc => ?_)
  · rw [hs, die_run t1 t2 q2 t3 hg (fun j => (ent_le h6 hp j).2) (by omega) (fun j hj => by
      have := (cts_get t2 hj 121 hg).2
      rw [if_pos (by omega)] at this
      exact this), Option.bind_some]
  · have he := ent_le h6 hp i
    have hgi := hg i hi
    rw [Int.toNat_natCast]
    by_cases hz : (tabOf x).getD i 0 = 0
    · rw [if_pos hz]
      exact hcc _ (by simp only [cts]; rw [if_pos hz]; exact hs)
    · have hi30 : i ≤ 30 := hgi.2 (by omega)
      have hm : ((tabOf x).getD i 0 * 6).tmod (6 * q) = 0 := (mod_six he.1 q2).2 hgi.1
      have hdv : 0 ≤ (tabOf x).getD i 0 / q := Int.ediv_nonneg he.1 (by omega)
      have hdl : (tabOf x).getD i 0 / q ≤ (tabOf x).getD i 0 := Int.ediv_le_self _ he.1
      rw [if_neg hz, if_pos (by simp), Option.getD_some, if_pos (show ((!(decide (30 < (i : Int)))) = true → 6 * q ≠ 0) from fun _ => by omega), wr (n := (tabOf x).getD i 0 * 6) (by omega) (by omega), hm]
      rw [if_neg (by simp; omega), Option.bind_some, if_pos (by omega), div_six he.1 q2, wr (by omega) (by omega)]
      exact hcc _ (by simp only [cts]; rw [if_neg hz, hs])
theorem oneI_bad {fu : Nat} (hf : 2000 < fu) (hg : ¬ ∀ j, j < 121 → Gd (tabOf x) ((6 ^ (x.length - 1) : Nat) : Int) j) : p_impl_OneLike fu x = some (List.replicate 6 0, false) := by
  obtain ⟨a, _, c, _⟩ := tab_facts h6 hp
  obtain ⟨q1, q2, q3⟩ := q_facts h6 hp
  obtain ⟨h1, h2, _⟩ := pool_good h6 hp
  have hp6 : p_impl_power fu (x.length : Int) = some (6 * ((6 ^ (x.length - 1) : Nat) : Int)) := by rw [power_eq (by omega) (by omega), q1]
  unfold p_impl_OneLike
  rw [if_pos hp, a, Option.bind_some, hp6]
  generalize hq : ((6 ^ (x.length - 1) : Nat) : Int) = q at *
  refine cnt_ind0 (S := List Int) 121 (fun i s => ∀ j, j < i → Gd (tabOf x) q j) (fun r => r = some (List.replicate 6 0, false)) rfl (fun j hj => by omega) (fun s hs => absurd hs hg) (fun i s cc hi hs hcc => ?_)
  have he := ent_le h6 hp i
  rw [Int.toNat_natCast]
  by_cases hz : (tabOf x).getD i 0 = 0
  · rw [if_pos hz]
    refine hcc _ (fun j hj => ?_)
    by_cases e : j = i
    · subst e
      exact ⟨by rw [hz]; exact Int.zero_emod _, fun h => by omega⟩
    · exact hs j (by omega)
  · rw [if_neg hz, if_pos (by simp), Option.getD_some, if_pos (show ((!(decide (30 < (i : Int)))) = true → 6 * q ≠ 0) from fun _ => by omega), wr (n := (tabOf x).getD i 0 * 6) (by omega) (by omega)]
    by_cases hgi : Gd (tabOf x) q i
    · have hi30 : i ≤ 30 := hgi.2 (by omega)
      have hm : ((tabOf x).getD i 0 * 6).tmod (6 * q) = 0 := (mod_six he.1 q2).2 hgi.1
      rw [hm, if_neg (by simp; omega), Option.bind_some, if_pos (by omega)]
      refine hcc _ (fun j hj => ?_)
      by_cases e : j = i
      · subst e; exact hgi
      · exact hs j (by omega)
    · rw [if_pos]
      by_cases h30 : 30 < (i : Int)
      · simp [h30]
      · have hm : ¬ ((tabOf x).getD i 0 * 6).tmod (6 * q) = 0 := fun hm => hgi ⟨(mod_six he.1 q2).1 hm, fun _ => by omega⟩
        rw [decide_eq_false hm]
        simp
theorem oneS_any {fu : Nat} (hf : 2000 < fu) : p_spec_OneLike fu x = p_impl_OneLike fu x := by
  obtain ⟨_, b, c, _⟩ := tab_facts h6 hp
  obtain ⟨t1, t2, t3⟩ := tab_six h6 hp
  obtain ⟨q1, q2, q3⟩ := q_facts h6 hp
  obtain ⟨h1, h2, _⟩ := pool_good h6 hp
  have key : ∀ Q : Option (List Int × Bool) → Prop, (∀ (hg : ∀ j, j < 121 → Gd (tabOf x) ((6 ^ (x.length - 1) : Nat) : Int) j), Q (some (ex (tabOf x) ((6 ^ (x.length - 1) : Nat) : Int) 31, true))) → ((¬ ∀ j, j < 121 → Gd (tabOf x) ((6 ^ (x.length - 1) : Nat) : Int) j) → Q (some (List.replicate 6 0, false))) → Q (p_spec_OneLike fu x) := by
    intro Q hgood hbad
    unfold p_spec_OneLike
    rw [pool_eq h6, Option.bind_some, if_pos hp, b, Option.bind_some, all_eq (by omega) (by omega), Option.bind_some]
    have hw : IntKind.wrap .i64 (((6 ^ x.length : Nat) : Int).tdiv 6) = ((6 ^ (x.length - 1) : Nat) : Int) := by
      rw [q1, Int.tdiv_eq_ediv_of_nonneg (by omega), Int.mul_ediv_cancel_left _ (by omega), wr (by omega) (by omega)]
    rw [hw]
    generalize hq : ((6 ^ (x.length - 1) : Nat) : Int) = q at *
    refine cnt_ind0 (S := List Int) 121 (fun i s => (∀ j, j < i → Gd (tabOf x) q j) ∧ s = ex (tabOf x) q i) Q rfl ⟨fun j hj => by omega, rfl⟩ (fun s hs => ?_) (fun i s cc hi hs hcc => ?_)
    · have e121 := ex_more t2 q2 hs.1 90 (by omega)
      have hsix := ex_six t1 t2 q2 t3 hs.1
      have harr : p_spec_l5Array (ex (tabOf x) q 31) = some (ex (tabOf x) q 31) := by
        obtain ⟨a', b', c', d', e', f', hxx⟩ := len6 hsix
        rw [hxx]; rfl
      rw [hs.2]
      have e1 : ex (tabOf x) q 121 = ex (tabOf x) q 31 := e121
      rw [e1, harr, Option.bind_some]
      exact hgood hs.1
    · have he := ent_le h6 hp i
      have hmod : ((tabOf x).getD i 0).tmod q = (tabOf x).getD i 0 % q := Int.tmod_eq_emod_of_nonneg he.1
      rw [Int.toNat_natCast, if_pos (by omega), hmod]
      by_cases hgi : Gd (tabOf x) q i
      · have hcond : ¬ ((!(decide ((tabOf x).getD i 0 % q = 0))) || ((decide (0 < (tabOf x).getD i 0)) && (decide (30 < (i : Int))))) = true := by
          rw [hgi.1]
          by_cases h0 : 0 < (tabOf x).getD i 0
          · have := hgi.2 h0
            rw [decide_eq_true h0, decide_eq_false (show ¬ 30 < (i : Int) by omega)]
            simp
          · rw [decide_eq_false h0]
            simp
        have hdv : 0 ≤ (tabOf x).getD i 0 / q := Int.ediv_nonneg he.1 (by omega)
        have hdl : (tabOf x).getD i 0 / q ≤ (tabOf x).getD i 0 := Int.ediv_le_self _ he.1
        have hgn : ∀ j, j < i + 1 → Gd (tabOf x) q j := fun j hj => by
          by_cases e : j = i
          · subst e; exact hgi
          · exact hs.1 j (by omega)
        have hlen := ex_len t2 q2 i hs.1
        have hlen2 : (ex (tabOf x) q i).length ≤ 121 * 1296 := by
          have key : ∀ n, n ≤ i → (ex (tabOf x) q n).length ≤ n * 1296 := by
            intro n
            induction n with
            | zero => intro _; simp [ex]
            | succ n ih =>
              intro hn
              have h3 := ent_le h6 hp n
              have h4 : (tabOf x).getD n 0 / q ≤ (tabOf x).getD n 0 := Int.ediv_le_self _ h3.1
              have h5 : 0 ≤ (tabOf x).getD n 0 / q := Int.ediv_nonneg h3.1 (by omega)
              have := ih (by omega)
              simp only [ex]
              rw [List.length_append, List.length_replicate]
              omega
          have := key i (Nat.le_refl _)
          have h7 : i * 1296 ≤ 121 * 1296 := Nat.mul_le_mul_right _ (by omega)
          omega
        have hlen3 : (ex (tabOf x) q i).length ≤ 90000 := by
          have h8 : q * ((ex (tabOf x) q i).length : Int) ≤ 1296 := by
            rw [hlen]
            have h9 := tk_sum (tabOf x) i (by omega)
            have h10 : 0 ≤ ((tabOf x).drop i).sum := by
              refine sum_nn (fun j => ?_)
              have := t2 (i + j)
              rw [List.getD_eq_getElem?_getD, List.getElem?_drop, ← List.getD_eq_getElem?_getD]
              exact this
            omega
          have h11 : ((ex (tabOf x) q i).length : Int) ≤ q * ((ex (tabOf x) q i).length : Int) := by
            have := Int.mul_le_mul_of_nonneg_right (show (1 : Int) ≤ q by omega) (show (0 : Int) ≤ ((ex (tabOf x) q i).length : Int) by omega)
            omega
          omega
        have hr := rep_run ((i : Nat) : Int) cc fu ((tabOf x).getD i 0 / q).toNat (ex (tabOf x) q i) (by omega) (by omega)
        rw [Int.toNat_of_nonneg hdv] at hr
        rw [if_neg hcond, if_pos (show q ≠ 0 by omega), Int.tdiv_eq_ediv_of_nonneg he.1, wr (by omega) (by omega), hs.2, hr]
        exact hcc _ ⟨hgn, rfl⟩
      · rw [if_pos]
        · exact hbad (fun h => hgi (h i hi))
        · by_cases hm : (tabOf x).getD i 0 % q = 0
          · have : 0 < (tabOf x).getD i 0 ∧ 30 < i := by
              apply Classical.byContradiction
              intro hc
              exact hgi ⟨hm, fun h => by omega⟩
            have h30 : 30 < (i : Int) := by omega
            rw [decide_eq_true this.1, decide_eq_true h30]
            simp
          · rw [decide_eq_false hm]
            simp
  exact key (fun r => r = p_impl_OneLike fu x) (fun hg => (oneI_good h6 hp hf hg).symm) (fun hg => (oneI_bad h6 hp hf hg).symm)
end
/-! ### the table of one die -/
theorem inner_count : ∀ (d s : List Int), (∀ f ∈ d, 0 ≤ f ∧ f ≤ 30) → s.length = 121 → ∀ j, (inner 0 1 d s).getD j 0 = s.getD j 0 + ((d.countP (fun f => f.toNat == j) : Nat) : Int)
  | [], s, _, _, j => by simp [inner]
  | f :: d, s, hd, hl, j => by
    have e : inner 0 1 (f :: d) s = inner 0 1 d (addAt s (0 + f.toNat) 1) := rfl
    have hf := hd f (by simp)
    rw [e, inner_count d _ (fun q hq => hd q (by simp [hq])) (by rw [addAt_len]; exact hl) j, addAt_getD _ _ _ _ (by omega), List.countP_cons]
    by_cases h : j = 0 + f.toNat
    · have h2 : (f.toNat == j) = true := by simp; omega
      rw [if_pos h, if_pos h2]; omega
    · have h2 : ¬ (f.toNat == j) = true := by simp; omega
      rw [if_neg h, if_neg h2]; omega
theorem convL_none {T d : List Int} : ∀ (l : List Nat) (s : List Int), (∀ i ∈ l, T.getD i 0 = 0) → convL T d l s = s
  | [], s, _ => rfl
  | i :: l, s, h => by
    have e : convL T d (i :: l) s = convL T d l (inner i (T.getD i 0) d s) := rfl
    rw [e, h i (by simp), inner_zero, convL_none l s (fun j hj => h j (by simp [hj]))]
theorem tab_single {d : List Int} (hd : ∀ f ∈ d, 0 ≤ f ∧ f ≤ 30) (j : Nat) : (tabOf [d]).getD j 0 = ((d.countP (fun f => f.toNat == j) : Nat) : Int) := by
  have e : tabOf [d] = conv ((List.replicate 121 (0 : Int)).set 0 1) d := rfl
  have e2 : List.range 121 = 0 :: List.range' 1 120 := by rw [List.range_eq_range']; rfl
  have e3 : ∀ i ∈ List.range' 1 120, ((List.replicate 121 (0 : Int)).set 0 1).getD i 0 = 0 := fun i hi => by
    have := List.mem_range'.1 hi
    rw [List.getD_eq_getElem?_getD, List.getElem?_set_ne (by omega), ← List.getD_eq_getElem?_getD, rep121]
  have e4 : ((List.replicate 121 (0 : Int)).set 0 1).getD 0 0 = 1 := by decide
  rw [e]
  unfold conv
  rw [e2]
  have e5 : convL ((List.replicate 121 (0 : Int)).set 0 1) d (0 :: List.range' 1 120) (List.replicate 121 0) = convL ((List.replicate 121 (0 : Int)).set 0 1) d (List.range' 1 120) (inner 0 (((List.replicate 121 (0 : Int)).set 0 1).getD 0 0) d (List.replicate 121 0)) := rfl
  rw [e5, convL_none _ _ e3, e4, inner_count d _ hd (by simp) j, rep121]
  omega
def EOne (fu : Nat) (D : List Int) (p : List (List Int)) (ok : Bool) (k150 : Unit → Option Bool) : Option Bool := (if ok = true then (p_impl_SameSums fu [D] p).bind (fun r314 => (if ((!r314.2) || (!r314.1)) = true then some false else k150 ())) else k150 ())
theorem one_any {x : List (List Int)} (h6 : Six x) {fu : Nat} (hf : 2000 < fu) : ∃ D ok, p_impl_OneLike fu x = some (D, ok) ∧ p_spec_OneLike fu x = some (D, ok) ∧ ∀ K, EOne fu D x ok K = K () := by
  by_cases hp : p_impl_IsPool x = true
  · have hS := oneS_any h6 hp hf
    by_cases hg : ∀ j, j < 121 → Gd (tabOf x) ((6 ^ (x.length - 1) : Nat) : Int) j
    · have hI := oneI_good h6 hp hf hg
      refine ⟨_, _, hI, by rw [hS]; exact hI, fun K => ?_⟩
      obtain ⟨a, _, c, _⟩ := tab_facts h6 hp
      obtain ⟨t1, t2, t3⟩ := tab_six h6 hp
      obtain ⟨q1, q2, q3⟩ := q_facts h6 hp
      obtain ⟨h1, h2, _⟩ := pool_good h6 hp
      have hd := ex_die t1 t2 q2 t3 hg
      have hD6 : Six [ex (tabOf x) ((6 ^ (x.length - 1) : Nat) : Int) 31] := fun z hz => by
        have : z = ex (tabOf x) ((6 ^ (x.length - 1) : Nat) : Int) 31 := by simpa using hz
        rw [this]; exact hd.len
      have hDp : p_impl_IsPool [ex (tabOf x) ((6 ^ (x.length - 1) : Nat) : Int) 31] = true := by
        unfold p_impl_IsPool
        rw [dies_all, pwithin_eq, List.all_cons, die_of6 hd]
        rfl
      obtain ⟨a2, _, c2, _⟩ := tab_facts hD6 hDp
      unfold EOne
      rw [if_pos rfl]
      have hsame : p_impl_SameSums fu [ex (tabOf x) ((6 ^ (x.length - 1) : Nat) : Int) 31] x = some (true, true) := by
        unfold p_impl_SameSums
        rw [hDp, hp, if_neg (by simp), a2, Option.bind_some, a, Option.bind_some]
        refine cnt_ind0 (S := Unit) 121 (fun _ _ => True) (fun r => r = some (true, true)) rfl trivial (fun _ _ => rfl) (fun i s cc hi _ hcc => ?_)
        have he := ent_le h6 hp i
        have hone : p_impl_power fu (([ex (tabOf x) ((6 ^ (x.length - 1) : Nat) : Int) 31].length : Nat) : Int) = some 6 := power_eq (n := 1) (by omega) (by omega)
        have hpx : p_impl_power fu (x.length : Int) = some (6 * ((6 ^ (x.length - 1) : Nat) : Int)) := by rw [power_eq (by omega) (by omega), q1]
        rw [Int.toNat_natCast, hpx, Option.bind_some, hone, Option.bind_some]
        have hgi := hg i hi
        have hdv : 0 ≤ (tabOf x).getD i 0 / ((6 ^ (x.length - 1) : Nat) : Int) := Int.ediv_nonneg he.1 (by omega)
        have hmul : ((6 ^ (x.length - 1) : Nat) : Int) * ((tabOf x).getD i 0 / ((6 ^ (x.length - 1) : Nat) : Int)) = (tabOf x).getD i 0 := Int.mul_ediv_cancel' (Int.dvd_of_emod_eq_zero hgi.1)
        have hti : (tabOf [ex (tabOf x) ((6 ^ (x.length - 1) : Nat) : Int) 31]).getD i 0 = (tabOf x).getD i 0 / ((6 ^ (x.length - 1) : Nat) : Int) := by
          rw [tab_single (fun f hf => ⟨(hd.face f hf).1, (hd.face f hf).2.1⟩), ex_count]
          by_cases h31 : i < 31
          · rw [if_pos h31]; omega
          · rw [if_neg h31]
            have : (tabOf x).getD i 0 = 0 := by
              by_cases hpos : 0 < (tabOf x).getD i 0
              · have := hgi.2 hpos; omega
              · omega
            rw [this, Int.zero_ediv]; rfl
        rw [hti]
        have hl : ((tabOf x).getD i 0 / ((6 ^ (x.length - 1) : Nat) : Int)) * (6 * ((6 ^ (x.length - 1) : Nat) : Int)) = (tabOf x).getD i 0 * 6 := by
          generalize (tabOf x).getD i 0 / ((6 ^ (x.length - 1) : Nat) : Int) = z at *
          generalize ((6 ^ (x.length - 1) : Nat) : Int) = q at *
          rw [← hmul]; grind
        rw [hl, if_pos rfl]
        exact hcc _ trivial
      rw [hsame, Option.bind_some, if_neg (by simp)]
    · have hI := oneI_bad h6 hp hf hg
      exact ⟨_, _, hI, by rw [hS]; exact hI, fun K => rfl⟩
  · refine ⟨List.replicate 6 0, false, ?_, ?_, fun K => rfl⟩
    · unfold p_impl_OneLike; rw [if_neg hp]
    · unfold p_spec_OneLike; rw [pool_eq h6, Option.bind_some, if_neg hp]
end Go.GA
