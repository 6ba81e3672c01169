/- The first mode: what the calls return, where their results lie, marks in them; no further conditions. -/
import Derived.Test.YtogkhlpljkelpaaC11mw
namespace Go.GA
open Go Go.Proofs Go.RowKit
theorem noT : Try.prog.globalNamed "internal/strconv.uint64pow10" = none := by kernel_rfl
theorem noE1 : Try.prog.globalNamed "strconv.ErrSyntax" = none := by kernel_rfl
theorem noE2 : Try.prog.globalNamed "strconv.ErrRange" = none := by kernel_rfl
theorem laid0 (w : World) (M : Nat → Prop) : Laid Try.prog w M :=
  by
  refine ⟨fun g hg => ?_, fun nm g hn hg => ?_⟩
  · rw [noT] at hg; cases hg
  · rcases hn with rfl | rfl
    · rw [noE1] at hg; cases hg
    · rw [noE2] at hg; cases hg
/-- a call that returns plain values, from the kit's side -/
theorem scal_calls {f : FuncId} {ys : List AV} {vs : List Value} {r : AV} {w : World} (hc : Scalar Try.prog f ys r) (hx : RAs rho0 (World.hf w) (ownB rho0 []) ys vs) {u : Value} (hu : ∀ ρ h M v, RA ρ h M r v → v = u) :
    Calls Try.prog f vs.toArray w fun e w' => e = .returned u ∧ Below w.heap.size w w' := by
  refine (hc rho0 w vs (fun _ => []) hx ⟨by simp, by simp, by simp, by simp⟩ (fun b h => h.elim) (laid0 _ _)).mono ?_
  rintro e w' ⟨v, r', H', ρ', ℓ', rfl, p⟩
  obtain ⟨⟨rfl, rfl⟩, _⟩ := p.post
  refine ⟨by rw [hu _ _ _ _ p.ra], p.ext.os, p.ext.tape, p.ext.output, p.ext.size, fun k hk => p.ext.block k hk ?_⟩
  rintro ⟨e, he, _⟩; cases he
/-- ints in a part of a block, from lo on and below hi -/
def SD (lo hi : Nat) (w : World) (v : Value) (xs : List Int) : Prop :=
  xs.length ≤ 1000000 ∧ ((xs = [] ∧ ∃ a c, v = .slice a 0 c) ∨ ∃ b off cap c T z pre post, lo ≤ b ∧ b < hi ∧ v = .slice (some ⟨b, off, none⟩) xs.length (xs.length + cap) ∧ w.heap[b]? = some (.cells c T z) ∧ c.toList = pre ++ (xs.map (Value.int .i64) ++ post) ∧ pre.length = off ∧ NF z off xs.length)
theorem SD.same {lo hi : Nat} {w w' : World} {v : Value} {xs : List Int} (h : SD lo hi w v xs) (hs : ∀ b, lo ≤ b → b < hi → w'.heap[b]? = w.heap[b]?) : SD lo hi w' v xs := by
  obtain ⟨h0, h1 | ⟨b, off, cap, c, T, z, pre, post, h1, h2, h3, h4, h5⟩⟩ := h
  · exact ⟨h0, .inl h1⟩
  · exact ⟨h0, .inr ⟨b, off, cap, c, T, z, pre, post, h1, h2, h3, by rw [hs b h1 h2]; exact h4, h5⟩⟩
theorem SD.ra {lo hi : Nat} {w : World} {v : Value} {xs : List Int} (h : SD lo hi w v xs) {ρ : Rho} {M : Nat → Prop} (hM : ∀ b, ¬ M b) : RA ρ (World.hf w) M (.v (.slice (.int .i64)) xs) v := by
  obtain ⟨h0, ⟨h1, a, cp, h2⟩ | ⟨b, off, cap, c, T, z, pre, post, h1, h2, h3, h4, h5, h6, h7⟩⟩ := h
  · subst h1
    exact ⟨[], ⟨[v], ⟨Nat.zero_le _, .inl ⟨rfl, rfl, a, cp, by rw [h2]⟩⟩, rfl⟩, by simp⟩
  · refine ⟨[b], ⟨[v], ⟨(show xs.length ≤ lim by simp only [lim]; omega), .inr ⟨b, off, cap, [], by rw [h3]; rfl, rfl, c, T, z, pre, xs.map (Value.int .i64), post, h4, h5, h6, ?_, by rw [List.length_map]; exact h7⟩⟩, rfl⟩, fun b' _ => hM b'⟩
    clear h0 h3 h5 h7
    induction xs with
    | nil => exact ⟨rfl, rfl⟩
    | cons x xs ih => exact ⟨[.int .i64 x], xs.map (Value.int .i64), [], [], rfl, rfl, ⟨rfl, rfl⟩, ih⟩
theorem noOwn : ∀ b, ¬ ownB rho0 [] b := by
  rintro b (⟨e, he, _⟩ | h)
  · cases he
  · exact h
def aggOf (xs : List Int) : Value := .agg (xs.map (Value.int .i64)).toArray
theorem arr_ra {n : Nat} {xs : List Int} (hl : xs.length = n) {ρ : Rho} {h : Hf} {M : Nat → Prop} : RA ρ h M (.v (.arr n (.int .i64)) xs) (aggOf xs) := by
  have key : ∀ xs : List Int, RelL (Rc h (.int .i64)) xs (xs.map (Value.int .i64)) [] := by
    intro xs
    induction xs with
    | nil => exact ⟨rfl, rfl⟩
    | cons x xs ih => exact ⟨[.int .i64 x], xs.map (Value.int .i64), [], [], rfl, rfl, ⟨rfl, rfl⟩, ih⟩
  exact ⟨[], ⟨xs.map (Value.int .i64), ⟨hl, key xs⟩, rfl⟩, by simp⟩
theorem arr_val {n : Nat} {xs : List Int} (ρ : Rho) (h : Hf) (M : Nat → Prop) (v : Value) (hx : RA ρ h M (.v (.arr n (.int .i64)) xs) v) : v = aggOf xs := by
  obtain ⟨F, ⟨cs, ⟨hl, h1⟩, e⟩, hF⟩ := hx
  obtain ⟨e2, _⟩ := relInt h1
  rw [e, e2]; rfl
/-- FirstMode: its result lies in new memory -/
theorem first_call {f : FuncId} {x0 : List Int} {n : Int} {r : List Int × Bool} (hc : ACallsV Try.prog f [.v (.arr 6 (.int .i64)) x0, .int .i64 n] [] (fun r' H' => r' = .tup [.v (.slice (.int .i64)) r.1, .bool r.2] ∧ H' = [])) (hl : x0.length = 6) (hr : r.1.length ≤ 1000000) (w : World) :
    Calls Try.prog f #[aggOf x0, .int .i64 n] w fun e w' => ∃ v, e = .returned (.tuple #[v, .bool r.2]) ∧ SD w.heap.size w'.heap.size w' v r.1 ∧ Below w.heap.size w w' := by
  refine (hc ⟨fun _ => none, fun b => b < w.heap.size⟩ w [aggOf x0, .int .i64 n] (fun _ => []) ⟨_, _, rfl, arr_ra hl, _, _, rfl, rfl, rfl⟩ ⟨by simp, by simp, by simp, by simp⟩ (fun b h => ⟨fun ⟨e, he, _⟩ => (by cases he), h⟩) (laid0 _ _)).mono ?_
  rintro e w' ⟨v, r', H', ρ', ℓ', rfl, p⟩
  obtain ⟨rfl, rfl⟩ := p.post
  obtain ⟨vs, rfl, u, vs', rfl, hu, b, vs'', rfl, hb, hn⟩ := p.ra
  simp only [RAs] at hn
  subst hn
  have hb' : b = .bool r.2 := hb
  subst hb'
  refine ⟨u, rfl, ?_, p.ext.os, p.ext.tape, p.ext.output, p.ext.size, fun k hk => p.ext.block k hk (by rintro ⟨e, he, _⟩; cases he)⟩
  obtain ⟨F, ⟨cs, ⟨h0, h1⟩, e⟩, hF⟩ := hu
  rcases h1 with ⟨h1, _, a, cp, h2⟩ | ⟨b, off, cap, F', h2, h3, c, T, z, pre, mid, post, h4, h5, h6, h7, h8⟩
  · exact ⟨hr, .inl ⟨h1, a, cp, by rw [e, h2]; rfl⟩⟩
  · obtain ⟨e2, e3⟩ := relInt h7
    have hbn : ¬ b < w.heap.size := fun h => hF b (by rw [h3]; simp) (.inr (by rw [p.nn]; exact h))
    have hlt : b < w'.heap.size := hf_lt (by rw [h4]; simp)
    exact ⟨hr, .inr ⟨b, off, cap, c, T, z, pre, post, by omega, hlt, by rw [e, h2]; rfl, h4, by rw [h5, e2], h6, by rw [e2, List.length_map] at h8; exact h8⟩⟩
theorem mark_SD {lo hi : Nat} {w : World} {v : Value} {xs : List Int} (h : SD lo hi w v xs) (k : Int) (hk0 : 0 ≤ k) (hk1 : k ≤ 1000000) :
    Calls Try.prog 14 #[v, .int .i64 k] w fun e w' => e = .returned (.int .i64 (k + (xs.length : Int))) ∧ SD lo hi w' v (marks1 xs.length k) ∧ (∀ b, (b < lo ∨ hi ≤ b) → w'.heap[b]? = w.heap[b]?) ∧ w'.heap.size = w.heap.size ∧ w'.os = w.os ∧ w'.tape = w.tape ∧ w'.output = w.output := by
  have hs := h
  obtain ⟨h0, ⟨h1, a, cp, h2⟩ | ⟨b, off, cap, c, T, z, pre, post, h1, h2, h3, h4, h5, h6, h7⟩⟩ := h
  · subst h1 h2
    refine (markS_nil a cp k w).mono ?_
    rintro e w' ⟨rfl, rfl⟩
    exact ⟨by simp, hs, fun _ _ => rfl, rfl, rfl, rfl, rfl⟩
  · subst h3
    refine (markS_any b off xs.length (xs.length + cap) xs k w (by omega) hk0 (by omega) (fun j hj => ?_) (fun j hj => ?_)).mono ?_
    · unfold World.cell?
      rw [h4]
      simp only [Option.isSome_none, Bool.false_eq_true, if_false]
      rw [← Array.getElem?_toList, h5, ← h6, List.getElem?_append_right (by omega), Nat.add_sub_cancel_left, List.getElem?_append_left (by rw [List.length_map]; exact hj), List.getElem?_map, List.getD_eq_getElem?_getD]
      cases hq : xs[j]? with
      | none => exact absurd (List.getElem?_eq_none_iff.1 hq) (by omega)
      | some q => rfl
    · unfold World.frozen?
      rw [h4]
      obtain ⟨z1, z2⟩ := z
      have := h7 j hj
      simp only at this ⊢
      simp only [Bool.and_eq_false_iff, decide_eq_false_iff_not]
      omega
    · rintro e w' ⟨rfl, rfl⟩
      obtain ⟨c', hb2, hc2⟩ := setCells_heap (marksV k xs.length) (xs.map (Value.int .i64)) pre w c h4 h5 (by rw [marksV_len, List.length_map])
      rw [h6] at hb2
      obtain ⟨q1, q2, q3, q4⟩ := setCells_rest b (marksV k xs.length) off w
      refine ⟨rfl, ⟨by rw [marks1_len]; exact h0, .inr ⟨b, off, cap, c', T, z, pre, post, h1, h2, by rw [marks1_len], hb2, ?_, h6, by rw [marks1_len]; exact h7⟩⟩, fun x hx => setCells_other (by omega) _ _ _, q1, q2, q3, q4⟩
      rw [hc2]
      congr 2
      unfold marksV marks1
      rw [List.map_map]
      rfl
end Go.GA
