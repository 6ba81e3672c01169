/- Calls. -/
import Derived.Test.YtcminfahdindnaaDoorGA6
namespace Go.GA
open Go Go.RowKit

/-- the callee's names as the caller's: the first are those handed over, the others new -/
def sg : List Nat → Nat → Nat → Nat
  | [], base, j => base + j
  | x :: _, _, 0 => x
  | _ :: l, base, j + 1 => sg l base j
def hdel (l : List Nat) : Hp → Hp
  | [] => []
  | (i, B) :: H => bif memB i l then hdel l H else (i, B) :: hdel l H
def allLt (base : Nat) : List Nat → Bool
  | [] => true
  | i :: l => Nat.blt i base && allLt base l
theorem allLt_lt {base : Nat} : ∀ {l : List Nat}, allLt base l = true → ∀ i ∈ l, i < base
  | i :: l, h, j, hj => by
    simp only [allLt, Bool.and_eq_true] at h
    rcases List.mem_cons.1 hj with rfl | hj
    · simpa using h.1
    · exact allLt_lt h.2 j hj
theorem memB_true {i : Nat} : ∀ {l : List Nat}, memB i l = true → i ∈ l
  | j :: l, h => by
    unfold memB at h
    cases e : Nat.beq i j with
    | true => rw [Nat.eq_of_beq_eq_true e]; simp
    | false => rw [e] at h; exact List.mem_cons_of_mem _ (memB_true h)
theorem mem_hdel {l : List Nat} : ∀ {H : Hp} {e}, e ∈ hdel l H ↔ e ∈ H ∧ e.1 ∉ l
  | [], e => by simp [hdel]
  | (i, B) :: H, e => by
    unfold hdel
    cases h : memB i l with
    | true =>
      have := memB_true h
      simp only [cond_true, mem_hdel (H := H), List.mem_cons]
      constructor
      · rintro ⟨h1, h2⟩; exact ⟨.inr h1, h2⟩
      · rintro ⟨rfl | h1, h2⟩
        · exact absurd this h2
        · exact ⟨h1, h2⟩
    | false =>
      have := memB_false h
      simp only [cond_false, mem_hdel (H := H), List.mem_cons]
      constructor
      · rintro (rfl | ⟨h1, h2⟩)
        · exact ⟨.inl rfl, this⟩
        · exact ⟨.inr h1, h2⟩
      · rintro ⟨rfl | h1, h2⟩
        · exact .inl rfl
        · exact .inr ⟨h1, h2⟩
theorem hdel_keys {l : List Nat} : ∀ {H : Hp}, (H.map (·.1)).Nodup → ((hdel l H).map (·.1)).Nodup
  | [], _ => List.nodup_nil
  | (i, B) :: H, h => by
    simp only [List.map_cons, List.nodup_cons] at h
    unfold hdel
    cases hm : memB i l with
    | true => exact hdel_keys h.2
    | false =>
      simp only [cond_false, List.map_cons, List.nodup_cons]
      refine ⟨fun hh => h.1 ?_, hdel_keys h.2⟩
      obtain ⟨e, he, e1⟩ := List.mem_map.1 hh
      exact List.mem_map.2 ⟨e, (mem_hdel.1 he).1, e1⟩
theorem sg_lt : ∀ {l : List Nat} {base j : Nat}, j < l.length → sg l base j ∈ l
  | x :: l, base, 0, _ => by simp [sg]
  | x :: l, base, j + 1, h => by simp only [sg]; exact List.mem_cons_of_mem _ (sg_lt (by simpa using h))
theorem sg_ge : ∀ {l : List Nat} {base j : Nat}, l.length ≤ j → sg l base j = base + (j - l.length)
  | [], base, j, _ => by simp [sg]
  | x :: l, base, 0, h => by simp at h
  | x :: l, base, j + 1, h => by simp only [sg]; rw [sg_ge (by simpa using h)]; simp
theorem sg_inj : ∀ {l : List Nat} {base : Nat}, l.Nodup → (∀ i ∈ l, i < base) → ∀ {i j : Nat}, sg l base i = sg l base j → i = j
  | [], base, _, _, i, j, h => by simp [sg] at h; exact h
  | x :: l, base, hn, hl, 0, 0, _ => rfl
  | x :: l, base, hn, hl, 0, j + 1, h => by
    simp only [sg] at h
    exfalso
    rcases Nat.lt_or_ge j l.length with hj | hj
    · exact (List.nodup_cons.1 hn).1 (h ▸ sg_lt hj)
    · rw [sg_ge hj] at h; have := hl x (by simp); omega
  | x :: l, base, hn, hl, i + 1, 0, h => by
    simp only [sg] at h
    exfalso
    rcases Nat.lt_or_ge i l.length with hj | hj
    · exact (List.nodup_cons.1 hn).1 (h ▸ sg_lt hj)
    · rw [sg_ge hj] at h; have := hl x (by simp); omega
  | x :: l, base, hn, hl, i + 1, j + 1, h => by
    simp only [sg] at h
    rw [sg_inj (List.nodup_cons.1 hn).2 (fun i hi => hl i (List.mem_cons_of_mem _ hi)) h]

mutual
theorem ra_res {ρ : Rho} {h h' : Hf} {M M' : Nat → Prop} : ∀ (x : AV) {v : Value}, x.res = true → RA ρ h M x v → RA ρ h' M' x v
  | .int .., _, _, hx => hx
  | .bool _, _, _, hx => hx
  | .str _, _, _, hx => hx
  | .v t x, _, hr, hx => by
    obtain ⟨F, ⟨cs, h1, e⟩, _⟩ := hx
    have hF := Rc.flat t hr h1
    subst hF
    exact ⟨[], ⟨cs, h1.same t (by simp), e⟩, by simp⟩
  | .cptr .., _, hr, _ => by cases hr
  | .cav .., _, hr, _ => by cases hr
  | .ref .., _, _, hx => hx
  | .elem .., _, hr, _ => by cases hr
  | .elem2 .., _, hr, _ => by cases hr
  | .os _, _, _, hx => hx
  | .view .., _, hr, _ => by cases hr
  | .yl _, _, hr, _ => by cases hr
  | .ov .., _, hr, _ => by cases hr
  | .nilsl, _, _, hx => hx
  | .nilp, _, _, hx => hx
  | .nilf, _, _, hx => hx
  | .fn f caps, _, hr, hx => by
    obtain ⟨vs, e, h1⟩ := hx
    exact ⟨vs, e, ras_res caps hr h1⟩
  | .tup xs, _, hr, hx => by
    obtain ⟨vs, e, h1⟩ := hx
    exact ⟨vs, e, ras_res xs hr h1⟩
  | .st xs, _, hr, hx => by
    obtain ⟨vs, e, h1⟩ := hx
    exact ⟨vs, e, ras_res xs hr h1⟩
  | .gd .., _, hr, _ => by cases hr
  | .junk, _, hr, _ => by cases hr
theorem ras_res {ρ : Rho} {h h' : Hf} {M M' : Nat → Prop} : ∀ (xs : List AV) {vs : List Value}, AV.resL xs = true → RAs ρ h M xs vs → RAs ρ h' M' xs vs
  | [], _, _, hx => hx
  | x :: xs, _, hr, hx => by
    simp only [AV.resL, Bool.and_eq_true] at hr
    obtain ⟨v, vs', e, h1, h2⟩ := hx
    exact ⟨v, vs', e, ra_res x hr.1 h1, ras_res xs hr.2 h2⟩
end
theorem rcomps_res {ρ : Rho} {h : Hf} {M M' : Nat → Prop} : ∀ {cs : List Comp} {vs F}, compsRes cs = true → RComps ρ h M cs vs F → RComps ρ h M' cs vs F
  | [], _, _, _, hr => hr
  | .cell a :: r, _, _, hc, hr => by
    simp only [compsRes, Bool.and_eq_true] at hc
    obtain ⟨v, cs', e, h1, h2, h3⟩ := hr
    exact ⟨v, cs', e, h1, ra_res a hc.1 h2, rcomps_res hc.2 h3⟩
  | .arr t n xs :: r, _, _, hc, hr => by
    obtain ⟨c1, c2, F1, F2, e, eF, h1, h2⟩ := hr
    exact ⟨c1, c2, F1, F2, e, eF, h1, rcomps_res (cs := r) hc h2⟩
theorem heapRes_mem : ∀ {H : Hp}, heapRes H = true → ∀ e ∈ H, ∀ cs, e.2 = .var cs → compsRes cs = true
  | (i, .var cs) :: H, h, e, he, ds, hd => by
    simp only [heapRes, Bool.and_eq_true] at h
    rcases List.mem_cons.1 he with rfl | he
    · cases hd; exact h.1
    · exact heapRes_mem h.2 e he ds hd
  | (i, .row t xs) :: H, h, e, he, ds, hd => by
    rcases List.mem_cons.1 he with rfl | he
    · cases hd
    · exact heapRes_mem (H := H) h e he ds hd
theorem rblk_res {ρ : Rho} {h : Hf} {M M' : Nat → Prop} {id : Nat} {B : Blk} {L} (hB : ∀ cs, B = .var cs → compsRes cs = true) (hr : RBlk ρ h M id B L) : RBlk ρ h M' id B L := by
  cases B with
  | var cs =>
    obtain ⟨b, k, c, T, F, h1, h2, h3, e⟩ := hr
    exact ⟨b, k, c, T, F, h1, h2, rcomps_res (hB cs rfl) h3, e⟩
  | row t xs => exact hr

section
variable {P : Program} {Γ : Ctx} {n : Sz} {Q : Exit → Act → World → Prop} {fr : Fr} {H Hc : Hp} {all : Array Oper} {ops : List Oper} {ty : TypeId} {pos : String} {aft : Array Edge}

def Ads (H H' : Hp) (σ : Nat → Nat) : List AV → List AV → Prop
  | [], [] => True
  | x :: xs, y :: ys => Ad H H' σ x y ∧ Ads H H' σ xs ys
  | _, _ => False
theorem ads_ok {σ : Nat → Nat} {ρ : Rho} {h : Hf} {ℓ : Nat → List Nat} (hk : HeapOK ρ h H ℓ) (hm : ∀ b, ownB (ρ.map σ) Hc b → ownB ρ H b) (hd : ∀ e ∈ H, (∀ e' ∈ Hc, σ e'.1 ≠ e.1) → ∀ b, b ∈ ℓ e.1 → ¬ ownB (ρ.map σ) Hc b) :
    ∀ {xs ys : List AV} {vs}, Ads H Hc σ xs ys → RAs ρ h (ownB ρ H) xs vs → RAs (ρ.map σ) h (ownB (ρ.map σ) Hc) ys vs
  | [], [], _, _, hr => hr
  | x :: xs, y :: ys, _, ha, hr => by
    obtain ⟨v, vs', e, h1, h2⟩ := hr
    exact ⟨v, vs', e, ha.1 ρ h ℓ hk hm hd v h1, ads_ok hk hm hd ha.2 h2⟩
  | [], _ :: _, _, ha, _ => ha.elim
  | _ :: _, [], _, ha, _ => ha.elim

/-- what a call comes to in the caller's state -/
theorem call_core [hLS : LaidS P Γ] {f : FuncId} {ys : List AV} {R : AV → Hp → Prop} (hc : ACallsV P f ys Hc R) (l : List Nat) (base : Nat) {ρ : Rho} {w : World} {a : Act} {vs : List Value} (s : SIM Γ n ρ w a fr H) {N' : Nat → Prop} {ℓ : Nat → List Nat}
    (hk : HeapOK ρ (World.hf w) H ℓ) (hb : ∀ e ∈ H, ∀ b ∈ ℓ e.1, Γ.L0 b ∨ Γ.W0.heap.size ≤ b)
    (hx' : RAs ⟨fun i => ρ (sg l base i), N'⟩ (World.hf w) (ownB ⟨fun i => ρ (sg l base i), N'⟩ Hc) ys vs) (hk' : HeapOK ⟨fun i => ρ (sg l base i), N'⟩ (World.hf w) Hc (fun i => ℓ (sg l base i)))
    (hN' : ∀ b, N' b → ¬ inL (fun i => ℓ (sg l base i)) Hc b ∧ b < w.heap.size) (hm : ∀ b, namB (ρ.map (sg l base)) Hc b → namB ρ H b) (hd : ∀ e ∈ H, (∀ e' ∈ Hc, sg l base e'.1 ≠ e.1) → ∀ b, b ∈ ℓ e.1 → ¬ namB (ρ.map (sg l base)) Hc b)
    (hV : (∀ r H', R r H' → r.res = true ∧ heapRes H' = true) ∨ ∀ b, N' b ↔ ownB ρ (hdel l H) b)
    (hS : SubH H Hc (sg l base) Hc) (hks : hkeys Hc = List.range l.length) (hl : allLt base l = true) (hln : injB (fun i => i) l = true)
    (hfr : allLt base (Fr.ids fr) = true) (hH : allLt base (Hp.ids H) = true) (hK : Nat.ble n.K base = true) :
    Calls P f vs.toArray w (fun e w' => ∃ v r H' ρ', e = .returned v ∧ R r H' ∧ SIM Γ n ρ' w' a fr (hdel l H ++ hren (sg l base) H') ∧ RA ρ' (World.hf w') (ownB ρ' (hdel l H ++ hren (sg l base) H')) (r.ren (sg l base)) v ∧ (l = [] → Grew ρ ρ' w w' H (hdel l H ++ hren (sg l base) H'))) := by
  have hlt := allLt_lt hl
  have hnod : l.Nodup := by simpa using injB_nodup hln
  have hinj : ∀ {i j : Nat}, sg l base i = sg l base j → i = j := sg_inj hnod hlt
  refine (hc ⟨fun i => ρ (sg l base i), N'⟩ w vs _ hx' hk' hN' (hLS.laid.ext s.ext (fun b hb => s.own b (hm b hb)))).mono ?_
  rintro e w' ⟨v, r, H', ρc, ℓc, rfl, p⟩
  -- the callee's keys
  have hkey : ∀ j, j < l.length → ∃ e ∈ Hc, e.1 = j := by
    intro j hj
    have : j ∈ hkeys Hc := by rw [hks]; simpa using hj
    rw [hkeys_eq] at this
    obtain ⟨e, he, e1⟩ := List.mem_map.1 this
    exact ⟨e, he, e1⟩
  have hkeyc : ∀ e ∈ Hc, e.1 < l.length := by
    intro e he
    have : e.1 ∈ hkeys Hc := by rw [hkeys_eq]; exact List.mem_map_of_mem he
    rw [hks] at this; simpa using this
  let ρ' : Rho := ⟨fun i => if i < base then ρ i else ρc (i - base + l.length), ρ.N⟩
  have hρlt : ∀ i, i < base → ρ' i = ρ i := fun i hi => by simp [ρ', hi]
  have hρσ : ∀ j, ρ' (sg l base j) = ρc j := by
    intro j
    rcases Nat.lt_or_ge j l.length with hj | hj
    · rw [hρlt _ (hlt _ (sg_lt hj))]
      obtain ⟨e, he, rfl⟩ := hkey j hj
      exact (p.keep e he).symm
    · rw [sg_ge hj]
      have : ¬ base + (j - l.length) < base := by omega
      simp only [ρ', this, if_false]
      congr 1; omega
  have hρσ' : ∀ i, (ρ'.map (sg l base)) i = ρc i := hρσ
  have hσl : ∀ j, j < l.length ∨ base ≤ sg l base j := fun j => by
    rcases Nat.lt_or_ge j l.length with hj | hj
    · exact .inl hj
    · rw [sg_ge hj]; exact .inr (by omega)
  have hold : ∀ e ∈ H, e.1 < base := fun e he => allLt_lt hH _ (hids_head he)
  have hℓlt : ∀ e ∈ H, ∀ b ∈ ℓ e.1, b < w.heap.size := fun e he b h => hf_lt (hk.there he b h)
  -- who owns what
  have hown1 : ∀ b, namB ρ' (hdel l H ++ hren (sg l base) H') b → namB ρ (hdel l H) b ∨ namB ρc H' b := by
    rintro b ⟨e, he, k, hk⟩
    rcases List.mem_append.1 he with he | he
    · have := (mem_hdel.1 he).1
      exact .inl ⟨e, he, k, by rw [← hρlt _ (hold e this)]; exact hk⟩
    · obtain ⟨e', he', rfl⟩ := mem_hren.1 he
      exact .inr ⟨e', he', k, by rw [← hρσ]; exact hk⟩
  have hdelH : ∀ b, namB ρ (hdel l H) b → namB ρ H b := fun b ⟨e, he, k, hk⟩ => ⟨e, (mem_hdel.1 he).1, k, hk⟩
  have hown2 : ∀ b, namB ρ' (hdel l H ++ hren (sg l base) H') b → namB ρ H b ∨ w.heap.size ≤ b := fun b h => by
    rcases hown1 b h with h | h
    · exact .inl (hdelH b h)
    · rcases p.own b h with h | h
      · exact .inl (hm b h)
      · exact .inr h
  have hsame : ∀ b, ¬ namB (ρ.map (sg l base)) Hc b → World.hf w b ≠ none → World.hf w' b = World.hf w b := fun b hb hb' => p.ext.block b (hf_lt hb') hb
  have hM : ∀ b, ¬ ownB ρ H b → World.hf w b ≠ none → World.hf w' b = World.hf w b ∧ ¬ ownB ρ' (hdel l H ++ hren (sg l base) H') b := fun b hb hb' =>
    ⟨hsame b (fun h => hb (.inl (hm b h))) hb', fun h => by
      rcases h with h | h
      · rcases hown2 b h with h | h
        · exact hb (.inl h)
        · have := hf_lt hb'; omega
      · exact hb (.inr h)⟩
  have hMV : (∀ b, N' b ↔ ownB ρ (hdel l H) b) → ∀ b, ownB ρ' (hdel l H ++ hren (sg l base) H') b → ownB ρc H' b := fun hV b h => by
    have hn : ρc.N = N' := p.nn
    rcases h with h | h
    · rcases hown1 b h with h | h
      · exact .inr (by rw [hn]; exact (hV b).2 (.inl h))
      · exact .inl h
    · exact .inr (by rw [hn]; exact (hV b).2 (.inr h))
  have hdb : ∀ e ∈ hdel l H, ∀ b ∈ ℓ e.1, ¬ namB (ρ.map (sg l base)) Hc b := by
    intro e he b hb'
    obtain ⟨h1, h2⟩ := mem_hdel.1 he
    refine hd e h1 ?_ b hb'
    intro e' he' heq
    exact h2 (heq ▸ sg_lt (hkeyc e' he'))
  have hsz : Γ.W0.heap.size ≤ w.heap.size := s.ext.size
  -- blocks of the entries
  let ℓ' : Nat → List Nat := fun i => if i < base then (if i ∈ l then ℓc (l.idxOf i) else ℓ i) else ℓc (i - base + l.length)
  have hℓold : ∀ e ∈ hdel l H, ℓ' e.1 = ℓ e.1 := by
    intro e he
    obtain ⟨h1, h2⟩ := mem_hdel.1 he
    simp [ℓ', hold e h1, h2]
  have hidx : ∀ j, j < l.length → l.idxOf (sg l base j) = j := by
    intro j hj
    have h1 : ∀ (m : List Nat) (b j : Nat), m.Nodup → j < m.length → m.idxOf (sg m b j) = j := by
      intro m
      induction m with
      | nil => intro b j _ h; simp at h
      | cons x m ih =>
        intro b j hm h
        cases j with
        | zero => simp [sg]
        | succ j =>
          have hne : sg m b j ≠ x := fun e => (List.nodup_cons.1 hm).1 (e ▸ sg_lt (by simpa using h))
          simp only [sg, List.idxOf_cons]
          have hb : (x == sg m b j) = false := by simpa using fun e => hne e.symm
          rw [hb]
          simp [ih b j (List.nodup_cons.1 hm).2 (by simpa using h)]
    exact h1 l base j hnod hj
  have hℓnew : ∀ j, ℓ' (sg l base j) = ℓc j := by
    intro j
    rcases Nat.lt_or_ge j l.length with hj | hj
    · have h1 := sg_lt (base := base) hj
      simp only [ℓ', hlt _ h1, h1, if_true, hidx j hj]
    · rw [sg_ge hj]
      have : ¬ base + (j - l.length) < base := by omega
      simp only [ℓ', this, if_false]
      congr 1; omega
  have hcross : ∀ e ∈ hdel l H, ∀ e' ∈ H', ∀ b, b ∈ ℓ e.1 → b ∉ ℓc e'.1 := by
    intro e he e' he' b hb1 hb2
    obtain ⟨h1, h2⟩ := mem_hdel.1 he
    rcases p.old b ⟨e', he', hb2⟩ with ⟨c, hc', hbc⟩ | h
    · obtain ⟨A, hA, _⟩ := subH_mem hS hc'
      exact hk.dj _ (hget_mem hA) e h1 (fun h => h2 (h ▸ sg_lt (hkeyc c hc'))) b hbc hb1
    · have := hℓlt e h1 b hb1; omega
  have hgrew : l = [] → Grew ρ ρ' w w' H (hdel l H ++ hren (sg l base) H') := by
    intro hl0
    have hnc : ∀ b, ¬ namB (ρ.map (sg l base)) Hc b := by
      rintro b ⟨e, he, _⟩
      have := hkeyc e he
      rw [hl0] at this; simp at this
    refine ⟨p.ext.os, p.ext.tape, p.ext.output, p.ext.size, fun b hb _ => p.ext.block b hb (hnc b), fun e' he' b k hb => ?_⟩
    rcases List.mem_append.1 he' with he' | he'
    · have h1 := (mem_hdel.1 he').1
      exact .inl ⟨e', h1, rfl, by rw [← hρlt _ (hold e' h1)]; exact hb⟩
    · obtain ⟨e, he, rfl⟩ := mem_hren.1 he'
      rcases p.own b ⟨e, he, k, by rw [← hρσ]; exact hb⟩ with h | h
      · exact absurd h (hnc b)
      · exact .inr (.inr h)
  refine ⟨v, r, H', ρ', rfl, p.post, ⟨s.defers, s.size, ?_, ?_, ?_, ⟨ℓ', ⟨?_, ?_, ?_, ?_⟩, ?_⟩, ?_⟩, ?_, hgrew⟩
  · refine ⟨p.ext.os.trans s.ext.os, p.ext.tape.trans s.ext.tape, p.ext.output.trans s.ext.output, Nat.le_trans hsz p.ext.size, fun k hk' hM0 => ?_⟩
    rw [p.ext.block k (by omega) (fun ho => by rcases s.own k (hm k ho) with h1 | h1; · exact hM0 h1
                                               · omega)]
    exact s.ext.block k hk' hM0
  · intro i hi
    have : i < base := by have := Nat.le_of_ble_eq_true hK; omega
    rw [hρlt i this]; exact s.keep i hi
  · intro b hb'
    rcases hown2 b hb' with h | h
    · exact s.own b h
    · exact .inr (by omega)
  · intro e he
    rcases List.mem_append.1 he with he | he
    · rw [hℓold e he]
      obtain ⟨h1, h2⟩ := mem_hdel.1 he
      exact (hk.blk e h1).same (fun i hi => hρlt i (allLt_lt hH i (mem_hids h1 hi))) hM (fun b hb' => hsame b (hdb e he b hb') (hk.there h1 b hb'))
    · obtain ⟨e', he', rfl⟩ := mem_hren.1 he
      rw [hℓnew]
      refine (rblk_ren e'.2 _).2 ?_
      have h0 := p.heap.blk e' he'
      rcases hV with hV | hV
      · exact (rblk_res (heapRes_mem (hV _ _ p.post).2 e' he') h0).same (fun i _ => hρσ' i) (fun b hb _ => ⟨rfl, hb⟩) (fun _ _ => rfl)
      · exact h0.same (fun i _ => hρσ' i) (fun b hb _ => ⟨rfl, fun h => hb (hMV hV b h)⟩) (fun _ _ => rfl)
  · intro e he
    rcases List.mem_append.1 he with he | he
    · rw [hℓold e he]; exact hk.nd e (mem_hdel.1 he).1
    · obtain ⟨e', he', rfl⟩ := mem_hren.1 he
      rw [hℓnew]; exact p.heap.nd e' he'
  · intro e he e' he' hne b hb1
    rcases List.mem_append.1 he with he | he <;> rcases List.mem_append.1 he' with he' | he'
    · rw [hℓold e he] at hb1; rw [hℓold e' he']
      exact hk.dj e (mem_hdel.1 he).1 e' (mem_hdel.1 he').1 hne b hb1
    · obtain ⟨c, hc', rfl⟩ := mem_hren.1 he'
      rw [hℓold e he] at hb1; rw [hℓnew]
      exact hcross e he c hc' b hb1
    · obtain ⟨c, hc', rfl⟩ := mem_hren.1 he
      rw [hℓnew] at hb1; rw [hℓold e' he']
      exact fun h => hcross e' he' c hc' b h hb1
    · obtain ⟨c, hc', rfl⟩ := mem_hren.1 he
      obtain ⟨c', hc'', rfl⟩ := mem_hren.1 he'
      rw [hℓnew] at hb1; rw [hℓnew]
      exact p.heap.dj c hc' c' hc'' (fun h => hne (by simp [h])) b hb1
  · rw [List.map_append, List.nodup_append]
    refine ⟨hdel_keys hk.ids, ?_, ?_⟩
    · have h1 : ∀ G : Hp, (G.map (·.1)).Nodup → ((hren (sg l base) G).map (·.1)).Nodup := by
        intro G
        induction G with
        | nil => intro _; exact List.nodup_nil
        | cons e G ih =>
          intro hG
          simp only [List.map_cons, List.nodup_cons] at hG
          simp only [hren, List.map_cons, List.nodup_cons]
          refine ⟨fun hh => hG.1 ?_, ih hG.2⟩
          obtain ⟨x, hx', ex⟩ := List.mem_map.1 hh
          obtain ⟨y, hy, rfl⟩ := mem_hren.1 hx'
          exact List.mem_map.2 ⟨y, hy, hinj ex⟩
      exact h1 H' p.heap.ids
    · intro x hx' y hy exy
      subst exy
      obtain ⟨e, he, rfl⟩ := List.mem_map.1 hx'
      obtain ⟨e', he', e1⟩ := List.mem_map.1 hy
      obtain ⟨c, hc', rfl⟩ := mem_hren.1 he'
      obtain ⟨h1, h2⟩ := mem_hdel.1 he
      rcases hσl c.1 with h | h
      · exact h2 (e1 ▸ sg_lt h)
      · have := hold e h1; simp only at e1; omega
  · intro e he b hb'
    rcases List.mem_append.1 he with he | he
    · rw [hℓold e he] at hb'; exact hb e (mem_hdel.1 he).1 b hb'
    · obtain ⟨c, hc', rfl⟩ := mem_hren.1 he
      rw [hℓnew] at hb'
      rcases p.old b ⟨c, hc', hb'⟩ with ⟨c', hc'', hbc⟩ | h
      · obtain ⟨A, hA, _⟩ := subH_mem hS hc''
        exact hb _ (hget_mem hA) b hbc
      · exact .inr (by omega)
  · intro t x hx'
    obtain ⟨h1, h2⟩ := s.fr t x hx'
    exact ⟨h1, h2.same x (fun i hi => hρlt i (allLt_lt hfr i (get_ids hx' i hi))) hM⟩
  · refine (ra_ren r v).2 ?_
    have h0 := p.ra
    rcases hV with hV | hV
    · exact (ra_res r (hV _ _ p.post).1 h0).same r (fun i _ => hρσ' i) (fun b hb _ => ⟨rfl, hb⟩)
    · exact h0.same r (fun i _ => hρσ' i) (fun b hb _ => ⟨rfl, fun h => hb (hMV hV b h)⟩)


theorem cinj_of {l : List Nat} {base : Nat} {Hc : Hp} (hks : hkeys Hc = List.range l.length) (hl : allLt base l = true) (hln : injB (fun i => i) l = true) : injB (sg l base) (hkeys Hc) = true := by
  have hlt := allLt_lt hl
  have hnod : l.Nodup := by simpa using injB_nodup hln
  have hinj : ∀ {i j : Nat}, sg l base i = sg l base j → i = j := sg_inj hnod hlt
  rw [hks]
  have : ∀ m : List Nat, m.Nodup → injB (sg l base) m = true := by
    intro m
    induction m with
    | nil => intro _; rfl
    | cons i m ih =>
      intro hm
      simp only [injB, Bool.and_eq_true, Bool.not_eq_true']
      refine ⟨?_, ih (List.nodup_cons.1 hm).2⟩
      cases e : memB (sg l base i) (m.map (sg l base)) with
      | false => rfl
      | true =>
        obtain ⟨j, hj, e'⟩ := List.mem_map.1 (memB_true e)
        rw [hinj e'] at hj
        exact absurd hj (List.nodup_cons.1 hm).1
  exact this _ List.nodup_range
theorem call_sim [LaidS P Γ] {f : FuncId} {ys : List AV} {R : AV → Hp → Prop} (hc : ACalls P f ys Hc R) (l : List Nat) (base : Nat) {xs : List AV} {ρ : Rho} {w : World} {a : Act} {vs : List Value} (s : SIM Γ n ρ w a fr H)
    (hx : RAs ρ (World.hf w) (ownB ρ H) xs vs) (hA : Ads H Hc (sg l base) xs ys) (hS : SubH H Hc (sg l base) Hc) (hks : hkeys Hc = List.range l.length) (hl : allLt base l = true) (hln : injB (fun i => i) l = true)
    (hfr : allLt base (Fr.ids fr) = true) (hH : allLt base (Hp.ids H) = true) (hK : Nat.ble n.K base = true) :
    Calls P f vs.toArray w (fun e w' => ∃ v r H' ρ', e = .returned v ∧ R r H' ∧ SIM Γ n ρ' w' a fr (hdel l H ++ hren (sg l base) H') ∧ RA ρ' (World.hf w') (ownB ρ' (hdel l H ++ hren (sg l base) H')) (r.ren (sg l base)) v ∧ (l = [] → Grew ρ ρ' w w' H (hdel l H ++ hren (sg l base) H'))) := by
  obtain ⟨ℓ, hk, hb⟩ := s.heap
  obtain ⟨hm0, hm, hd, hk'⟩ := heap_sub hk (s.apart hb) hS (cinj_of hks hl hln)
  refine (call_core (N' := ρ.N) hc l base s hk hb (ads_ok hk hm hd hA hx) hk' (fun b hn => ⟨fun ⟨e, he, h⟩ => ?_, ?_⟩) hm0 (fun e he hne b hb' h => hd e he hne b hb' (.inl h)) (.inl fun r H' h => h.2) hS hks hl hln hfr hH hK).mono ?_
  · obtain ⟨A, hA', _⟩ := subH_mem hS he
    exact s.apart hb b hn ⟨_, hget_mem hA', h⟩
  · rw [s.defers.2.1] at hn
    exact Nat.lt_of_lt_of_le (s.defers.2.2 b hn).2 s.ext.size
  · rintro e w' ⟨v, r, H', ρ', h1, h2, h3⟩
    exact ⟨v, r, H', ρ', h1, h2.1, h3⟩
/-- blocks handed over as they are -/
def SubHR (H : Hp) (σ : Nat → Nat) : Hp → Prop
  | [] => True
  | (i, B) :: l => hget H (σ i) = some (B.ren σ) ∧ SubHR H σ l
theorem subHR_mem {σ : Nat → Nat} : ∀ {l : Hp} {e}, SubHR H σ l → e ∈ l → hget H (σ e.1) = some (e.2.ren σ)
  | (i, B) :: l, e, h, he => by
    rcases List.mem_cons.1 he with rfl | he
    · exact h.1
    · exact subHR_mem h.2 he
theorem call_simV [LaidS P Γ] {f : FuncId} {ys : List AV} {R : AV → Hp → Prop} (hc : ACallsV P f ys Hc R) (l : List Nat) (base : Nat) {xs : List AV} {ρ : Rho} {w : World} {a : Act} {vs : List Value} (s : SIM Γ n ρ w a fr H)
    (hx : RAs ρ (World.hf w) (ownB ρ H) xs vs) (hA : xs = AV.renL (sg l base) ys) (hR : SubHR H (sg l base) Hc) (hS : SubH H Hc (sg l base) Hc) (hks : hkeys Hc = List.range l.length) (hl : allLt base l = true) (hln : injB (fun i => i) l = true)
    (hfr : allLt base (Fr.ids fr) = true) (hH : allLt base (Hp.ids H) = true) (hK : Nat.ble n.K base = true) :
    Calls P f vs.toArray w (fun e w' => ∃ v r H' ρ', e = .returned v ∧ R r H' ∧ SIM Γ n ρ' w' a fr (hdel l H ++ hren (sg l base) H') ∧ RA ρ' (World.hf w') (ownB ρ' (hdel l H ++ hren (sg l base) H')) (r.ren (sg l base)) v ∧ (l = [] → Grew ρ ρ' w w' H (hdel l H ++ hren (sg l base) H'))) := by
  obtain ⟨ℓ, hk, hb⟩ := s.heap
  obtain ⟨hm0, hm, hd, hk'⟩ := heap_sub hk (s.apart hb) hS (cinj_of hks hl hln)
  have hkeyc : ∀ e ∈ Hc, e.1 < l.length := by
    intro e he
    have : e.1 ∈ hkeys Hc := by rw [hkeys_eq]; exact List.mem_map_of_mem he
    rw [hks] at this; simpa using this
  have hdelH : ∀ b, ownB ρ (hdel l H) b → ownB ρ H b := fun b h => h.imp (fun ⟨e, he, k, hk⟩ => ⟨e, (mem_hdel.1 he).1, k, hk⟩) (fun h => h)
  have hm1 : ∀ b, ownB ⟨fun i => ρ (sg l base i), fun b => ownB ρ (hdel l H) b⟩ Hc b → ownB ρ H b := fun b h => by
    rcases h with h | h
    · exact .inl (hm0 b h)
    · exact hdelH b h
  subst hA
  refine call_core (N' := fun b => ownB ρ (hdel l H) b) hc l base s hk hb ?_ ⟨fun e he => ?_, hk'.nd, hk'.dj, hk'.ids⟩ (fun b hn => ?_) hm0 (fun e he hne b hb' h => hd e he hne b hb' (.inl h)) (.inr fun b => Iff.rfl) hS hks hl hln hfr hH hK
  · exact RAs.same ys ((ras_ren ys vs).1 hx) (fun _ _ => rfl) (fun b hb _ => ⟨rfl, fun h => hb (hm1 b h)⟩)
  · have h0 := hk.get (subHR_mem hR he)
    exact ((rblk_ren e.2 _).1 h0).same (fun _ _ => rfl) (fun b hb _ => ⟨rfl, fun h => hb (hm1 b h)⟩) (fun _ _ => rfl)
  · rcases hn with ⟨e, he, k, hk1⟩ | hn
    · have he1 := (mem_hdel.1 he).1
      have hbe := hk.own_mem e he1 b k hk1
      refine ⟨fun ⟨e', he', h⟩ => ?_, hf_lt (hk.there he1 b hbe)⟩
      obtain ⟨A, hA', _⟩ := subH_mem hS he'
      exact hk.dj e he1 _ (hget_mem hA') (fun hh => (mem_hdel.1 he).2 (hh ▸ sg_lt (hkeyc e' he'))) b hbe h
    · refine ⟨fun ⟨e, he, h⟩ => ?_, ?_⟩
      · obtain ⟨A, hA', _⟩ := subH_mem hS he
        exact s.apart hb b hn ⟨_, hget_mem hA', h⟩
      · rw [s.defers.2.1] at hn
        exact Nat.lt_of_lt_of_le (s.defers.2.2 b hn).2 s.ext.size

theorem evOs_append {as bs : List AV} {ρ : Rho} {h : Hf} {M : Nat → Prop} : ∀ {vs ws : List Value}, RAs ρ h M as vs → RAs ρ h M bs ws → RAs ρ h M (as ++ bs) (vs ++ ws) := by
  induction as with
  | nil => intro vs ws h1 h2; simp only [RAs] at h1; subst h1; exact h2
  | cons x xs ih =>
    intro vs ws h1 h2
    obtain ⟨v, vs', e, h3, h4⟩ := h1
    subst e
    exact ⟨v, _, rfl, h3, ih h4 h2⟩

/-- the run of a call of a function value -/
theorem run_callv {ev : Operand → Value} {o : Oper} {fo : Operand} {as : List Operand} {tys : Array TypeId} {f : FuncId} {cv : List Value} {fn : Func} (ho : o.op = .call ⟨.value fo, as.toArray, tys⟩) (hev : ev fo = .func (.func f) #[] cv.toArray)
    (hf : P.funcs[f]? = some fn) (hbody : fn.body.isNone = false) (hname : (fn.name == "runtime.NumGoroutine") = false) (w : World) :
    (execOp ev o).run P w = .ok (.enter f (as.map ev ++ cv).toArray) w := by
  have h1 : fn.name ≠ "runtime.NumGoroutine" := by simpa using hname
  have h2 : fn.body ≠ none := by intro h; rw [h] at hbody; cases hbody
  simp [execOp, ho, resolve, hev, Deferred.ofValue, invoke, callFunc, hf, h1, h2, Sem.run]

theorem ao_call [LaidS P Γ] {g : Option (Nat × Bool)} {d : Nat} {f : FuncId} {fn : Func} {fo : Operand} {as : List Operand} {tys : Array TypeId} {caps xs ys : List AV} {R : AV → Hp → Prop} (l : List Nat) (base : Nat) (hg : gOK all fr g) (hc : ACalls P f ys Hc R)
    (hf : P.funcs[f]? = some fn) (hbody : fn.body.isNone = false) (hname : (fn.name == "runtime.NumGoroutine") = false)
    (hfo : evO fr fo = some (.fn f caps)) (hxs : evOs fr as = some xs) (hA : Ads H Hc (sg l base) (xs ++ caps) ys) (hS : SubH H Hc (sg l base) Hc) (hks : hkeys Hc = List.range l.length) (hl : allLt base l = true) (hln : injB (fun i => i) l = true)
    (hfr : allLt base (Fr.ids fr) = true) (hH : allLt base (Hp.ids H) = true) (hK : Nat.ble n.K base = true) (hd : Nat.blt d n.n = true)
    (h : ∀ r H', R r H' → AO P Γ n all Q ops ((d, r.ren (sg l base)) :: fr) (hdel l H ++ hren (sg l base) H')) :
    AO P Γ n all Q (⟨some d, .call ⟨.value fo, as.toArray, tys⟩, ty, pos, aft, g⟩ :: ops) fr H := fun ρ w a s => by
  obtain ⟨cv, hcv, hcaps⟩ := s.ev hfo
  refine wpList_go (s.wanted hg) fun K hK' => ?_
  unfold Oper.wp
  rw [run_callv rfl hcv hf hbody hname, Oper.upon_enter]
  refine (call_sim hc l base s (evOs_append (evOs_ok (fun o y h => s.ev h) hxs) hcaps) hA hS hks hl hln hfr hH hK).mono ?_
  rintro e w' ⟨v, r, H', ρ', rfl, hR, s', hv, _⟩
  exact hK' _ _ (h r H' hR ρ' w' _ (s'.put hd hv))

/-- a call for its effect alone -/
theorem ao_call0 [LaidS P Γ] {g : Option (Nat × Bool)} {f : FuncId} {fn : Func} {fo : Operand} {as : List Operand} {tys : Array TypeId} {caps xs ys : List AV} {R : AV → Hp → Prop} (l : List Nat) (base : Nat) (hg : gOK all fr g) (hc : ACalls P f ys Hc R)
    (hf : P.funcs[f]? = some fn) (hbody : fn.body.isNone = false) (hname : (fn.name == "runtime.NumGoroutine") = false)
    (hfo : evO fr fo = some (.fn f caps)) (hxs : evOs fr as = some xs) (hA : Ads H Hc (sg l base) (xs ++ caps) ys) (hS : SubH H Hc (sg l base) Hc) (hks : hkeys Hc = List.range l.length) (hl : allLt base l = true) (hln : injB (fun i => i) l = true)
    (hfr : allLt base (Fr.ids fr) = true) (hH : allLt base (Hp.ids H) = true) (hK : Nat.ble n.K base = true)
    (h : ∀ r H', R r H' → AO P Γ n all Q ops fr (hdel l H ++ hren (sg l base) H')) :
    AO P Γ n all Q (⟨none, .call ⟨.value fo, as.toArray, tys⟩, ty, pos, aft, g⟩ :: ops) fr H := fun ρ w a s => by
  obtain ⟨cv, hcv, hcaps⟩ := s.ev hfo
  refine wpList_go (s.wanted hg) fun K hK' => ?_
  unfold Oper.wp
  rw [run_callv rfl hcv hf hbody hname, Oper.upon_enter]
  refine (call_sim hc l base s (evOs_append (evOs_ok (fun o y h => s.ev h) hxs) hcaps) hA hS hks hl hln hfr hH hK).mono ?_
  rintro e w' ⟨v, r, H', ρ', rfl, hR, s', hv, _⟩
  exact hK' _ _ (h r H' hR ρ' w' _ s')
end
end Go.GA
