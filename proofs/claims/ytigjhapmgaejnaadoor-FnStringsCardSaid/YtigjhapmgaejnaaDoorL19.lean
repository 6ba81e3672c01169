/- The contracts of strconv.Itoa and strconv.Atoi at this program, and of ParseInt, which calls them; no further conditions. -/
import Derived.Shelf.Strconv.Itoa4
import Derived.Shelf.Strconv.AtoiAll
import Derived.Shelf.LaysM
import Derived.Shelf.LaysC
import Derived.WalkKit
import Derived.BigCall
import Derived.Test.YtigjhapmgaejnaaDoorGaD
import Derived.Test.YtigjhapmgaejnaaDoorGpA
import Derived.Test.YtigjhapmgaejnaaDoorProg
namespace Go.Proofs
open Go.Shelf
def Tryd.laysM171_ren : Go.Shelf.Ren := ⟨fun | 171 => 19 | 243 => 34 | 246 => 40 | 283 => 47 | 284 => 48 | 285 => 49 | 286 => 50 | 129 => 59 | 317 => 58 | 318 => 60 | 319 => 61 | 320 => 62 | 337 => 67 | 338 => 68 | n => n, fun | 3 => 3 | 9 => 9 | 2 => 2 | 4 => 4 | 171 => 66 | 0 => 0 | 53 => 33 | 37 => 22 | 5 => 5 | 173 => 69 | 212 => 78 | 51 => 79 | 20 => 20 | 213 => 80 | 46 => 58 | 232 => 91 | 233 => 92 | n => n, fun | 17 => 3 | 18 => 4 | 19 => 5 | n => n⟩
theorem Tryd.laysM171 : Go.Proofs.LaysM.n171 Tryd.prog Tryd.laysM171_ren := {
  mixed := by kernel_rfl
  f129 := Tryd.func59.trans (congrArg some (by kernel_rfl))
  f171 := Tryd.func19.trans (congrArg some (by kernel_rfl))
  f243 := Tryd.func34.trans (congrArg some (by kernel_rfl))
  f246 := Tryd.func40.trans (congrArg some (by kernel_rfl))
  f283 := Tryd.func47.trans (congrArg some (by kernel_rfl))
  f284 := Tryd.func48.trans (congrArg some (by kernel_rfl))
  f285 := Tryd.func49.trans (congrArg some (by kernel_rfl))
  f286 := Tryd.func50.trans (congrArg some (by kernel_rfl))
  f317 := Tryd.func58.trans (congrArg some (by kernel_rfl))
  f318 := Tryd.func60.trans (congrArg some (by kernel_rfl))
  f319 := Tryd.func61.trans (congrArg some (by kernel_rfl))
  f320 := Tryd.func62.trans (congrArg some (by kernel_rfl))
  f337 := Tryd.func67.trans (congrArg some (by kernel_rfl))
  f338 := Tryd.func68.trans (congrArg some (by kernel_rfl))
  t0 := Tryd.underlying0
  a0 := Tryd.isAgg0
  z0 := Tryd.sizeOf0
  v0 := Tryd.zeroValue0
  t2 := Tryd.underlying2
  a2 := Tryd.isAgg2
  z2 := Tryd.sizeOf2
  v2 := Tryd.zeroValue2
  t3 := Tryd.underlying3
  a3 := Tryd.isAgg3
  z3 := Tryd.sizeOf3
  v3 := Tryd.zeroValue3
  t4 := Tryd.underlying4
  a4 := Tryd.isAgg4
  z4 := Tryd.sizeOf4
  v4 := Tryd.zeroValue4
  t5 := Tryd.underlying5
  a5 := Tryd.isAgg5
  z5 := Tryd.sizeOf5
  v5 := Tryd.zeroValue5
  t9 := Tryd.underlying9
  a9 := Tryd.isAgg9
  z9 := Tryd.sizeOf9
  v9 := Tryd.zeroValue9
  t20 := Tryd.underlying20
  a20 := Tryd.isAgg20
  z20 := Tryd.sizeOf20
  v20 := Tryd.zeroValue20
  t37 := Tryd.underlying22
  a37 := Tryd.isAgg22
  z37 := Tryd.sizeOf22
  v37 := Tryd.zeroValue22
  t46 := Tryd.underlying58
  a46 := Tryd.isAgg58
  z46 := Tryd.sizeOf58
  v46 := Tryd.zeroValue58
  t51 := Tryd.underlying79
  a51 := Tryd.isAgg79
  z51 := Tryd.sizeOf79
  v51 := Tryd.zeroValue79
  t53 := Tryd.underlying33
  a53 := Tryd.isAgg33
  z53 := Tryd.sizeOf33
  v53 := Tryd.zeroValue33
  t171 := Tryd.underlying66
  a171 := Tryd.isAgg66
  z171 := Tryd.sizeOf66
  v171 := Tryd.zeroValue66
  t173 := Tryd.underlying69
  a173 := Tryd.isAgg69
  z173 := Tryd.sizeOf69
  v173 := Tryd.zeroValue69
  t212 := Tryd.underlying78
  a212 := Tryd.isAgg78
  z212 := Tryd.sizeOf78
  v212 := Tryd.zeroValue78
  t213 := Tryd.underlying80
  a213 := Tryd.isAgg80
  z213 := Tryd.sizeOf80
  t232 := Tryd.underlying91
  a232 := Tryd.isAgg91
  z232 := Tryd.sizeOf91
  v232 := Tryd.zeroValue91
  t233 := Tryd.underlying92
  a233 := Tryd.isAgg92
  z233 := Tryd.sizeOf92
  v233 := Tryd.zeroValue92
  g17 := by kernel_rfl
  g18 := by kernel_rfl
  g19 := by kernel_rfl
  i0 := by kernel_rfl
  i2 := by kernel_rfl
  i3 := by kernel_rfl
  i4 := by kernel_rfl
  i5 := by kernel_rfl
  i9 := by kernel_rfl
  i20 := by kernel_rfl
  i37 := by kernel_rfl
  i46 := by kernel_rfl
  i51 := by kernel_rfl
  i53 := by kernel_rfl
  i171 := by kernel_rfl
  i173 := by kernel_rfl
  i212 := by kernel_rfl
  i232 := by kernel_rfl
  i233 := by kernel_rfl
  m17 := by kernel_rfl
  m18 := by kernel_rfl
  m19 := by kernel_rfl }
def Tryd.laysC172_ren : Go.Shelf.Ren := ⟨fun | 172 => 24 | 244 => 35 | 245 => 36 | 247 => 41 | 279 => 42 | 280 => 43 | 281 => 44 | 282 => 45 | 287 => 51 | 316 => 52 | 171 => 19 | 205 => 53 | 321 => 63 | 322 => 64 | 243 => 34 | 246 => 40 | 283 => 47 | 284 => 48 | 285 => 49 | 286 => 50 | 129 => 59 | 317 => 58 | 318 => 60 | 319 => 61 | 320 => 62 | 337 => 67 | 338 => 68 | n => n, fun | 9 => 9 | 3 => 3 | 75 => 45 | 76 => 46 | 4 => 4 | 5 => 5 | 167 => 60 | 37 => 22 | 0 => 0 | 85 => 61 | 2 => 2 | 168 => 63 | 53 => 33 | 175 => 71 | 46 => 58 | 210 => 74 | 127 => 84 | 145 => 87 | 143 => 85 | 21 => 21 | 171 => 66 | 173 => 69 | 212 => 78 | 51 => 79 | 20 => 20 | 213 => 80 | 232 => 91 | 233 => 92 | 80 => 48 | n => n, fun | 15 => 0 | 16 => 1 | 17 => 3 | 18 => 4 | 19 => 5 | n => n⟩
theorem Tryd.laysC172 : Go.Proofs.LaysC.n172 Tryd.prog Tryd.laysC172_ren := {
  mixed := by kernel_rfl
  f129 := Tryd.func59.trans (congrArg some (by kernel_rfl))
  f171 := Tryd.func19.trans (congrArg some (by kernel_rfl))
  f172 := Tryd.func24.trans (congrArg some (by kernel_rfl))
  f205 := Tryd.func53.trans (congrArg some (by kernel_rfl))
  f243 := Tryd.func34.trans (congrArg some (by kernel_rfl))
  f244 := Tryd.func35.trans (congrArg some (by kernel_rfl))
  f245 := Tryd.func36.trans (congrArg some (by kernel_rfl))
  f246 := Tryd.func40.trans (congrArg some (by kernel_rfl))
  f247 := Tryd.func41.trans (congrArg some (by kernel_rfl))
  f279 := Tryd.func42.trans (congrArg some (by kernel_rfl))
  f280 := Tryd.func43.trans (congrArg some (by kernel_rfl))
  f281 := Tryd.func44.trans (congrArg some (by kernel_rfl))
  f282 := Tryd.func45.trans (congrArg some (by kernel_rfl))
  f283 := Tryd.func47.trans (congrArg some (by kernel_rfl))
  f284 := Tryd.func48.trans (congrArg some (by kernel_rfl))
  f285 := Tryd.func49.trans (congrArg some (by kernel_rfl))
  f286 := Tryd.func50.trans (congrArg some (by kernel_rfl))
  f287 := Tryd.func51.trans (congrArg some (by kernel_rfl))
  f316 := Tryd.func52.trans (congrArg some (by kernel_rfl))
  f317 := Tryd.func58.trans (congrArg some (by kernel_rfl))
  f318 := Tryd.func60.trans (congrArg some (by kernel_rfl))
  f319 := Tryd.func61.trans (congrArg some (by kernel_rfl))
  f320 := Tryd.func62.trans (congrArg some (by kernel_rfl))
  f321 := Tryd.func63.trans (congrArg some (by kernel_rfl))
  f322 := Tryd.func64.trans (congrArg some (by kernel_rfl))
  f337 := Tryd.func67.trans (congrArg some (by kernel_rfl))
  f338 := Tryd.func68.trans (congrArg some (by kernel_rfl))
  t0 := Tryd.underlying0
  a0 := Tryd.isAgg0
  z0 := Tryd.sizeOf0
  v0 := Tryd.zeroValue0
  t2 := Tryd.underlying2
  a2 := Tryd.isAgg2
  z2 := Tryd.sizeOf2
  v2 := Tryd.zeroValue2
  t3 := Tryd.underlying3
  a3 := Tryd.isAgg3
  z3 := Tryd.sizeOf3
  v3 := Tryd.zeroValue3
  t4 := Tryd.underlying4
  a4 := Tryd.isAgg4
  z4 := Tryd.sizeOf4
  v4 := Tryd.zeroValue4
  t5 := Tryd.underlying5
  a5 := Tryd.isAgg5
  z5 := Tryd.sizeOf5
  v5 := Tryd.zeroValue5
  t9 := Tryd.underlying9
  a9 := Tryd.isAgg9
  z9 := Tryd.sizeOf9
  v9 := Tryd.zeroValue9
  t20 := Tryd.underlying20
  a20 := Tryd.isAgg20
  z20 := Tryd.sizeOf20
  v20 := Tryd.zeroValue20
  t21 := Tryd.underlying21
  a21 := Tryd.isAgg21
  z21 := Tryd.sizeOf21
  v21 := Tryd.zeroValue21
  t37 := Tryd.underlying22
  a37 := Tryd.isAgg22
  z37 := Tryd.sizeOf22
  v37 := Tryd.zeroValue22
  t46 := Tryd.underlying58
  a46 := Tryd.isAgg58
  z46 := Tryd.sizeOf58
  v46 := Tryd.zeroValue58
  t51 := Tryd.underlying79
  a51 := Tryd.isAgg79
  z51 := Tryd.sizeOf79
  v51 := Tryd.zeroValue79
  t53 := Tryd.underlying33
  a53 := Tryd.isAgg33
  z53 := Tryd.sizeOf33
  v53 := Tryd.zeroValue33
  t75 := Tryd.underlying45
  a75 := Tryd.isAgg45
  z75 := Tryd.sizeOf45
  v75 := Tryd.zeroValue45
  t76 := Tryd.underlying46
  a76 := Tryd.isAgg46
  z76 := Tryd.sizeOf46
  v76 := Tryd.zeroValue46
  t85 := Tryd.underlying61
  a85 := Tryd.isAgg61
  z85 := Tryd.sizeOf61
  v85 := Tryd.zeroValue61
  t127 := Tryd.underlying84
  a127 := Tryd.isAgg84
  z127 := Tryd.sizeOf84
  v127 := Tryd.zeroValue84
  t143 := Tryd.underlying85
  a143 := Tryd.isAgg85
  z143 := Tryd.sizeOf85
  v143 := Tryd.zeroValue85
  t145 := Tryd.underlying87
  a145 := Tryd.isAgg87
  z145 := Tryd.sizeOf87
  v145 := Tryd.zeroValue87
  t167 := Tryd.underlying60
  a167 := Tryd.isAgg60
  z167 := Tryd.sizeOf60
  v167 := Tryd.zeroValue60
  t168 := Tryd.underlying63
  a168 := Tryd.isAgg63
  z168 := Tryd.sizeOf63
  v168 := Tryd.zeroValue63
  t171 := Tryd.underlying66
  a171 := Tryd.isAgg66
  z171 := Tryd.sizeOf66
  v171 := Tryd.zeroValue66
  t173 := Tryd.underlying69
  a173 := Tryd.isAgg69
  z173 := Tryd.sizeOf69
  v173 := Tryd.zeroValue69
  t175 := Tryd.underlying71
  a175 := Tryd.isAgg71
  z175 := Tryd.sizeOf71
  v175 := Tryd.zeroValue71
  t210 := Tryd.underlying74
  a210 := Tryd.isAgg74
  z210 := Tryd.sizeOf74
  v210 := Tryd.zeroValue74
  t212 := Tryd.underlying78
  a212 := Tryd.isAgg78
  z212 := Tryd.sizeOf78
  v212 := Tryd.zeroValue78
  t213 := Tryd.underlying80
  a213 := Tryd.isAgg80
  z213 := Tryd.sizeOf80
  t232 := Tryd.underlying91
  a232 := Tryd.isAgg91
  z232 := Tryd.sizeOf91
  v232 := Tryd.zeroValue91
  t233 := Tryd.underlying92
  a233 := Tryd.isAgg92
  z233 := Tryd.sizeOf92
  v233 := Tryd.zeroValue92
  g15 := by kernel_rfl
  g16 := by kernel_rfl
  g17 := by kernel_rfl
  g18 := by kernel_rfl
  g19 := by kernel_rfl
  t80 := Tryd.underlying48
  a80 := Tryd.isAgg48
  z80 := Tryd.sizeOf48
  v80 := Tryd.zeroValue48
  i0 := by kernel_rfl
  i2 := by kernel_rfl
  i3 := by kernel_rfl
  i4 := by kernel_rfl
  i5 := by kernel_rfl
  i9 := by kernel_rfl
  i20 := by kernel_rfl
  i21 := by kernel_rfl
  i37 := by kernel_rfl
  i46 := by kernel_rfl
  i51 := by kernel_rfl
  i53 := by kernel_rfl
  i75 := by kernel_rfl
  i76 := by kernel_rfl
  i80 := by kernel_rfl
  i85 := by kernel_rfl
  i127 := by kernel_rfl
  i143 := by kernel_rfl
  i145 := by kernel_rfl
  i167 := by kernel_rfl
  i168 := by kernel_rfl
  i171 := by kernel_rfl
  i173 := by kernel_rfl
  i175 := by kernel_rfl
  i210 := by kernel_rfl
  i212 := by kernel_rfl
  i232 := by kernel_rfl
  i233 := by kernel_rfl
  m15 := by kernel_rfl
  m16 := by kernel_rfl
  m17 := by kernel_rfl
  m18 := by kernel_rfl
  m19 := by kernel_rfl
  c0 := by kernel_rfl
  c2 := by kernel_rfl
  c3 := by kernel_rfl
  c4 := by kernel_rfl
  c5 := by kernel_rfl
  c9 := by kernel_rfl
  c20 := by kernel_rfl
  c21 := by kernel_rfl
  c37 := by kernel_rfl
  c46 := by kernel_rfl
  c51 := by kernel_rfl
  c53 := by kernel_rfl
  c75 := by kernel_rfl
  c76 := by kernel_rfl
  c80 := by kernel_rfl
  c85 := by kernel_rfl
  c127 := by kernel_rfl
  c143 := by kernel_rfl
  c145 := by kernel_rfl
  c167 := by kernel_rfl
  c168 := by kernel_rfl
  c171 := by kernel_rfl
  c173 := by kernel_rfl
  c175 := by kernel_rfl
  c210 := by kernel_rfl
  c212 := by kernel_rfl
  c213 := by kernel_rfl
  c232 := by kernel_rfl
  c233 := by kernel_rfl }
end Go.Proofs
namespace Go.GA
open Go Go.Proofs Go.RowKit
theorem errAt_cell {w : World} {g : Nat} (h : ErrAt w g) : ∃ ev, w.cell? ⟨g, 0, none⟩ = some ev ∧ (ev = .nilIface ∨ ∃ te pe, ev = .iface te pe) := by
  obtain ⟨c, T, z, ev, h1, h2, h3⟩ := h
  refine ⟨ev, ?_, h3⟩
  unfold World.cell?
  rw [h1]
  simpa using h2
theorem c_strconv_Itoa {x0 : Int} {r : ByteArray} (h : Is (p_strconv_Itoa x0) (some r)) : Scalar Tryd.prog 19 [.int .i64 x0] (.str r) :=
  itoa_scalar (g := 3) (by kernel_rfl) (fun n h0 h1 w htab => Any.strconv_Itoa Tryd.laysM171 n h0 h1 w htab) h
theorem itoa_below (n : Int) (h0 : -9223372036854775808 ≤ n) (h1 : n ≤ 9223372036854775807) (w : World) (htab : Lib.TabIs Tryd.prog w "internal/strconv.uint64pow10" .u64 Lib.pow10Tab) :
    Calls Tryd.prog 19 #[.int .i64 n] w fun e w' => e = .returned (.string ⟨(Lib.itoa n).toArray⟩) ∧ Below w.heap.size w w' := by
  refine (Any.strconv_Itoa Tryd.laysM171 n h0 h1 w htab).mono ?_
  rintro e w' ⟨he, k, os, rfl⟩
  have hd : ∀ k, (w.drewN k).heap = w.heap := fun k => by simp
  refine ⟨he, rfl, rfl, rfl, by simp [Sort.grow], fun i hi => ?_⟩
  simp only [Sort.grow, hd]
  rw [Array.getElem?_append_left hi]
theorem tab_below {w w' : World} (hb : Below w.heap.size w w') (h : Lib.TabIs Tryd.prog w "internal/strconv.uint64pow10" .u64 Lib.pow10Tab) : Lib.TabIs Tryd.prog w' "internal/strconv.uint64pow10" .u64 Lib.pow10Tab :=
  tab_same (g := 3) (by kernel_rfl) (hb.block 3 (tab_lt (g := 3) (by kernel_rfl) h)) h
theorem within_any (a b c : Int) (w : World) : Calls Tryd.prog 33 #[.int .i64 a, .int .i64 b, .int .i64 c] w fun e w' => e = .returned (.bool (decide (b ≤ a ∧ a ≤ c))) ∧ w' = w := by
  by_cases h1 : b ≤ a <;> by_cases h2 : a ≤ c <;> (go_enter Tryd.func33, Tryd.ntmps33; go_wp2; go_ret; simp [h1, h2])
theorem isDecimal_any (a : Int) (w : World) : Calls Tryd.prog 18 #[.int .i64 a] w fun e w' => e = .returned (.bool (decide (-999999 ≤ a ∧ a ≤ 999999))) ∧ w' = w := by
  go_enter Tryd.func18, Tryd.ntmps18
  go_wp2_with (go_at_call 33; refine (within_any _ _ _ _).mono ?_; rintro e w' ⟨rfl, rfl⟩)
  go_ret
  exact ⟨by simp [Bool.decide_and], rfl⟩
theorem parse_calls (s : ByteArray) (w : World) (hs : s.size ≤ 1000000) (hT : Lib.TabIs Tryd.prog w "internal/strconv.uint64pow10" .u64 Lib.pow10Tab) (h1 : ErrAt w 0) (h2 : ErrAt w 1) :
    Calls Tryd.prog 9 #[.string s] w fun e w' => e = .returned (.tuple #[.int .i64 (parseB s).1, .bool (parseB s).2]) ∧ Below w.heap.size w w' := by
  unfold parseB
  rcases hA : Lib.atoiAll s.data.toList with v | _ | _
  · have hv := Lib.atoiAll_bounds hA
    have hC := Any.strconv_Atoi_ok { Tryd.laysC172 with } s (by omega) v hA w
    have hC : Calls Tryd.prog 24 #[.string s] w fun e w' => e = .returned (.tuple #[.int .i64 v, .nilIface]) ∧ Below w.heap.size w w' := by
      refine hC.mono ?_
      rintro e w' ⟨he, rfl | ⟨t, rfl⟩⟩
      · exact ⟨he, Below.refl _ _⟩
      · exact ⟨he, Lib.bytesWorld_below _ _ _⟩
    clear hA
    by_cases hd : -999999 ≤ v ∧ v ≤ 999999
    · by_cases he : (⟨(Lib.itoa v).toArray⟩ : ByteArray) = s
      · simp only [hd, he, and_self, if_true]
        have hD : ∀ w, Calls Tryd.prog 18 #[.int .i64 v] w fun e w' => e = .returned (.bool true) ∧ w' = w := fun w => by simpa [hd] using isDecimal_any v w
        have hI := itoa_below v (by omega) (by omega)
        rw [he] at hI
        clear he hd
        go_enter Tryd.func9, Tryd.ntmps9
        go_wp2_with (go_at_call 24; refine hC.mono ?_; rintro e w1 ⟨rfl, hb1⟩)
        have hT1 := tab_below hb1 hT
        go_wp2_with (first
          | (go_at_call 18; refine (hD _).mono ?_; rintro e w2 ⟨rfl, rfl⟩)
          | (go_at_call 19; refine (hI _ (by assumption)).mono ?_; rintro e w3 ⟨rfl, hb3⟩))
        go_wp2
        go_ret2
        exact ⟨rfl, hb1.trans (hb3.mono hb1.size)⟩
      · simp only [hd, he, and_self, and_false, if_false]
        have hD : ∀ w, Calls Tryd.prog 18 #[.int .i64 v] w fun e w' => e = .returned (.bool true) ∧ w' = w := fun w => by simpa [hd] using isDecimal_any v w
        have hI := itoa_below v (by omega) (by omega)
        generalize (⟨(Lib.itoa v).toArray⟩ : ByteArray) = t at he hI
        have e2 : (!t.toList == s.toList) = true := by
          cases hq : (t.toList == s.toList) with
          | false => rfl
          | true => exact absurd (eqS_iff.1 hq) he
        clear he
        clear hd
        go_enter Tryd.func9, Tryd.ntmps9
        go_wp2_with (go_at_call 24; refine hC.mono ?_; rintro e w1 ⟨rfl, hb1⟩)
        have hT1 := tab_below hb1 hT
        go_wp2_with (first
          | (go_at_call 18; refine (hD _).mono ?_; rintro e w2 ⟨rfl, rfl⟩)
          | (go_at_call 19; refine (hI _ (by assumption)).mono ?_; rintro e w3 ⟨rfl, hb3⟩))
        go_wp2
        go_ret2
        exact ⟨rfl, hb1.trans (hb3.mono hb1.size)⟩
    · simp only [hd, false_and, if_false]
      have hD : ∀ w, Calls Tryd.prog 18 #[.int .i64 v] w fun e w' => e = .returned (.bool false) ∧ w' = w := fun w => (isDecimal_any v w).mono fun e w' ⟨h1, h2⟩ => ⟨by rw [h1, decide_eq_false hd], h2⟩
      clear hd
      go_enter Tryd.func9, Tryd.ntmps9
      go_wp2_with (go_at_call 24; refine hC.mono ?_; rintro e w1 ⟨rfl, hb1⟩)
      go_wp2_with (go_at_call 18; refine (hD _).mono ?_; rintro e w2 ⟨rfl, rfl⟩)
      go_wp2
      go_ret2
      exact ⟨rfl, hb1⟩
  · obtain ⟨ev, hv, hev⟩ := errAt_cell h1
    have hC := Any.strconv_Atoi_syntax { Tryd.laysC172 with } s (by omega) hA ev w hv hev
    have hC : Calls Tryd.prog 24 #[.string s] w fun e w' => (∃ N, e = .returned (.tuple #[.int .i64 0, .iface 63 (.pointer (some ⟨N, 0, none⟩))])) ∧ Below w.heap.size w w' :=
      hC.mono fun e w' ⟨N, h1, _, _, h2⟩ => ⟨⟨N, h1⟩, h2⟩
    clear hA hev hv
    go_enter Tryd.func9, Tryd.ntmps9
    go_wp2_with (go_at_call 24; refine hC.mono ?_; rintro e w1 ⟨⟨N, rfl⟩, hb1⟩)
    go_wp2
    go_ret2
    exact ⟨rfl, hb1⟩
  · obtain ⟨ev, hv, hev⟩ := errAt_cell h2
    have hC := Any.strconv_Atoi_range { Tryd.laysC172 with } s (by omega) hA ev w hv hev
    generalize Lib.atoiSat s.data.toList = z at hC
    have hC : Calls Tryd.prog 24 #[.string s] w fun e w' => (∃ N, e = .returned (.tuple #[.int .i64 z, .iface 63 (.pointer (some ⟨N, 0, none⟩))])) ∧ Below w.heap.size w w' :=
      hC.mono fun e w' ⟨N, h1, _, _, h2⟩ => ⟨⟨N, h1⟩, h2⟩
    clear hA hev hv
    go_enter Tryd.func9, Tryd.ntmps9
    go_wp2_with (go_at_call 24; refine hC.mono ?_; rintro e w1 ⟨⟨N, rfl⟩, hb1⟩)
    go_wp2
    go_ret2
    exact ⟨rfl, hb1⟩
theorem c_impl_ParseInt {x0 : ByteArray} {r : Int × Bool} (h : Is (p_impl_ParseInt x0) (some r)) : Scalar Tryd.prog 9 [.str x0] (.tup [.int .i64 r.1, .bool r.2]) :=
  parse_scalar (g := 3) (by kernel_rfl) (g1 := 0) (by kernel_rfl) (g2 := 1) (by kernel_rfl) (fun s w h0 h1 h2 h3 => parse_calls s w h0 h1 h2 h3) h
end Go.GA
