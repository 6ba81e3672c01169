/- Walks: what the Go functions compute, by the printed lines below; no further conditions. -/
import Derived.Test.YtbfjbbfekodohaaGaD
namespace Go.GA
open Go
set_option maxRecDepth 100000
set_option maxHeartbeats 2000000
set_option linter.unusedVariables false
set_option linter.unusedSimpArgs false
abbrev dy12 : Type := (List Int)
abbrev ty11 : Ty := (.int .i64)
abbrev dy10 : Type := (List dy12)
abbrev ty9 : Ty := (.slice (.int .u8))
abbrev ty8 : Ty := (.arr 6 ty11)
abbrev ty7 : Ty := (.slice ty11)
abbrev dy6 : Type := (Int × (Int × (Int × Unit)))
abbrev ty5 : Ty := (.slice ty8)
abbrev ty4 : Ty := (.pair ty11 (.pair ty11 (.pair ty11 .unit)))
abbrev dy3 : Type := (dy10 × (Int × (dy12 × dy6)))
abbrev ty2 : Ty := (.slice ty4)
abbrev ty1 : Ty := (.pair ty5 (.pair ty11 (.pair ty7 ty4)))
/-- loop.example/g01210/laws.rBig -/
def p_laws_rBig (x0 : dy12) : Bool :=
  (decide (65536 < (x0.length : Int)))
/-- (*loop.example/g01210/spec.l1Cur).next -/
def p_spec_l1Cur_next (x0 : dy12) (x1 : Int) (x2 : Int) : Option (Int × Int × Int) :=
  jn (fun (s1 : Int) => (if (IntKind.wrap .i64 (x1 + 1)) ≤ (x0.length : Int) then some (s1, (IntKind.wrap .i64 (x1 + 1)), (IntKind.wrap .u64 ((IntKind.wrap .u64 ((IntKind.wrap .u64 (x2 * 6364136223846793005)) + (IntKind.wrap .u64 s1))) + 462197))) else some ((IntKind.wrap .i64 (andI .u64 (shrI .u64 (IntKind.wrap .u64 ((IntKind.wrap .u64 ((IntKind.wrap .u64 (x2 * 6364136223846793005)) + (IntKind.wrap .u64 s1))) + 462197)) 40) 255)), (IntKind.wrap .i64 (x1 + 1)), (IntKind.wrap .u64 ((IntKind.wrap .u64 ((IntKind.wrap .u64 (x2 * 6364136223846793005)) + (IntKind.wrap .u64 s1))) + 462197))))) (fun k2 => (if x1 < (x0.length : Int) then if 0 ≤ x1 then k2 (IntKind.wrap .i64 (x0.getD x1.toNat 0)) else none else k2 0))
/-- (*loop.example/g01210/spec.l1Cur).pick -/
def p_spec_l1Cur_pick (x0 : Int) (x1 : dy12) (x2 : Int) (x3 : Int) : Option (Int × Int × Int) :=
  (if x0 ≤ 1 then some (0, x2, x3) else (p_spec_l1Cur_next x1 x2 x3).bind (fun r4 => (if 200 < x0 then (p_spec_l1Cur_next x1 r4.2.1 r4.2.2).bind (fun r8 => some (((IntKind.wrap .i64 ((IntKind.wrap .i64 (r4.1 * 256)) + r8.1)).tmod x0), r8.2.1, r8.2.2)) else some ((r4.1.tmod x0), r4.2.1, r4.2.2))))
/-- (*loop.example/g01210/spec.l1Cur).among -/
def p_spec_l1Cur_among (x0 : dy12) (x1 : dy12) (x2 : Int) (x3 : Int) : Option (Int × Int × Int) :=
  (p_spec_l1Cur_pick (x0.length : Int) x1 x2 x3).bind (fun r1 => if 0 ≤ r1.1 then if r1.1 < (x0.length : Int) then some ((x0.getD r1.1.toNat 0), r1.2.1, r1.2.2) else none else none)
/-- (*loop.example/g01210/spec.l1Cur).face -/
def p_spec_l1Cur_face (x0 : dy12) (x1 : Int) (x2 : Int) : Option (Int × Int × Int) :=
  (p_spec_l1Cur_among [1, 2, 3, 4, 5, 6, 6, 0, 8, 9, 4, 3, 30, 12] x0 x1 x2).bind (fun r1 => some (r1.1, r1.2.1, r1.2.2))
/-- (*loop.example/g01210/spec.l1Cur).one -/
def p_spec_l1Cur_one (x0 : Int) (x1 : dy12) (x2 : Int) (x3 : Int) : Option (Bool × Int × Int) :=
  (p_spec_l1Cur_pick x0 x1 x2 x3).bind (fun r1 => some ((decide (r1.1 = 0)), r1.2.1, r1.2.2))
/-- loop.example/g01210/spec.l2Sorted -/
def p_spec_l2Sorted (x0 : dy12) : dy12 :=
  cnt (fun i2 (s1 : dy12) c3 _ => cnt (fun i9 (s8 : dy12) c10 _ => (if (s8.getD (i9 + 1).toNat 0) < (s8.getD i9.toNat 0) then c10 ((s8.set i9.toNat (s8.getD (i9 + 1).toNat 0)).set (i9 + 1).toNat (s8.getD i9.toNat 0)) else c10 s8)) (fun i9 (s8 : dy12) => c3 s8) (Int.toNat (5 - 0)) 0 s1) (fun i2 (s1 : dy12) => s1) (Int.toNat (6 - 0)) 0 x0
/-- (*loop.example/g01210/spec.l1Cur).die -/
def p_spec_l1Cur_die (x0 : dy12) (x1 : Int) (x2 : Int) : Option (dy12 × Int × Int) :=
  jn (fun (s1 : Int × Int × dy12) => (p_spec_l1Cur_pick 50 x0 s1.1 s1.2.1).bind (fun r4 => (if r4.1 = 0 then (p_spec_l1Cur_pick 6 x0 r4.2.1 r4.2.2).bind (fun r8 => (p_spec_l1Cur_among [(-1), 31, 0, 4611686018427387904] x0 r8.2.1 r8.2.2).bind (fun r9 => if 0 ≤ r8.1 then if r8.1 < 6 then some (((p_spec_l2Sorted s1.2.2).set r8.1.toNat r9.1), r9.2.1, r9.2.2) else none else none)) else (if r4.1 = 1 then some (((p_spec_l2Sorted s1.2.2).set 0 30), r4.2.1, r4.2.2) else some ((p_spec_l2Sorted s1.2.2), r4.2.1, r4.2.2))))) (fun k2 => (p_spec_l1Cur_pick 6 x0 x1 x2).bind (fun r15 => (if r15.1 = 0 then some ([1, 2, 3, 4, 5, 6], r15.2.1, r15.2.2) else (if r15.1 = 1 then k2 (r15.2.1, r15.2.2, [1, 2, 2, 3, 3, 4]) else (if r15.1 = 2 then (p_spec_l1Cur_face x0 r15.2.1 r15.2.2).bind (fun r25 => (p_spec_l1Cur_face x0 r25.2.1 r25.2.2).bind (fun r26 => cnt (fun i28 (s27 : Int × Int × dy12) c29 _ => (p_spec_l1Cur_one 3 x0 s27.1 s27.2.1).bind (fun r34 => (if r34.1 = true then c29 (r34.2.1, r34.2.2, ((s27.2.2.set i28.toNat r25.1).set i28.toNat r26.1)) else c29 (r34.2.1, r34.2.2, (s27.2.2.set i28.toNat r25.1))))) (fun i28 (s27 : Int × Int × dy12) => k2 (s27.1, s27.2.1, s27.2.2)) (Int.toNat (6 - 0)) 0 (r26.2.1, r26.2.2, [1, 2, 3, 4, 5, 6]))) else cnt (fun i37 (s36 : Int × Int × dy12) c38 _ => (p_spec_l1Cur_face x0 s36.1 s36.2.1).bind (fun r43 => c38 (r43.2.1, r43.2.2, (s36.2.2.set i37.toNat r43.1)))) (fun i37 (s36 : Int × Int × dy12) => k2 (s36.1, s36.2.1, s36.2.2)) (Int.toNat (6 - 0)) 0 (r15.2.1, r15.2.2, [1, 2, 3, 4, 5, 6]))))))
/-- (*loop.example/g01210/spec.l1Cur).pool -/
def p_spec_l1Cur_pool (fu : Nat) (x0 : dy12) (x1 : Int) (x2 : Int) : Option (dy10 × Int × Int) :=
  (p_spec_l1Cur_among [2, 3, 1, 2, 4] x0 x1 x2).bind (fun r1 => whl (fun (s2 : Int × Int × Int × dy10) c4 => (if 0 < s2.1 then (p_spec_l1Cur_die x0 s2.2.1 s2.2.2.1).bind (fun r9 => (if 0 < (s2.2.2.2.length : Int) then (p_spec_l1Cur_one 3 x0 r9.2.1 r9.2.2).bind (fun r13 => (if r13.1 = true then if (s2.2.2.2.length : Int) + 1 ≤ 1000000000 then c4 ((IntKind.wrap .i64 (s2.1 - 1)), r13.2.1, r13.2.2, (s2.2.2.2 ++ [(s2.2.2.2.getD 0 (List.replicate 6 0))])) else none else if (s2.2.2.2.length : Int) + 1 ≤ 1000000000 then c4 ((IntKind.wrap .i64 (s2.1 - 1)), r13.2.1, r13.2.2, (s2.2.2.2 ++ [r9.1])) else none)) else c4 ((IntKind.wrap .i64 (s2.1 - 1)), r9.2.1, r9.2.2, (s2.2.2.2 ++ [r9.1])))) else (p_spec_l1Cur_pick 50 x0 s2.2.1 s2.2.2.1).bind (fun r17 => (if r17.1 = 0 then some ([], r17.2.1, r17.2.2) else (if r17.1 = 1 then whl (fun (s24 : dy10) c26 => (if (s24.length : Int) < 5 then if 0 < (s24.length : Int) then c26 (s24 ++ [(s24.getD 0 (List.replicate 6 0))]) else none else some (s24, r17.2.1, r17.2.2))) fu s2.2.2.2 else some (s2.2.2.2, r17.2.1, r17.2.2)))))) fu (r1.1, r1.2.1, r1.2.2, []))
/-- loop.example/g01210/spec.DrawNewTavern -/
def p_spec_DrawNewTavern (fu : Nat) (x0 : dy12) : Option (dy10 × Int) :=
  (p_spec_l1Cur_among [1, 0, 77, 65535, 65536, (-1), 12345] x0 0 0).bind (fun r1 => (p_spec_l1Cur_pool fu x0 r1.2.1 r1.2.2).bind (fun r2 => some (r2.1, r1.1)))
/-- slices.Clone[[][6]int,[6]int] -/
def p_slices_Clone_6_int_6_int (x0 : dy10) : Option (dy10) :=
  if 0 + (x0.length : Int) ≤ 1000000000 then some ([] ++ x0) else none
/-- loop.example/g01210/impl.within -/
def p_impl_within (x0 : Int) (x1 : Int) (x2 : Int) : Bool :=
  ((decide (x1 ≤ x0)) && (decide (x0 ≤ x2)))
/-- loop.example/g01210/impl.isFace -/
def p_impl_isFace (x0 : Int) : Bool :=
  (p_impl_within x0 0 30)
/-- loop.example/g01210/impl.areAll[int]$1 -/
def p_impl_areAll_int_1 (x0 : Int) : Bool :=
  (!(p_impl_isFace x0))
/-- slices.IndexFunc[[]int,int] -/
def p_slices_IndexFunc_int_int (x0 : dy12) : Int :=
  cnt (fun i2 (s1 : Unit) c3 _ => (if (p_impl_areAll_int_1 (x0.getD i2.toNat 0)) = true then i2 else c3 ())) (fun i2 (s1 : Unit) => (-1)) (Int.toNat ((x0.length : Int) - 0)) 0 ()
/-- slices.ContainsFunc[[]int,int] -/
def p_slices_ContainsFunc_int_int (x0 : dy12) : Bool :=
  (decide (0 ≤ (p_slices_IndexFunc_int_int x0)))
/-- loop.example/g01210/impl.areAll[int] -/
def p_impl_areAll_int (x0 : dy12) : Bool :=
  (!(p_slices_ContainsFunc_int_int x0))
/-- cmp.isNaN[int] -/
def p_cmp_isNaN_int (x0 : Int) : Bool :=
  (!(decide (x0 = x0)))
/-- cmp.Less[int] -/
def p_cmp_Less_int (x0 : Int) (x1 : Int) : Bool :=
  (((p_cmp_isNaN_int x0) && (!(p_cmp_isNaN_int x1))) || (decide (x0 < x1)))
/-- slices.IsSorted[[]int,int] -/
def p_slices_IsSorted_int_int (x0 : dy12) : Bool :=
  cntd (fun i2 (s1 : Unit) c3 _ => (if (p_cmp_Less_int (x0.getD i2.toNat 0) (x0.getD (i2 - 1).toNat 0)) = true then false else c3 ())) (fun i2 (s1 : Unit) => true) (Int.toNat (((x0.length : Int) - 1) - 0)) ((x0.length : Int) - 1) ()
/-- loop.example/g01210/impl.IsDie -/
def p_impl_IsDie (x0 : dy12) : Bool :=
  ((p_impl_areAll_int x0) && (p_slices_IsSorted_int_int x0))
/-- loop.example/g01210/impl.areAll[[6]int]$1 -/
def p_impl_areAll_6_int_1 (x0 : dy12) : Bool :=
  (!(p_impl_IsDie x0))
/-- slices.IndexFunc[[][6]int,[6]int] -/
def p_slices_IndexFunc_6_int_6_int (x0 : dy10) : Int :=
  cnt (fun i2 (s1 : Unit) c3 _ => (if (p_impl_areAll_6_int_1 (x0.getD i2.toNat (List.replicate 6 0))) = true then i2 else c3 ())) (fun i2 (s1 : Unit) => (-1)) (Int.toNat ((x0.length : Int) - 0)) 0 ()
/-- slices.ContainsFunc[[][6]int,[6]int] -/
def p_slices_ContainsFunc_6_int_6_int (x0 : dy10) : Bool :=
  (decide (0 ≤ (p_slices_IndexFunc_6_int_6_int x0)))
/-- loop.example/g01210/impl.areAll[[6]int] -/
def p_impl_areAll_6_int (x0 : dy10) : Bool :=
  (!(p_slices_ContainsFunc_6_int_6_int x0))
/-- loop.example/g01210/impl.IsPool -/
def p_impl_IsPool (x0 : dy10) : Bool :=
  ((p_impl_within (x0.length : Int) 1 4) && (p_impl_areAll_6_int x0))
/-- slices.Index[[]int,int] -/
def p_slices_Index_int_int (x0 : dy12) (x1 : Int) : Int :=
  cnt (fun i2 (s1 : Unit) c3 _ => (if x1 = (x0.getD i2.toNat 0) then i2 else c3 ())) (fun i2 (s1 : Unit) => (-1)) (Int.toNat ((x0.length : Int) - 0)) 0 ()
/-- slices.Contains[[]int,int] -/
def p_slices_Contains_int_int (x0 : dy12) (x1 : Int) : Bool :=
  (decide (0 ≤ (p_slices_Index_int_int x0 x1)))
/-- loop.example/g01210/impl.has -/
def p_impl_has (x0 : dy12) (x1 : Int) : Bool :=
  (p_slices_Contains_int_int x0 x1)
/-- (loop.example/g01210/impl.Tavern).isLast -/
def p_impl_Tavern_isLast (fu : Nat) (x0 : dy3) : Option (Bool) :=
  (if (x0.2.2.1.length : Int) = 0 then some true else whl (fun (s4 : Int) c6 => (if s4 < (x0.2.2.1.length : Int) then if 0 ≤ s4 then (if ((decide ((x0.1.length : Int) ≤ s4)) || (!(p_impl_has (x0.1.getD s4.toNat (List.replicate 6 0)) (x0.2.2.1.getD s4.toNat 0)))) = true then some false else c6 (IntKind.wrap .i64 (s4 + 1))) else none else some (decide ((x0.2.2.1.length : Int) = (x0.1.length : Int))))) fu 0)
/-- loop.example/g01210/impl.IsTavern -/
def p_impl_IsTavern (fu : Nat) (x0 : dy3) : Option (Bool) :=
  if ((((((p_impl_IsPool x0.1) && (p_impl_within x0.2.1 0 65535)) && (p_impl_within x0.2.2.2.1 0 100000)) && (p_impl_within x0.2.2.2.2.1 0 120)) && (p_impl_within x0.2.2.2.2.2.1 0 1000)) = true → (p_impl_Tavern_isLast fu (x0.1, (x0.2.1, (x0.2.2.1, (x0.2.2.2.1, (x0.2.2.2.2.1, (x0.2.2.2.2.2.1, ()))))))).isSome = true) then some ((((((p_impl_IsPool x0.1) && (p_impl_within x0.2.1 0 65535)) && (p_impl_within x0.2.2.2.1 0 100000)) && (p_impl_within x0.2.2.2.2.1 0 120)) && (p_impl_within x0.2.2.2.2.2.1 0 1000)) && ((p_impl_Tavern_isLast fu (x0.1, (x0.2.1, (x0.2.2.1, (x0.2.2.2.1, (x0.2.2.2.2.1, (x0.2.2.2.2.2.1, ()))))))).getD false)) else none
/-- loop.example/g01210/impl.NewTavern -/
def p_impl_NewTavern (fu : Nat) (x0 : dy10) (x1 : Int) : Option (dy3 × Bool) :=
  (p_slices_Clone_6_int_6_int x0).bind (fun r1 => (p_impl_IsTavern fu (r1, (x1, ([], (0, (0, (0, ()))))))).bind (fun r3 => (if r3 = true then some ((r1, (x1, ([], (0, (0, (0, ())))))), true) else some (([], (0, ([], (0, (0, (0, ())))))), false))))
/-- loop.example/g01210/spec.l1In -/
def p_spec_l1In (x0 : Int) (x1 : Int) (x2 : Int) : Bool :=
  ((decide (x1 ≤ x0)) && (decide (x0 ≤ x2)))
/-- loop.example/g01210/spec.l2Die -/
def p_spec_l2Die (x0 : dy12) : Option (Bool) :=
  cnt (fun i2 (s1 : Unit) c3 _ => (if ((!(p_spec_l1In (x0.getD i2.toNat 0) 0 30)) || ((decide (0 < i2)) && (decide ((x0.getD i2.toNat 0) < (x0.getD (i2 - 1).toNat 0))))) = true then some false else c3 ())) (fun i2 (s1 : Unit) => some true) (Int.toNat (6 - 0)) 0 ()
/-- loop.example/g01210/spec.l2Pool -/
def p_spec_l2Pool (x0 : dy10) : Option (Bool) :=
  cnt (fun i2 (s1 : Unit) c3 k16 => (if ((decide (i2 < (x0.length : Int))) && (decide (i2 ≤ 4))) = true then (p_spec_l2Die (x0.getD i2.toNat (List.replicate 6 0))).bind (fun r14 => (if r14 = true then c3 () else some false)) else k16 i2 s1)) (fun i2 (s1 : Unit) => some (p_spec_l1In (x0.length : Int) 1 4)) (Int.toNat ((x0.length : Int) - 0)) 0 ()
/-- loop.example/g01210/spec.l1Has -/
def p_spec_l1Has (x0 : dy12) (x1 : Int) : Bool :=
  cnt (fun i2 (s1 : Unit) c3 _ => (if (x0.getD i2.toNat 0) = x1 then true else c3 ())) (fun i2 (s1 : Unit) => false) (Int.toNat ((x0.length : Int) - 0)) 0 ()
/-- loop.example/g01210/spec.l12Last -/
def p_spec_l12Last (x0 : dy10) (x1 : dy12) : Bool :=
  (if (x1.length : Int) = 0 then true else cnt (fun i5 (s4 : Unit) c6 k22 => (if ((decide (i5 < (x1.length : Int))) && (decide (i5 < (x0.length : Int)))) = true then (if (p_spec_l1Has (x0.getD i5.toNat (List.replicate 6 0)) (x1.getD i5.toNat 0)) = true then c6 () else false) else k22 i5 s4)) (fun i5 (s4 : Unit) => (decide ((x1.length : Int) = (x0.length : Int)))) (Int.toNat ((x1.length : Int) - 0)) 0 ())
/-- loop.example/g01210/spec.l12Good -/
def p_spec_l12Good (x0 : dy3) : Option (Bool) :=
  (p_spec_l2Pool x0.1).bind (fun r1 => some (((((r1 && (p_spec_l1In x0.2.1 0 65535)) && (p_spec_l12Last x0.1 x0.2.2.1)) && (p_spec_l1In x0.2.2.2.1 0 100000)) && (p_spec_l1In x0.2.2.2.2.1 0 120)) && (p_spec_l1In x0.2.2.2.2.2.1 0 1000)))
/-- loop.example/g01210/spec.l2Own -/
def p_spec_l2Own (x0 : dy10) : Option (dy10) :=
  if 0 + (x0.length : Int) ≤ 1000000000 then some ([] ++ x0) else none
/-- loop.example/g01210/spec.l1Own -/
def p_spec_l1Own (x0 : dy12) : Option (dy12) :=
  if 0 + (x0.length : Int) ≤ 1000000000 then some ([] ++ x0) else none
/-- loop.example/g01210/spec.l12Own -/
def p_spec_l12Own (x0 : dy3) : Option (dy3) :=
  (p_spec_l2Own x0.1).bind (fun r1 => (p_spec_l1Own x0.2.2.1).bind (fun r3 => some (r1, (x0.2.1, (r3, (x0.2.2.2.1, (x0.2.2.2.2.1, (x0.2.2.2.2.2.1, ()))))))))
/-- loop.example/g01210/spec.NewTavern -/
def p_spec_NewTavern (x0 : dy10) (x1 : Int) : Option (dy3 × Bool) :=
  (p_spec_l12Good (x0, (x1, ([], (0, (0, (0, ()))))))).bind (fun r1 => (if r1 = true then (p_spec_l12Own (x0, (x1, ([], (0, (0, (0, ()))))))).bind (fun r3 => some ((r3.1, (r3.2.1, (r3.2.2.1, (r3.2.2.2.1, (r3.2.2.2.2.1, (r3.2.2.2.2.2.1, ())))))), true)) else some (([], (0, ([], (0, (0, (0, ())))))), false)))
/-- loop.example/g01210/laws.rDice -/
def p_laws_rDice (x0 : dy10) (x1 : dy10) : Bool :=
  (if (x0.length : Int) = (x1.length : Int) then cnt (fun i5 (s4 : Unit) c6 _ => (if (x0.getD i5.toNat (List.replicate 6 0)) = (x1.getD i5.toNat (List.replicate 6 0)) then c6 () else false)) (fun i5 (s4 : Unit) => true) (Int.toNat ((x0.length : Int) - 0)) 0 () else false)
/-- loop.example/g01210/laws.rInts -/
def p_laws_rInts (x0 : dy12) (x1 : dy12) : Bool :=
  (if (x0.length : Int) = (x1.length : Int) then cnt (fun i5 (s4 : Unit) c6 _ => (if (x0.getD i5.toNat 0) = (x1.getD i5.toNat 0) then c6 () else false)) (fun i5 (s4 : Unit) => true) (Int.toNat ((x0.length : Int) - 0)) 0 () else false)
/-- loop.example/g01210/laws.rTavern -/
def p_laws_rTavern (x0 : dy3) (x1 : dy3) : Bool :=
  ((((((p_laws_rDice x0.1 x1.1) && (decide (x0.2.1 = x1.2.1))) && (p_laws_rInts x0.2.2.1 x1.2.2.1)) && (decide (x0.2.2.2.1 = x1.2.2.2.1))) && (decide (x0.2.2.2.2.1 = x1.2.2.2.2.1))) && (decide (x0.2.2.2.2.2.1 = x1.2.2.2.2.2.1)))
/-- loop.example/g01210/laws.rCut -/
def p_laws_rCut (x0 : dy12) (x1 : Int) : Option (dy12) :=
  (if (x0.length : Int) < x1 then some (x0.drop (x0.length : Int).toNat) else if 0 ≤ x1 then some (x0.drop x1.toNat) else none)
/-- loop.example/g01210/spec.l1Least -/
def p_spec_l1Least (x0 : Int) (x1 : Int) : Int :=
  (if x0 < x1 then x0 else x1)
/-- loop.example/g01210/spec.l1Most -/
def p_spec_l1Most (x0 : Int) (x1 : Int) : Int :=
  (if x1 < x0 then x0 else x1)
/-- (*loop.example/g01210/spec.l1Cur).task12 -/
def p_spec_l1Cur_task12 (x0 : dy3) (x1 : dy12) (x2 : Int) (x3 : Int) : Option (dy6 × Int × Int) :=
  (p_spec_l1Cur_among [1, 1, 1, 2, 2, 3, 4, 5, 6] x1 x2 x3).bind (fun r1 => jn (fun (s2 : Int × Int × Int × Int) => (p_spec_l1Cur_pick 32 x1 s2.1 s2.2.1).bind (fun r5 => (if r5.1 = 0 then (p_spec_l1Cur_among [(-1), 31, 16, 4611686018427387904, (-9223372036854775808)] x1 r5.2.1 r5.2.2).bind (fun r9 => some ((r1.1, (r9.1, (s2.2.2.2, ()))), r9.2.1, r9.2.2)) else (if r5.1 = 1 then (p_spec_l1Cur_among [(-1), 31, 1, 4611686018427387904] x1 r5.2.1 r5.2.2).bind (fun r13 => some ((r1.1, (s2.2.2.1, (r13.1, ()))), r13.2.1, r13.2.2)) else (if r5.1 = 2 then (p_spec_l1Cur_among [0, 7, (-1)] x1 r5.2.1 r5.2.2).bind (fun r17 => some ((r17.1, (s2.2.2.1, (s2.2.2.2, ()))), r17.2.1, r17.2.2)) else some ((r1.1, (s2.2.2.1, (s2.2.2.2, ()))), r5.2.1, r5.2.2)))))) (fun k3 => (if r1.1 = 2 then if 0 ≤ (p_spec_l1Least (x0.1.length : Int) 4) then (p_spec_l1Cur_pick (shlI .i64 1 (p_spec_l1Least (x0.1.length : Int) 4)) x1 r1.2.1 r1.2.2).bind (fun r22 => k3 (r22.2.1, r22.2.2, (IntKind.wrap .i64 (1 + r22.1)), 0)) else none else (if r1.1 = 3 then (p_spec_l1Cur_pick (p_spec_l1Most 1 (x0.1.length : Int)) x1 r1.2.1 r1.2.2).bind (fun r26 => (p_spec_l1Cur_among [1, (-1), 2, 0, 10] x1 r26.2.1 r26.2.2).bind (fun r27 => k3 (r27.2.1, r27.2.2, r26.1, r27.1))) else (if r1.1 = 4 then (p_spec_l1Cur_among [1, 0, 5, 30, 2] x1 r1.2.1 r1.2.2).bind (fun r31 => (p_spec_l1Cur_among [1, 0, 5, 2, 6] x1 r31.2.1 r31.2.2).bind (fun r32 => k3 (r32.2.1, r32.2.2, r31.1, r32.1))) else (if r1.1 = 5 then (p_spec_l1Cur_pick (p_spec_l1Most 1 (x0.1.length : Int)) x1 r1.2.1 r1.2.2).bind (fun r36 => k3 (r36.2.1, r36.2.2, r36.1, 0)) else k3 (r1.2.1, r1.2.2, 0, 0)))))))
/-- loop.example/g01210/spec.l12Dice -/
def p_spec_l12Dice (x0 : dy3) (x1 : dy10) : dy3 :=
  (x1, (x0.2.1, ([], (x0.2.2.2.1, (x0.2.2.2.2.1, (x0.2.2.2.2.2.1, ()))))))
/-- loop.example/g01210/spec.l12Throw -/
def p_spec_l12Throw (x0 : dy12) (x1 : Int) : Option (Int × Int) :=
  if 0 ≤ ((IntKind.wrap .i64 (((IntKind.wrap .i64 ((IntKind.wrap .i64 (25173 * x1)) + 13849)).tmod 65536).tdiv 256)).tmod 6) then if ((IntKind.wrap .i64 (((IntKind.wrap .i64 ((IntKind.wrap .i64 (25173 * x1)) + 13849)).tmod 65536).tdiv 256)).tmod 6) < 6 then some (((IntKind.wrap .i64 ((IntKind.wrap .i64 (25173 * x1)) + 13849)).tmod 65536), (x0.getD ((IntKind.wrap .i64 (((IntKind.wrap .i64 ((IntKind.wrap .i64 (25173 * x1)) + 13849)).tmod 65536).tdiv 256)).tmod 6).toNat 0)) else none else none
/-- loop.example/g01210/spec.l12Add -/
def p_spec_l12Add (x0 : dy12) : Int :=
  cnt (fun i2 (s1 : Int) c3 _ => c3 (IntKind.wrap .i64 (s1 + (x0.getD i2.toNat 0)))) (fun i2 (s1 : Int) => s1) (Int.toNat ((x0.length : Int) - 0)) 0 0
/-- loop.example/g01210/spec.l12Rolled -/
def p_spec_l12Rolled (fu : Nat) (x0 : dy3) (x1 : Int) (x2 : Int) : Option (dy3) :=
  (p_spec_l1Own x0.2.2.1).bind (fun r1 => whl (fun (s3 : Int × Int × dy12) c5 => (if s3.1 < (x0.1.length : Int) then jn (fun (s10 : dy12) => if 0 ≤ s3.1 then (if (andI .i64 (shrI .i64 x1 s3.1) 1) = 1 then (p_spec_l12Throw (x0.1.getD s3.1.toNat (List.replicate 6 0)) s3.2.1).bind (fun r17 => if s3.1 < (s10.length : Int) then c5 ((IntKind.wrap .i64 (s3.1 + 1)), r17.1, (s10.set s3.1.toNat r17.2)) else none) else c5 ((IntKind.wrap .i64 (s3.1 + 1)), s3.2.1, s10)) else none) (fun k11 => (if (s3.2.2.length : Int) ≤ s3.1 then if (s3.2.2.length : Int) + 1 ≤ 1000000000 then k11 (s3.2.2 ++ [0]) else none else k11 s3.2.2)) else some (x0.1, (s3.2.1, (s3.2.2, ((IntKind.wrap .i64 ((IntKind.wrap .i64 (x0.2.2.2.1 + (p_spec_l12Add s3.2.2))) - x2)), ((p_spec_l1Most x0.2.2.2.2.1 (p_spec_l12Add s3.2.2)), (x0.2.2.2.2.2.1, ())))))))) fu (0, x0.2.1, r1))
/-- loop.example/g01210/spec.l12Place -/
def p_spec_l12Place (x0 : dy3) (x1 : Int) : Bool :=
  (p_spec_l1In x1 0 (IntKind.wrap .i64 ((x0.1.length : Int) - 1)))
/-- loop.example/g01210/spec.ShiftDie -/
def p_spec_ShiftDie (x0 : dy12) (x1 : Int) : Option (dy12 × Bool) :=
  (p_spec_l2Die x0).bind (fun r1 => (if ((!r1) || (!(p_spec_l1In x1 (-30) 30))) = true then some ((List.replicate 6 0), false) else cnt (fun i9 (s8 : dy12) c10 _ => c10 (s8.set i9.toNat (IntKind.wrap .i64 ((s8.getD i9.toNat 0) + x1)))) (fun i9 (s8 : dy12) => (p_spec_l2Die s8).bind (fun r15 => (if r15 = true then some (s8, true) else some ((List.replicate 6 0), false)))) (Int.toNat (6 - 0)) 0 x0))
/-- loop.example/g01210/spec.l12Dice -/
def p_spec_l12Dicev1 (x0 : dy3) (x1 : dy10) : dy3 :=
  (x1, (x0.2.1, ([], (x0.2.2.2.1, (x0.2.2.2.2.1, (x0.2.2.2.2.2.1, ()))))))
/-- loop.example/g01210/spec.l12Make -/
def p_spec_l12Make (fu : Nat) (x0 : dy3) (x1 : dy6) : Option (dy3 × Bool) :=
  (if x1.1 = 1 then (p_spec_l12Rolled fu (p_spec_l12Dice (x0.1, (x0.2.1, (x0.2.2.1, (x0.2.2.2.1, (x0.2.2.2.2.1, (x0.2.2.2.2.2.1, ())))))) x0.1) (IntKind.wrap .i64 ((shlI .i64 1 (x0.1.length : Int)) - 1)) 0).bind (fun r4 => some ((r4.1, (r4.2.1, (r4.2.2.1, (r4.2.2.2.1, (r4.2.2.2.2.1, (r4.2.2.2.2.2.1, ())))))), ((decide (x1.2.1 = 0)) && (decide (x1.2.2.1 = 0))))) else (if x1.1 = 2 then (if (((decide ((x0.2.2.1.length : Int) = 0)) || (!(p_spec_l1In x1.2.1 1 (IntKind.wrap .i64 ((shlI .i64 1 (x0.1.length : Int)) - 1))))) || (!(decide (x1.2.2.1 = 0)))) = true then some ((x0.1, (x0.2.1, (x0.2.2.1, (x0.2.2.2.1, (x0.2.2.2.2.1, (x0.2.2.2.2.2.1, ())))))), false) else (p_spec_l12Rolled fu (x0.1, (x0.2.1, (x0.2.2.1, (x0.2.2.2.1, (x0.2.2.2.2.1, (x0.2.2.2.2.2.1, ())))))) x1.2.1 (p_spec_l12Add x0.2.2.1)).bind (fun r57 => some ((r57.1, (r57.2.1, (r57.2.2.1, (r57.2.2.2.1, (r57.2.2.2.2.1, (r57.2.2.2.2.2.1, ())))))), true))) else (if x1.1 = 3 then (if (p_spec_l12Place (x0.1, (x0.2.1, (x0.2.2.1, (x0.2.2.2.1, (x0.2.2.2.2.1, (x0.2.2.2.2.2.1, ())))))) x1.2.1) = true then if 0 ≤ x1.2.1 then if x1.2.1 < (x0.1.length : Int) then (p_spec_ShiftDie (x0.1.getD x1.2.1.toNat (List.replicate 6 0)) x1.2.2.1).bind (fun r64 => (p_spec_l2Own x0.1).bind (fun r91 => if x1.2.1 < (r91.length : Int) then some (((p_spec_l12Dicev1 (x0.1, (x0.2.1, (x0.2.2.1, (x0.2.2.2.1, (x0.2.2.2.2.1, (x0.2.2.2.2.2.1, ())))))) (r91.set x1.2.1.toNat r64.1)).1, (((p_spec_l12Dicev1 (x0.1, (x0.2.1, (x0.2.2.1, (x0.2.2.2.1, (x0.2.2.2.2.1, (x0.2.2.2.2.2.1, ())))))) (r91.set x1.2.1.toNat r64.1)).2).1, ((((p_spec_l12Dicev1 (x0.1, (x0.2.1, (x0.2.2.1, (x0.2.2.2.1, (x0.2.2.2.2.1, (x0.2.2.2.2.2.1, ())))))) (r91.set x1.2.1.toNat r64.1)).2).2).1, (((((p_spec_l12Dicev1 (x0.1, (x0.2.1, (x0.2.2.1, (x0.2.2.2.1, (x0.2.2.2.2.1, (x0.2.2.2.2.2.1, ())))))) (r91.set x1.2.1.toNat r64.1)).2).2).2).1, ((((((p_spec_l12Dicev1 (x0.1, (x0.2.1, (x0.2.2.1, (x0.2.2.2.1, (x0.2.2.2.2.1, (x0.2.2.2.2.2.1, ())))))) (r91.set x1.2.1.toNat r64.1)).2).2).2).2).1, (((((((p_spec_l12Dicev1 (x0.1, (x0.2.1, (x0.2.2.1, (x0.2.2.2.1, (x0.2.2.2.2.1, (x0.2.2.2.2.2.1, ())))))) (r91.set x1.2.1.toNat r64.1)).2).2).2).2).2).1, ())))))), r64.2) else none)) else none else none else some ((x0.1, (x0.2.1, (x0.2.2.1, (x0.2.2.2.1, (x0.2.2.2.2.1, (x0.2.2.2.2.2.1, ())))))), false)) else (if x1.1 = 4 then (if ((!(p_spec_l1In x1.2.1 0 30)) || (!(p_spec_l1In x1.2.2.1 0 30))) = true then some ((x0.1, (x0.2.1, (x0.2.2.1, (x0.2.2.2.1, (x0.2.2.2.2.1, (x0.2.2.2.2.2.1, ())))))), false) else cnt (fun i107 (s106 : dy12) c108 _ => c108 (s106.set i107.toNat (IntKind.wrap .i64 (x1.2.1 + (IntKind.wrap .i64 (i107 * x1.2.2.1)))))) (fun i107 (s106 : dy12) => (p_spec_l2Own x0.1).bind (fun r113 => if (r113.length : Int) + 1 ≤ 1000000000 then some (((p_spec_l12Dicev1 (x0.1, (x0.2.1, (x0.2.2.1, (x0.2.2.2.1, (x0.2.2.2.2.1, (x0.2.2.2.2.2.1, ())))))) (r113 ++ [s106])).1, (((p_spec_l12Dicev1 (x0.1, (x0.2.1, (x0.2.2.1, (x0.2.2.2.1, (x0.2.2.2.2.1, (x0.2.2.2.2.2.1, ())))))) (r113 ++ [s106])).2).1, ((((p_spec_l12Dicev1 (x0.1, (x0.2.1, (x0.2.2.1, (x0.2.2.2.1, (x0.2.2.2.2.1, (x0.2.2.2.2.2.1, ())))))) (r113 ++ [s106])).2).2).1, (((((p_spec_l12Dicev1 (x0.1, (x0.2.1, (x0.2.2.1, (x0.2.2.2.1, (x0.2.2.2.2.1, (x0.2.2.2.2.2.1, ())))))) (r113 ++ [s106])).2).2).2).1, ((((((p_spec_l12Dicev1 (x0.1, (x0.2.1, (x0.2.2.1, (x0.2.2.2.1, (x0.2.2.2.2.1, (x0.2.2.2.2.2.1, ())))))) (r113 ++ [s106])).2).2).2).2).1, (((((((p_spec_l12Dicev1 (x0.1, (x0.2.1, (x0.2.2.1, (x0.2.2.2.1, (x0.2.2.2.2.1, (x0.2.2.2.2.2.1, ())))))) (r113 ++ [s106])).2).2).2).2).2).1, ())))))), true) else none)) (Int.toNat (6 - 0)) 0 (List.replicate 6 0)) else (if x1.1 = 5 then (if ((!(p_spec_l12Place (x0.1, (x0.2.1, (x0.2.2.1, (x0.2.2.2.1, (x0.2.2.2.2.1, (x0.2.2.2.2.2.1, ())))))) x1.2.1)) || (!(decide (x1.2.2.1 = 0)))) = true then some ((x0.1, (x0.2.1, (x0.2.2.1, (x0.2.2.2.1, (x0.2.2.2.2.1, (x0.2.2.2.2.2.1, ())))))), false) else if 0 ≤ x1.2.1 then if x1.2.1 ≤ (x0.1.length : Int) then (p_spec_l2Own (x0.1.take x1.2.1.toNat)).bind (fun r153 => if 0 ≤ (IntKind.wrap .i64 (x1.2.1 + 1)) then if (IntKind.wrap .i64 (x1.2.1 + 1)) ≤ (x0.1.length : Int) then if (r153.length : Int) + ((x0.1.length : Int) - (IntKind.wrap .i64 (x1.2.1 + 1))) ≤ 1000000000 then some (((p_spec_l12Dicev1 (x0.1, (x0.2.1, (x0.2.2.1, (x0.2.2.2.1, (x0.2.2.2.2.1, (x0.2.2.2.2.2.1, ())))))) (r153 ++ (x0.1.drop (IntKind.wrap .i64 (x1.2.1 + 1)).toNat))).1, (((p_spec_l12Dicev1 (x0.1, (x0.2.1, (x0.2.2.1, (x0.2.2.2.1, (x0.2.2.2.2.1, (x0.2.2.2.2.2.1, ())))))) (r153 ++ (x0.1.drop (IntKind.wrap .i64 (x1.2.1 + 1)).toNat))).2).1, ((((p_spec_l12Dicev1 (x0.1, (x0.2.1, (x0.2.2.1, (x0.2.2.2.1, (x0.2.2.2.2.1, (x0.2.2.2.2.2.1, ())))))) (r153 ++ (x0.1.drop (IntKind.wrap .i64 (x1.2.1 + 1)).toNat))).2).2).1, (((((p_spec_l12Dicev1 (x0.1, (x0.2.1, (x0.2.2.1, (x0.2.2.2.1, (x0.2.2.2.2.1, (x0.2.2.2.2.2.1, ())))))) (r153 ++ (x0.1.drop (IntKind.wrap .i64 (x1.2.1 + 1)).toNat))).2).2).2).1, ((((((p_spec_l12Dicev1 (x0.1, (x0.2.1, (x0.2.2.1, (x0.2.2.2.1, (x0.2.2.2.2.1, (x0.2.2.2.2.2.1, ())))))) (r153 ++ (x0.1.drop (IntKind.wrap .i64 (x1.2.1 + 1)).toNat))).2).2).2).2).1, (((((((p_spec_l12Dicev1 (x0.1, (x0.2.1, (x0.2.2.1, (x0.2.2.2.1, (x0.2.2.2.2.1, (x0.2.2.2.2.2.1, ())))))) (r153 ++ (x0.1.drop (IntKind.wrap .i64 (x1.2.1 + 1)).toNat))).2).2).2).2).2).1, ())))))), true) else none else none else none) else none else none) else (if x1.1 = 6 then some (((p_spec_l12Dice (x0.1, (x0.2.1, (x0.2.2.1, (0, (0, (x0.2.2.2.2.2.1, ())))))) x0.1).1, (((p_spec_l12Dice (x0.1, (x0.2.1, (x0.2.2.1, (0, (0, (x0.2.2.2.2.2.1, ())))))) x0.1).2).1, ((((p_spec_l12Dice (x0.1, (x0.2.1, (x0.2.2.1, (0, (0, (x0.2.2.2.2.2.1, ())))))) x0.1).2).2).1, (((((p_spec_l12Dice (x0.1, (x0.2.1, (x0.2.2.1, (0, (0, (x0.2.2.2.2.2.1, ())))))) x0.1).2).2).2).1, ((((((p_spec_l12Dice (x0.1, (x0.2.1, (x0.2.2.1, (0, (0, (x0.2.2.2.2.2.1, ())))))) x0.1).2).2).2).2).1, (((((((p_spec_l12Dice (x0.1, (x0.2.1, (x0.2.2.1, (0, (0, (x0.2.2.2.2.2.1, ())))))) x0.1).2).2).2).2).2).1, ())))))), ((decide (x1.2.1 = 0)) && (decide (x1.2.2.1 = 0)))) else some ((x0.1, (x0.2.1, (x0.2.2.1, (x0.2.2.2.1, (x0.2.2.2.2.1, (x0.2.2.2.2.2.1, ())))))), false)))))))
/-- loop.example/g01210/spec.l12Do -/
def p_spec_l12Do (fu : Nat) (x0 : dy3) (x1 : dy6) : Option (dy3 × Bool) :=
  (p_spec_l12Make fu (x0.1, (x0.2.1, (x0.2.2.1, (x0.2.2.2.1, (x0.2.2.2.2.1, (x0.2.2.2.2.2.1, ())))))) (x1.1, (x1.2.1, (x1.2.2.1, ())))).bind (fun r1 => if ((!(!r1.2)) = true → (p_spec_l12Good (r1.1.1, (r1.1.2.1, (r1.1.2.2.1, (r1.1.2.2.2.1, (r1.1.2.2.2.2.1, ((IntKind.wrap .i64 (x0.2.2.2.2.2.1 + 1)), ()))))))).isSome = true) then (if ((!r1.2) || (!((p_spec_l12Good (r1.1.1, (r1.1.2.1, (r1.1.2.2.1, (r1.1.2.2.2.1, (r1.1.2.2.2.2.1, ((IntKind.wrap .i64 (x0.2.2.2.2.2.1 + 1)), ()))))))).getD false))) = true then some (([], (0, ([], (0, (0, (0, ())))))), false) else (p_spec_l12Own (r1.1.1, (r1.1.2.1, (r1.1.2.2.1, (r1.1.2.2.2.1, (r1.1.2.2.2.2.1, ((IntKind.wrap .i64 (x0.2.2.2.2.2.1 + 1)), ()))))))).bind (fun r9 => some ((r9.1, (r9.2.1, (r9.2.2.1, (r9.2.2.2.1, (r9.2.2.2.2.1, (r9.2.2.2.2.2.1, ())))))), true))) else none)
/-- (*loop.example/g01210/spec.l1Cur).tavern -/
def p_spec_l1Cur_tavern (fu : Nat) (x0 : dy12) (x1 : Int) (x2 : Int) : Option (dy3 × Int × Int) :=
  (p_spec_l1Cur_pick 200 x0 x1 x2).bind (fun r1 => (p_spec_l1Cur_among [1, 300, 17] x0 r1.2.1 r1.2.2).bind (fun r2 => (p_spec_l1Cur_pool fu x0 r2.2.1 r2.2.2).bind (fun r3 => (p_spec_NewTavern r3.1 (IntKind.wrap .i64 (r1.1 * r2.1))).bind (fun r5 => (p_spec_l1Cur_pick 6 x0 r3.2.1 r3.2.2).bind (fun r8 => whl (fun (s9 : Int × Int × Int × dy10 × Int × dy12 × Int × Int × Int) c11 => (if ((decide (0 < s9.1)) && r5.2) = true then (p_spec_l1Cur_task12 (s9.2.2.2.1, (s9.2.2.2.2.1, (s9.2.2.2.2.2.1, (s9.2.2.2.2.2.2.1, (s9.2.2.2.2.2.2.2.1, (s9.2.2.2.2.2.2.2.2, ())))))) x0 s9.2.1 s9.2.2.1).bind (fun r19 => (p_spec_l12Do fu (s9.2.2.2.1, (s9.2.2.2.2.1, (s9.2.2.2.2.2.1, (s9.2.2.2.2.2.2.1, (s9.2.2.2.2.2.2.2.1, (s9.2.2.2.2.2.2.2.2, ())))))) r19.1).bind (fun r20 => (if r20.2 = true then c11 ((IntKind.wrap .i64 (s9.1 - 1)), r19.2.1, r19.2.2, r20.1.1, r20.1.2.1, r20.1.2.2.1, r20.1.2.2.2.1, r20.1.2.2.2.2.1, r20.1.2.2.2.2.2.1) else c11 ((IntKind.wrap .i64 (s9.1 - 1)), r19.2.1, r19.2.2, s9.2.2.2.1, s9.2.2.2.2.1, s9.2.2.2.2.2.1, s9.2.2.2.2.2.2.1, s9.2.2.2.2.2.2.2.1, s9.2.2.2.2.2.2.2.2)))) else (p_spec_l1Cur_pick 48 x0 s9.2.1 s9.2.2.1).bind (fun r40 => (if r40.1 = 0 then (p_spec_l1Cur_among [(-1), 1000, 1001] x0 r40.2.1 r40.2.2).bind (fun r44 => some ((s9.2.2.2.1, (s9.2.2.2.2.1, (s9.2.2.2.2.2.1, (s9.2.2.2.2.2.2.1, (s9.2.2.2.2.2.2.2.1, (r44.1, ())))))), r44.2.1, r44.2.2)) else (if r40.1 = 1 then (p_spec_l1Cur_among [(-1), 100000, 100001, 99999] x0 r40.2.1 r40.2.2).bind (fun r48 => some ((s9.2.2.2.1, (s9.2.2.2.2.1, (s9.2.2.2.2.2.1, (r48.1, (s9.2.2.2.2.2.2.2.1, (s9.2.2.2.2.2.2.2.2, ())))))), r48.2.1, r48.2.2)) else (if r40.1 = 2 then (p_spec_l1Cur_among [(-1), 121, 120] x0 r40.2.1 r40.2.2).bind (fun r52 => some ((s9.2.2.2.1, (s9.2.2.2.2.1, (s9.2.2.2.2.2.1, (s9.2.2.2.2.2.2.1, (r52.1, (s9.2.2.2.2.2.2.2.2, ())))))), r52.2.1, r52.2.2)) else (if r40.1 = 3 then (p_spec_l1Cur_among [(-1), 65535, 65536] x0 r40.2.1 r40.2.2).bind (fun r56 => some ((s9.2.2.2.1, (r56.1, (s9.2.2.2.2.2.1, (s9.2.2.2.2.2.2.1, (s9.2.2.2.2.2.2.2.1, (s9.2.2.2.2.2.2.2.2, ())))))), r56.2.1, r56.2.2)) else (if r40.1 = 4 then (p_spec_l1Own s9.2.2.2.2.2.1).bind (fun r60 => (p_spec_l1Cur_face x0 r40.2.1 r40.2.2).bind (fun r62 => if (r60.length : Int) + 1 ≤ 1000000000 then some ((s9.2.2.2.1, (s9.2.2.2.2.1, ((r60 ++ [r62.1]), (s9.2.2.2.2.2.2.1, (s9.2.2.2.2.2.2.2.1, (s9.2.2.2.2.2.2.2.2, ())))))), r62.2.1, r62.2.2) else none)) else some ((s9.2.2.2.1, (s9.2.2.2.2.1, (s9.2.2.2.2.2.1, (s9.2.2.2.2.2.2.1, (s9.2.2.2.2.2.2.2.1, (s9.2.2.2.2.2.2.2.2, ())))))), r40.2.1, r40.2.2))))))))) fu (r8.1, r8.2.1, r8.2.2, r5.1.1, r5.1.2.1, r5.1.2.2.1, r5.1.2.2.2.1, r5.1.2.2.2.2.1, r5.1.2.2.2.2.2.1))))))
/-- loop.example/g01210/spec.DrawDoTask -/
def p_spec_DrawDoTask (fu : Nat) (x0 : dy12) : Option (dy3 × dy6) :=
  (p_spec_l1Cur_tavern fu x0 0 0).bind (fun r1 => (p_spec_l1Cur_task12 (r1.1.1, (r1.1.2.1, (r1.1.2.2.1, (r1.1.2.2.2.1, (r1.1.2.2.2.2.1, (r1.1.2.2.2.2.2.1, ())))))) x0 r1.2.1 r1.2.2).bind (fun r2 => some ((r1.1.1, (r1.1.2.1, (r1.1.2.2.1, (r1.1.2.2.2.1, (r1.1.2.2.2.2.1, (r1.1.2.2.2.2.2.1, ())))))), (r2.1.1, (r2.1.2.1, (r2.1.2.2.1, ()))))))
/-- slices.Clone[[]int,int] -/
def p_slices_Clone_int_int (x0 : dy12) : Option (dy12) :=
  if 0 + (x0.length : Int) ≤ 1000000000 then some ([] ++ x0) else none
/-- (loop.example/g01210/impl.Tavern).own -/
def p_impl_Tavern_own (x0 : dy3) : Option (dy3) :=
  (p_slices_Clone_6_int_6_int x0.1).bind (fun r1 => (p_slices_Clone_int_int x0.2.2.1).bind (fun r3 => some (r1, (x0.2.1, (r3, (x0.2.2.2.1, (x0.2.2.2.2.1, (x0.2.2.2.2.2.1, ()))))))))
/-- (*loop.example/g01210/impl.Tavern).throw -/
def p_impl_Tavern_throwv1 (x0 : Int) (x1 : Int) (x2 : Int) (x3 : Int) (x4 : Int) (x5 : dy10) (x6 : dy12) : Option (Int × Int) :=
  if 0 ≤ x0 then if x0 < (x5.length : Int) then if 0 ≤ ((IntKind.wrap .i64 (((IntKind.wrap .i64 ((IntKind.wrap .i64 (25173 * x1)) + 13849)).tmod 65536).tdiv 256)).tmod 6) then if ((IntKind.wrap .i64 (((IntKind.wrap .i64 ((IntKind.wrap .i64 (25173 * x1)) + 13849)).tmod 65536).tdiv 256)).tmod 6) < 6 then some (((x5.getD x0.toNat (List.replicate 6 0)).getD ((IntKind.wrap .i64 (((IntKind.wrap .i64 ((IntKind.wrap .i64 (25173 * x1)) + 13849)).tmod 65536).tdiv 256)).tmod 6).toNat 0), ((IntKind.wrap .i64 ((IntKind.wrap .i64 (25173 * x1)) + 13849)).tmod 65536)) else none else none else none else none
/-- loop.example/g01210/impl.total -/
def p_impl_total (x0 : dy12) : Int :=
  cnt (fun i2 (s1 : Int) c3 _ => c3 (IntKind.wrap .i64 (s1 + (x0.getD i2.toNat 0)))) (fun i2 (s1 : Int) => s1) (Int.toNat ((x0.length : Int) - 0)) 0 0
/-- (*loop.example/g01210/impl.Tavern).roll -/
def p_impl_Tavern_roll (x0 : Int) (x1 : Int) (x2 : Int) (x3 : Int) (x4 : dy10) (x5 : dy12) : Option (Bool × Int × Int × Int × dy12) :=
  cnt (fun i2 (s1 : Int × dy12) c3 _ => (p_impl_Tavern_throwv1 i2 s1.1 x1 x2 x3 x4 s1.2).bind (fun r8 => if (s1.2.length : Int) + 1 ≤ 1000000000 then c3 (r8.2, (s1.2 ++ [r8.1])) else none)) (fun i2 (s1 : Int × dy12) => some (true, s1.1, (IntKind.wrap .i64 (x1 + (p_impl_total s1.2))), (if (p_impl_total s1.2) > x2 then (p_impl_total s1.2) else x2), s1.2)) (Int.toNat ((x4.length : Int) - 0)) 0 (x0, [])
/-- loop.example/g01210/impl.isIn -/
def p_impl_isIn (x0 : Int) (x1 : Int) : Option (Bool) :=
  if 0 ≤ x1 then some (decide ((andI .i64 (shrI .i64 x0 x1) 1) = 1)) else none
/-- (*loop.example/g01210/impl.Tavern).again -/
def p_impl_Tavern_again (x0 : Int) (x1 : Int) (x2 : Int) (x3 : Int) (x4 : Int) (x5 : dy10) (x6 : dy12) : Option (Bool × Int × Int × Int × dy12) :=
  (if ((decide ((x6.length : Int) = 0)) || (!(p_impl_within x0 1 (IntKind.wrap .i64 ((shlI .i64 1 (x5.length : Int)) - 1))))) = true then some (false, x1, x2, x3, x6) else cnt (fun i26 (s25 : Int × dy12) c27 _ => (p_impl_isIn x0 i26).bind (fun r32 => (if r32 = true then (p_impl_Tavern_throwv1 i26 s25.1 x2 x3 x4 x5 s25.2).bind (fun r34 => if i26 < (x6.length : Int) then c27 (r34.2, (s25.2.set i26.toNat r34.1)) else none) else c27 (s25.1, s25.2)))) (fun i26 (s25 : Int × dy12) => some (true, s25.1, (IntKind.wrap .i64 (x2 + (IntKind.wrap .i64 ((p_impl_total s25.2) - (p_impl_total x6))))), (if (p_impl_total s25.2) > x3 then (p_impl_total s25.2) else x3), s25.2)) (Int.toNat ((x5.length : Int) - 0)) 0 (x1, x6))
/-- (*loop.example/g01210/impl.Tavern).isPlace -/
def p_impl_Tavern_isPlace (x0 : Int) (x1 : Int) (x2 : Int) (x3 : Int) (x4 : Int) (x5 : dy10) (x6 : dy12) : Bool :=
  (p_impl_within x0 0 ((x5.length : Int) - 1))
/-- loop.example/g01210/impl.shifted -/
def p_impl_shifted (x0 : dy12) (x1 : Int) : dy12 :=
  cnt (fun i2 (s1 : dy12) c3 _ => c3 (s1.set i2.toNat (IntKind.wrap .i64 ((s1.getD i2.toNat 0) + x1)))) (fun i2 (s1 : dy12) => s1) (Int.toNat (6 - 0)) 0 x0
/-- loop.example/g01210/impl.ShiftDie -/
def p_impl_ShiftDie (x0 : dy12) (x1 : Int) : dy12 × Bool :=
  (if (((!(p_impl_IsDie x0)) || (!(p_impl_within x1 (-30) 30))) || (!(p_impl_IsDie (p_impl_shifted x0 x1)))) = true then ((List.replicate 6 0), false) else ((p_impl_shifted x0 x1), true))
/-- (*loop.example/g01210/impl.Tavern).shift -/
def p_impl_Tavern_shift (x0 : Int) (x1 : Int) (x2 : Int) (x3 : Int) (x4 : Int) (x5 : Int) (x6 : dy10) (x7 : dy12) : Option (Bool × dy10 × dy12) :=
  (if (p_impl_Tavern_isPlace x0 x2 x3 x4 x5 x6 x7) = true then if 0 ≤ x0 then if x0 < (x6.length : Int) then some (((p_impl_ShiftDie (x6.getD x0.toNat (List.replicate 6 0)) x1).2), (x6.set x0.toNat ((p_impl_ShiftDie (x6.getD x0.toNat (List.replicate 6 0)) x1).1)), []) else none else none else some (false, x6, x7))
/-- (*loop.example/g01210/impl.Tavern).put -/
def p_impl_Tavern_put (x0 : Int) (x1 : Int) (x2 : Int) (x3 : Int) (x4 : Int) (x5 : Int) (x6 : dy10) (x7 : dy12) : Option (Bool × dy10 × dy12) :=
  (if ((!(p_impl_isFace x0)) || (!(p_impl_isFace x1))) = true then some (false, x6, x7) else cnt (fun i8 (s7 : dy12) c9 _ => c9 (s7.set i8.toNat (IntKind.wrap .i64 (x0 + (IntKind.wrap .i64 (i8 * x1)))))) (fun i8 (s7 : dy12) => if (x6.length : Int) + 1 ≤ 1000000000 then some (true, (x6 ++ [s7]), []) else none) (Int.toNat (6 - 0)) 0 (List.replicate 6 0))
/-- slices.Delete[[][6]int,[6]int] -/
def p_slices_Delete_6_int_6_int (x0 : dy10) (x1 : Int) (x2 : Int) : Option (dy10) :=
  if 0 ≤ x1 then if x1 ≤ x2 then if x2 ≤ (x0.length : Int) then (if x1 = x2 then some x0 else if (x0.length : Int) ≤ 1000000000 then some (((x0.take x1.toNat ++ ((x0.drop x2.toNat).take ((x0.length : Int) - x2).toNat) ++ x0.drop (x1.toNat + ((x0.length : Int) - x2).toNat)).take (((x1.toNat + ((x0.length : Int) - x2).toNat) : Nat) : Int).toNat ++ (List.replicate ((x0.length : Int) - (((x1.toNat + ((x0.length : Int) - x2).toNat) : Nat) : Int)).toNat (List.replicate 6 0) ++ (x0.take x1.toNat ++ ((x0.drop x2.toNat).take ((x0.length : Int) - x2).toNat) ++ x0.drop (x1.toNat + ((x0.length : Int) - x2).toNat)).drop ((((x1.toNat + ((x0.length : Int) - x2).toNat) : Nat) : Int).toNat + ((x0.length : Int) - (((x1.toNat + ((x0.length : Int) - x2).toNat) : Nat) : Int)).toNat))).take (x1.toNat + ((x0.length : Int) - x2).toNat)) else none) else none else none else none
/-- (*loop.example/g01210/impl.Tavern).take -/
def p_impl_Tavern_take (x0 : Int) (x1 : Int) (x2 : Int) (x3 : Int) (x4 : Int) (x5 : dy10) (x6 : dy12) : Option (Bool × dy10 × dy12) :=
  (if (p_impl_Tavern_isPlace x0 x1 x2 x3 x4 x5 x6) = true then (p_slices_Delete_6_int_6_int x5 x0 (IntKind.wrap .i64 (x0 + 1))).bind (fun r2 => some (true, r2, [])) else some (false, x5, x6))
/-- (*loop.example/g01210/impl.Tavern).turn -/
def p_impl_Tavern_turn (x0 : dy6) (x1 : Int) (x2 : Int) (x3 : Int) (x4 : Int) (x5 : dy10) (x6 : dy12) : Option (Bool × Int × Int × Int × dy10 × dy12) :=
  (if x0.1 = 1 then (if ((decide (x0.2.1 = 0)) && (decide (x0.2.2.1 = 0))) = true then (p_impl_Tavern_roll x1 x2 x3 x4 x5 x6).bind (fun r15 => some (r15.1, r15.2.1, r15.2.2.1, r15.2.2.2.1, x5, r15.2.2.2.2)) else some (false, x1, x2, x3, x5, x6)) else (if x0.1 = 2 then (if x0.2.2.1 = 0 then (p_impl_Tavern_again x0.2.1 x1 x2 x3 x4 x5 x6).bind (fun r22 => some (r22.1, r22.2.1, r22.2.2.1, r22.2.2.2.1, x5, r22.2.2.2.2)) else some (false, x1, x2, x3, x5, x6)) else (if x0.1 = 3 then (p_impl_Tavern_shift x0.2.1 x0.2.2.1 x1 x2 x3 x4 x5 x6).bind (fun r26 => some (r26.1, x1, x2, x3, r26.2.1, r26.2.2)) else (if x0.1 = 4 then (p_impl_Tavern_put x0.2.1 x0.2.2.1 x1 x2 x3 x4 x5 x6).bind (fun r30 => some (r30.1, x1, x2, x3, r30.2.1, r30.2.2)) else (if x0.1 = 5 then (if x0.2.2.1 = 0 then (p_impl_Tavern_take x0.2.1 x1 x2 x3 x4 x5 x6).bind (fun r37 => some (r37.1, x1, x2, x3, r37.2.1, r37.2.2)) else some (false, x1, x2, x3, x5, x6)) else (if x0.1 = 6 then some (((decide (x0.2.1 = 0)) && (decide (x0.2.2.1 = 0))), x1, 0, 0, x5, []) else some (false, x1, x2, x3, x5, x6)))))))
/-- (loop.example/g01210/impl.Tavern).done -/
def p_impl_Tavern_done (fu : Nat) (x0 : dy3) (x1 : dy6) : Option (dy3 × Bool) :=
  (p_impl_Tavern_own (x0.1, (x0.2.1, (x0.2.2.1, (x0.2.2.2.1, (x0.2.2.2.2.1, (x0.2.2.2.2.2.1, ()))))))).bind (fun r1 => (p_impl_Tavern_turn (x1.1, (x1.2.1, (x1.2.2.1, ()))) r1.2.1 r1.2.2.2.1 r1.2.2.2.2.1 r1.2.2.2.2.2.1 r1.1 r1.2.2.1).bind (fun r4 => if ((!(!r4.1)) = true → (p_impl_IsTavern fu (r4.2.2.2.2.1, (r4.2.1, (r4.2.2.2.2.2, (r4.2.2.1, (r4.2.2.2.1, ((IntKind.wrap .i64 (r1.2.2.2.2.2.1 + 1)), ()))))))).isSome = true) then (if ((!r4.1) || (!((p_impl_IsTavern fu (r4.2.2.2.2.1, (r4.2.1, (r4.2.2.2.2.2, (r4.2.2.1, (r4.2.2.2.1, ((IntKind.wrap .i64 (r1.2.2.2.2.2.1 + 1)), ()))))))).getD false))) = true then some (([], (0, ([], (0, (0, (0, ())))))), false) else (p_impl_Tavern_own (r4.2.2.2.2.1, (r4.2.1, (r4.2.2.2.2.2, (r4.2.2.1, (r4.2.2.2.1, ((IntKind.wrap .i64 (r1.2.2.2.2.2.1 + 1)), ()))))))).bind (fun r12 => some ((r12.1, (r12.2.1, (r12.2.2.1, (r12.2.2.2.1, (r12.2.2.2.2.1, (r12.2.2.2.2.2.1, ())))))), true))) else none))
/-- loop.example/g01210/impl.DoTask -/
def p_impl_DoTask (fu : Nat) (x0 : dy3) (x1 : dy6) : Option (dy3 × Bool) :=
  (p_impl_IsTavern fu (x0.1, (x0.2.1, (x0.2.2.1, (x0.2.2.2.1, (x0.2.2.2.2.1, (x0.2.2.2.2.2.1, ()))))))).bind (fun r1 => (if r1 = true then (p_impl_Tavern_done fu (x0.1, (x0.2.1, (x0.2.2.1, (x0.2.2.2.1, (x0.2.2.2.2.1, (x0.2.2.2.2.2.1, ())))))) (x1.1, (x1.2.1, (x1.2.2.1, ())))).bind (fun r3 => some ((r3.1.1, (r3.1.2.1, (r3.1.2.2.1, (r3.1.2.2.2.1, (r3.1.2.2.2.2.1, (r3.1.2.2.2.2.2.1, ())))))), r3.2)) else some (([], (0, ([], (0, (0, (0, ())))))), false)))
/-- loop.example/g01210/spec.DoTask -/
def p_spec_DoTask (fu : Nat) (x0 : dy3) (x1 : dy6) : Option (dy3 × Bool) :=
  (p_spec_l12Good (x0.1, (x0.2.1, (x0.2.2.1, (x0.2.2.2.1, (x0.2.2.2.2.1, (x0.2.2.2.2.2.1, ()))))))).bind (fun r1 => (if r1 = true then (p_spec_l12Do fu (x0.1, (x0.2.1, (x0.2.2.1, (x0.2.2.2.1, (x0.2.2.2.2.1, (x0.2.2.2.2.2.1, ())))))) (x1.1, (x1.2.1, (x1.2.2.1, ())))).bind (fun r3 => some ((r3.1.1, (r3.1.2.1, (r3.1.2.2.1, (r3.1.2.2.2.1, (r3.1.2.2.2.2.1, (r3.1.2.2.2.2.2.1, ())))))), r3.2)) else some (([], (0, ([], (0, (0, (0, ())))))), false)))
/-- loop.example/g01210/spec.IsTavern -/
def p_spec_IsTavern (x0 : dy3) : Option (Bool) :=
  (p_spec_l12Good (x0.1, (x0.2.1, (x0.2.2.1, (x0.2.2.2.1, (x0.2.2.2.2.1, (x0.2.2.2.2.2.1, ()))))))).bind (fun r1 => some r1)
/-- loop.example/g01210/spec.DrawDoTasks -/
def p_spec_DrawDoTasks (fu : Nat) (x0 : dy12) : Option (dy3 × (List dy6)) :=
  (p_spec_l1Cur_tavern fu x0 0 0).bind (fun r1 => (p_spec_l1Cur_pick 6 x0 r1.2.1 r1.2.2).bind (fun r2 => whl (fun (s3 : Int × Int × Int × (List dy6) × dy10 × Int × dy12 × Int × Int × Int) c5 => if ((decide (0 < s3.1)) = true → (p_spec_l12Good (s3.2.2.2.2.1, (s3.2.2.2.2.2.1, (s3.2.2.2.2.2.2.1, (s3.2.2.2.2.2.2.2.1, (s3.2.2.2.2.2.2.2.2.1, (s3.2.2.2.2.2.2.2.2.2, ()))))))).isSome = true) then (if ((decide (0 < s3.1)) && ((p_spec_l12Good (s3.2.2.2.2.1, (s3.2.2.2.2.2.1, (s3.2.2.2.2.2.2.1, (s3.2.2.2.2.2.2.2.1, (s3.2.2.2.2.2.2.2.2.1, (s3.2.2.2.2.2.2.2.2.2, ()))))))).getD false)) = true then (p_spec_l1Cur_task12 (s3.2.2.2.2.1, (s3.2.2.2.2.2.1, (s3.2.2.2.2.2.2.1, (s3.2.2.2.2.2.2.2.1, (s3.2.2.2.2.2.2.2.2.1, (s3.2.2.2.2.2.2.2.2.2, ())))))) x0 s3.2.1 s3.2.2.1).bind (fun r16 => if (s3.2.2.2.1.length : Int) + 1 ≤ 1000000000 then (p_spec_l12Do fu (s3.2.2.2.2.1, (s3.2.2.2.2.2.1, (s3.2.2.2.2.2.2.1, (s3.2.2.2.2.2.2.2.1, (s3.2.2.2.2.2.2.2.2.1, (s3.2.2.2.2.2.2.2.2.2, ())))))) (r16.1.1, (r16.1.2.1, (r16.1.2.2.1, ())))).bind (fun r18 => (if r18.2 = true then c5 ((IntKind.wrap .i64 (s3.1 - 1)), r16.2.1, r16.2.2, (s3.2.2.2.1 ++ [(r16.1.1, (r16.1.2.1, (r16.1.2.2.1, ())))]), r18.1.1, r18.1.2.1, r18.1.2.2.1, r18.1.2.2.2.1, r18.1.2.2.2.2.1, r18.1.2.2.2.2.2.1) else c5 ((IntKind.wrap .i64 (s3.1 - 1)), r16.2.1, r16.2.2, (s3.2.2.2.1 ++ [(r16.1.1, (r16.1.2.1, (r16.1.2.2.1, ())))]), s3.2.2.2.2.1, s3.2.2.2.2.2.1, s3.2.2.2.2.2.2.1, s3.2.2.2.2.2.2.2.1, s3.2.2.2.2.2.2.2.2.1, s3.2.2.2.2.2.2.2.2.2))) else none) else some ((r1.1.1, (r1.1.2.1, (r1.1.2.2.1, (r1.1.2.2.2.1, (r1.1.2.2.2.2.1, (r1.1.2.2.2.2.2.1, ())))))), s3.2.2.2.1)) else none) fu (r2.1, r2.2.1, r2.2.2, [], r1.1.1, r1.1.2.1, r1.1.2.2.1, r1.1.2.2.2.1, r1.1.2.2.2.2.1, r1.1.2.2.2.2.2.1)))
/-- loop.example/g01210/impl.DoTasks -/
def p_impl_DoTasks (fu : Nat) (x0 : dy3) (x1 : (List dy6)) : Option (dy3 × Int × Bool) :=
  (p_impl_IsTavern fu (x0.1, (x0.2.1, (x0.2.2.1, (x0.2.2.2.1, (x0.2.2.2.2.1, (x0.2.2.2.2.2.1, ()))))))).bind (fun r1 => (if r1 = true then (p_impl_Tavern_own (x0.1, (x0.2.1, (x0.2.2.1, (x0.2.2.2.1, (x0.2.2.2.2.1, (x0.2.2.2.2.2.1, ()))))))).bind (fun r3 => cnt (fun i7 (s6 : Int × Int × Int × Int × dy10 × dy12) c8 _ => (p_impl_Tavern_done fu (s6.2.2.2.2.1, (s6.1, (s6.2.2.2.2.2, (s6.2.1, (s6.2.2.1, (s6.2.2.2.1, ())))))) ((x1.getD i7.toNat (0, (0, (0, ())))).1, (((x1.getD i7.toNat (0, (0, (0, ())))).2).1, ((((x1.getD i7.toNat (0, (0, (0, ())))).2).2).1, ())))).bind (fun r13 => (if r13.2 = true then c8 (r13.1.2.1, r13.1.2.2.2.1, r13.1.2.2.2.2.1, r13.1.2.2.2.2.2.1, r13.1.1, r13.1.2.2.1) else some ((s6.2.2.2.2.1, (s6.1, (s6.2.2.2.2.2, (s6.2.1, (s6.2.2.1, (s6.2.2.2.1, ())))))), i7, true)))) (fun i7 (s6 : Int × Int × Int × Int × dy10 × dy12) => some ((s6.2.2.2.2.1, (s6.1, (s6.2.2.2.2.2, (s6.2.1, (s6.2.2.1, (s6.2.2.2.1, ())))))), (x1.length : Int), true)) (Int.toNat ((x1.length : Int) - 0)) 0 (r3.2.1, r3.2.2.2.1, r3.2.2.2.2.1, r3.2.2.2.2.2.1, r3.1, r3.2.2.1)) else some (([], (0, ([], (0, (0, (0, ())))))), 0, false)))
/-- loop.example/g01210/spec.DoTasks -/
def p_spec_DoTasks (fu : Nat) (x0 : dy3) (x1 : (List dy6)) : Option (dy3 × Int × Bool) :=
  (p_spec_l12Good (x0.1, (x0.2.1, (x0.2.2.1, (x0.2.2.2.1, (x0.2.2.2.2.1, (x0.2.2.2.2.2.1, ()))))))).bind (fun r1 => (if r1 = true then (p_spec_l12Own (x0.1, (x0.2.1, (x0.2.2.1, (x0.2.2.2.1, (x0.2.2.2.2.1, (x0.2.2.2.2.2.1, ()))))))).bind (fun r3 => cnt (fun i7 (s6 : Int × Int × Int × Int × dy10 × dy12) c8 _ => (p_spec_l12Do fu (s6.2.2.2.2.1, (s6.1, (s6.2.2.2.2.2, (s6.2.1, (s6.2.2.1, (s6.2.2.2.1, ())))))) (x1.getD i7.toNat (0, (0, (0, ()))))).bind (fun r13 => (if r13.2 = true then c8 (r13.1.2.1, r13.1.2.2.2.1, r13.1.2.2.2.2.1, r13.1.2.2.2.2.2.1, r13.1.1, r13.1.2.2.1) else some ((s6.2.2.2.2.1, (s6.1, (s6.2.2.2.2.2, (s6.2.1, (s6.2.2.1, (s6.2.2.2.1, ())))))), i7, true)))) (fun i7 (s6 : Int × Int × Int × Int × dy10 × dy12) => some ((s6.2.2.2.2.1, (s6.1, (s6.2.2.2.2.2, (s6.2.1, (s6.2.2.1, (s6.2.2.2.1, ())))))), (x1.length : Int), true)) (Int.toNat ((x1.length : Int) - 0)) 0 (r3.2.1, r3.2.2.2.1, r3.2.2.2.2.1, r3.2.2.2.2.2.1, r3.1, r3.2.2.1)) else some (([], (0, ([], (0, (0, (0, ())))))), 0, false)))
/-- loop.example/g01210/impl.LastSum -/
def p_impl_LastSum (fu : Nat) (x0 : dy3) : Option (Int × Bool) :=
  (p_impl_IsTavern fu (x0.1, (x0.2.1, (x0.2.2.1, (x0.2.2.2.1, (x0.2.2.2.2.1, (x0.2.2.2.2.2.1, ()))))))).bind (fun r1 => (if ((!r1) || (decide ((x0.2.2.1.length : Int) = 0))) = true then some (0, false) else some ((p_impl_total x0.2.2.1), true)))
/-- loop.example/g01210/spec.LastSum -/
def p_spec_LastSum (x0 : dy3) : Option (Int × Bool) :=
  (p_spec_l12Good (x0.1, (x0.2.1, (x0.2.2.1, (x0.2.2.2.1, (x0.2.2.2.2.1, (x0.2.2.2.2.2.1, ()))))))).bind (fun r1 => (if ((!r1) || (decide ((x0.2.2.1.length : Int) = 0))) = true then some (0, false) else some ((p_spec_l12Add x0.2.2.1), true)))
/-- loop.example/g01210/laws.FnTaverns -/
def p_laws_FnTaverns (fu : Nat) (x0 : dy12) : Option (Bool) :=
  (if (p_laws_rBig x0) = true then some true else (p_spec_DrawNewTavern fu x0).bind (fun r2 => (p_impl_NewTavern fu r2.1 r2.2).bind (fun r4 => (p_spec_NewTavern r2.1 r2.2).bind (fun r7 => if ((!((r4.2 != r7.2) || (!(p_laws_rTavern (r4.1.1, (r4.1.2.1, (r4.1.2.2.1, (r4.1.2.2.2.1, (r4.1.2.2.2.2.1, (r4.1.2.2.2.2.2.1, ())))))) (r7.1.1, (r7.1.2.1, (r7.1.2.2.1, (r7.1.2.2.2.1, (r7.1.2.2.2.2.1, (r7.1.2.2.2.2.2.1, ())))))))))) = true → (p_impl_IsTavern fu (r4.1.1, (r4.1.2.1, (r4.1.2.2.1, (r4.1.2.2.2.1, (r4.1.2.2.2.2.1, (r4.1.2.2.2.2.2.1, ()))))))).isSome = true) then (if (((r4.2 != r7.2) || (!(p_laws_rTavern (r4.1.1, (r4.1.2.1, (r4.1.2.2.1, (r4.1.2.2.2.1, (r4.1.2.2.2.2.1, (r4.1.2.2.2.2.2.1, ())))))) (r7.1.1, (r7.1.2.1, (r7.1.2.2.1, (r7.1.2.2.2.1, (r7.1.2.2.2.2.1, (r7.1.2.2.2.2.2.1, ()))))))))) || (r4.2 != ((p_impl_IsTavern fu (r4.1.1, (r4.1.2.1, (r4.1.2.2.1, (r4.1.2.2.2.1, (r4.1.2.2.2.2.1, (r4.1.2.2.2.2.2.1, ()))))))).getD false))) = true then some false else (p_laws_rCut x0 1).bind (fun r32 => (p_spec_DrawDoTask fu r32).bind (fun r33 => (p_impl_DoTask fu (r33.1.1, (r33.1.2.1, (r33.1.2.2.1, (r33.1.2.2.2.1, (r33.1.2.2.2.2.1, (r33.1.2.2.2.2.2.1, ())))))) (r33.2.1, (r33.2.2.1, (r33.2.2.2.1, ())))).bind (fun r34 => (p_spec_DoTask fu (r33.1.1, (r33.1.2.1, (r33.1.2.2.1, (r33.1.2.2.2.1, (r33.1.2.2.2.2.1, (r33.1.2.2.2.2.2.1, ())))))) (r33.2.1, (r33.2.2.1, (r33.2.2.2.1, ())))).bind (fun r37 => if ((!((r34.2 != r37.2) || (!(p_laws_rTavern (r34.1.1, (r34.1.2.1, (r34.1.2.2.1, (r34.1.2.2.2.1, (r34.1.2.2.2.2.1, (r34.1.2.2.2.2.2.1, ())))))) (r37.1.1, (r37.1.2.1, (r37.1.2.2.1, (r37.1.2.2.2.1, (r37.1.2.2.2.2.1, (r37.1.2.2.2.2.2.1, ())))))))))) = true → (p_impl_IsTavern fu (r33.1.1, (r33.1.2.1, (r33.1.2.2.1, (r33.1.2.2.2.1, (r33.1.2.2.2.2.1, (r33.1.2.2.2.2.2.1, ()))))))).isSome = true) then if ((!((r34.2 != r37.2) || (!(p_laws_rTavern (r34.1.1, (r34.1.2.1, (r34.1.2.2.1, (r34.1.2.2.2.1, (r34.1.2.2.2.2.1, (r34.1.2.2.2.2.2.1, ())))))) (r37.1.1, (r37.1.2.1, (r37.1.2.2.1, (r37.1.2.2.2.1, (r37.1.2.2.2.2.1, (r37.1.2.2.2.2.2.1, ())))))))))) = true → (p_spec_IsTavern (r33.1.1, (r33.1.2.1, (r33.1.2.2.1, (r33.1.2.2.2.1, (r33.1.2.2.2.2.1, (r33.1.2.2.2.2.2.1, ()))))))).isSome = true) then (if (((r34.2 != r37.2) || (!(p_laws_rTavern (r34.1.1, (r34.1.2.1, (r34.1.2.2.1, (r34.1.2.2.2.1, (r34.1.2.2.2.2.1, (r34.1.2.2.2.2.2.1, ())))))) (r37.1.1, (r37.1.2.1, (r37.1.2.2.1, (r37.1.2.2.2.1, (r37.1.2.2.2.2.1, (r37.1.2.2.2.2.2.1, ()))))))))) || (((p_impl_IsTavern fu (r33.1.1, (r33.1.2.1, (r33.1.2.2.1, (r33.1.2.2.2.1, (r33.1.2.2.2.2.1, (r33.1.2.2.2.2.2.1, ()))))))).getD false) != ((p_spec_IsTavern (r33.1.1, (r33.1.2.1, (r33.1.2.2.1, (r33.1.2.2.2.1, (r33.1.2.2.2.2.1, (r33.1.2.2.2.2.2.1, ()))))))).getD false))) = true then some false else (p_laws_rCut x0 2).bind (fun r66 => (p_spec_DrawDoTasks fu r66).bind (fun r67 => (p_impl_DoTasks fu (r67.1.1, (r67.1.2.1, (r67.1.2.2.1, (r67.1.2.2.2.1, (r67.1.2.2.2.2.1, (r67.1.2.2.2.2.2.1, ())))))) r67.2).bind (fun r69 => (p_spec_DoTasks fu (r67.1.1, (r67.1.2.1, (r67.1.2.2.1, (r67.1.2.2.2.1, (r67.1.2.2.2.2.1, (r67.1.2.2.2.2.2.1, ())))))) r67.2).bind (fun r72 => (if (((!(decide (r69.2.1 = r72.2.1))) || (r69.2.2 != r72.2.2)) || (!(p_laws_rTavern (r69.1.1, (r69.1.2.1, (r69.1.2.2.1, (r69.1.2.2.2.1, (r69.1.2.2.2.2.1, (r69.1.2.2.2.2.2.1, ())))))) (r72.1.1, (r72.1.2.1, (r72.1.2.2.1, (r72.1.2.2.2.1, (r72.1.2.2.2.2.1, (r72.1.2.2.2.2.2.1, ()))))))))) = true then some false else (p_impl_LastSum fu (r67.1.1, (r67.1.2.1, (r67.1.2.2.1, (r67.1.2.2.2.1, (r67.1.2.2.2.2.1, (r67.1.2.2.2.2.2.1, ()))))))).bind (fun r103 => (p_spec_LastSum (r67.1.1, (r67.1.2.1, (r67.1.2.2.1, (r67.1.2.2.2.1, (r67.1.2.2.2.2.1, (r67.1.2.2.2.2.2.1, ()))))))).bind (fun r104 => (if ((!(decide (r103.1 = r104.1))) || (r103.2 != r104.2)) = true then some false else jn (fun (s115 : Unit) => (if r34.2 = true then (p_impl_IsTavern fu (r34.1.1, (r34.1.2.1, (r34.1.2.2.1, (r34.1.2.2.2.1, (r34.1.2.2.2.2.1, (r34.1.2.2.2.2.2.1, ()))))))).bind (fun r119 => (if ((!r119) || (!(decide (r34.1.2.2.2.2.2.1 = (IntKind.wrap .i64 (r33.1.2.2.2.2.2.1 + 1)))))) = true then some false else jn (fun (s130 : Unit) => (if ((decide (r33.2.1 = 4)) && (decide (r34.1.2.2.2.2.2.1 < 1000))) = true then (p_impl_DoTask fu (r34.1.1, (r34.1.2.1, (r34.1.2.2.1, (r34.1.2.2.2.1, (r34.1.2.2.2.2.1, (r34.1.2.2.2.2.2.1, ())))))) (5, (((r34.1.1.length : Int) - 1), (0, ())))).bind (fun r144 => (if ((!r144.2) || (!(p_laws_rDice r144.1.1 r33.1.1))) = true then some false else some true)) else some true)) (fun k131 => (if ((decide (r33.2.1 = 1)) || (decide (r33.2.1 = 2))) = true then (p_impl_LastSum fu (r34.1.1, (r34.1.2.1, (r34.1.2.2.1, (r34.1.2.2.2.1, (r34.1.2.2.2.2.1, (r34.1.2.2.2.2.2.1, ()))))))).bind (fun r167 => (p_impl_LastSum fu (r33.1.1, (r33.1.2.1, (r33.1.2.2.1, (r33.1.2.2.2.1, (r33.1.2.2.2.2.1, (r33.1.2.2.2.2.2.1, ()))))))).bind (fun r168 => jn (fun (s169 : Int) => (if (((((!r167.2) || (!(decide (r34.1.2.2.2.1 = (IntKind.wrap .i64 ((IntKind.wrap .i64 (r33.1.2.2.2.1 + r167.1)) - s169)))))) || (decide (r34.1.2.2.2.2.1 < r167.1))) || (decide (r34.1.2.2.2.2.1 < r33.1.2.2.2.2.1))) || (!(p_laws_rDice r34.1.1 r33.1.1))) = true then some false else k131 ())) (fun k170 => (if r33.2.1 = 1 then k170 0 else k170 r168.1)))) else k131 ())))) else some true)) (fun k116 => (if r69.2.2 = true then jn (fun (s308 : dy10 × Int × dy12 × Int × Int × Int) => (if (p_laws_rTavern (s308.1, (s308.2.1, (s308.2.2.1, (s308.2.2.2.1, (s308.2.2.2.2.1, (s308.2.2.2.2.2, ())))))) (r69.1.1, (r69.1.2.1, (r69.1.2.2.1, (r69.1.2.2.2.1, (r69.1.2.2.2.2.1, (r69.1.2.2.2.2.2.1, ()))))))) = true then k116 () else some false)) (fun k309 => cnt (fun i313 (s312 : dy10 × Int × dy12 × Int × Int × Int) c314 _ => (p_impl_DoTask fu (s312.1, (s312.2.1, (s312.2.2.1, (s312.2.2.2.1, (s312.2.2.2.2.1, (s312.2.2.2.2.2, ())))))) (r67.2.getD i313.toNat (0, (0, (0, ()))))).bind (fun r319 => (if (r319.2 != (decide (i313 < r69.2.1))) = true then some false else (if r319.2 = true then c314 (r319.1.1, r319.1.2.1, r319.1.2.2.1, r319.1.2.2.2.1, r319.1.2.2.2.2.1, r319.1.2.2.2.2.2.1) else k309 (s312.1, s312.2.1, s312.2.2.1, s312.2.2.2.1, s312.2.2.2.2.1, s312.2.2.2.2.2))))) (fun i313 (s312 : dy10 × Int × dy12 × Int × Int × Int) => k309 (s312.1, s312.2.1, s312.2.2.1, s312.2.2.2.1, s312.2.2.2.2.1, s312.2.2.2.2.2)) (Int.toNat ((r67.2.length : Int) - 0)) 0 (r67.1.1, r67.1.2.1, r67.1.2.2.1, r67.1.2.2.2.1, r67.1.2.2.2.2.1, r67.1.2.2.2.2.2.1)) else k116 ()))))))))))) else none else none))))) else none))))
end Go.GA
