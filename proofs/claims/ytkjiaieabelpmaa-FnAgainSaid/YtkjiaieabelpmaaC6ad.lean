/- Walks: what the Go functions compute, by the printed lines below; no further conditions. -/
import Derived.Test.YtkjiaieabelpmaaGaD
namespace Go.GA
open Go
set_option maxRecDepth 100000
set_option maxHeartbeats 2000000
set_option linter.unusedVariables false
set_option linter.unusedSimpArgs false
abbrev dy9 : Type := (List Int)
abbrev ty8 : Ty := (.int .i64)
abbrev dy7 : Type := (List dy9)
abbrev ty6 : Ty := (.slice (.int .u8))
abbrev dy5 : Type := (Int × (Int × Unit))
abbrev ty4 : Ty := (.arr 6 ty8)
abbrev ty3 : Ty := (.slice ty8)
abbrev ty2 : Ty := (.slice ty4)
abbrev ty1 : Ty := (.pair ty8 (.pair ty8 .unit))
/-- loop.example/g01210/laws.vBig -/
def p_laws_vBig (x0 : dy9) : Bool :=
  (decide (65536 < (x0.length : Int)))
/-- (*loop.example/g01210/spec.l1Cur).next -/
def p_spec_l1Cur_next (x0 : dy9) (x1 : Int) (x2 : Int) : Option (Int × Int × Int) :=
  jn (fun (s1 : Int) => (if (IntKind.wrap .i64 (x1 + 1)) ≤ (x0.length : Int) then some (s1, (IntKind.wrap .i64 (x1 + 1)), (IntKind.wrap .u64 ((IntKind.wrap .u64 ((IntKind.wrap .u64 (x2 * 6364136223846793005)) + (IntKind.wrap .u64 s1))) + 462197))) else some ((IntKind.wrap .i64 (andI .u64 (shrI .u64 (IntKind.wrap .u64 ((IntKind.wrap .u64 ((IntKind.wrap .u64 (x2 * 6364136223846793005)) + (IntKind.wrap .u64 s1))) + 462197)) 40) 255)), (IntKind.wrap .i64 (x1 + 1)), (IntKind.wrap .u64 ((IntKind.wrap .u64 ((IntKind.wrap .u64 (x2 * 6364136223846793005)) + (IntKind.wrap .u64 s1))) + 462197))))) (fun k2 => (if x1 < (x0.length : Int) then if 0 ≤ x1 then k2 (IntKind.wrap .i64 (x0.getD x1.toNat 0)) else none else k2 0))
/-- (*loop.example/g01210/spec.l1Cur).pick -/
def p_spec_l1Cur_pick (x0 : Int) (x1 : dy9) (x2 : Int) (x3 : Int) : Option (Int × Int × Int) :=
  (if x0 ≤ 1 then some (0, x2, x3) else (p_spec_l1Cur_next x1 x2 x3).bind (fun r4 => (if 200 < x0 then (p_spec_l1Cur_next x1 r4.2.1 r4.2.2).bind (fun r8 => some (((IntKind.wrap .i64 ((IntKind.wrap .i64 (r4.1 * 256)) + r8.1)).tmod x0), r8.2.1, r8.2.2)) else some ((r4.1.tmod x0), r4.2.1, r4.2.2))))
/-- (*loop.example/g01210/spec.l1Cur).among -/
def p_spec_l1Cur_among (x0 : dy9) (x1 : dy9) (x2 : Int) (x3 : Int) : Option (Int × Int × Int) :=
  (p_spec_l1Cur_pick (x0.length : Int) x1 x2 x3).bind (fun r1 => if 0 ≤ r1.1 then if r1.1 < (x0.length : Int) then some ((x0.getD r1.1.toNat 0), r1.2.1, r1.2.2) else none else none)
/-- (*loop.example/g01210/spec.l1Cur).face -/
def p_spec_l1Cur_face (x0 : dy9) (x1 : Int) (x2 : Int) : Option (Int × Int × Int) :=
  (p_spec_l1Cur_among [1, 2, 3, 4, 5, 6, 6, 0, 8, 9, 4, 3, 30, 12] x0 x1 x2).bind (fun r1 => some (r1.1, r1.2.1, r1.2.2))
/-- (*loop.example/g01210/spec.l1Cur).one -/
def p_spec_l1Cur_one (x0 : Int) (x1 : dy9) (x2 : Int) (x3 : Int) : Option (Bool × Int × Int) :=
  (p_spec_l1Cur_pick x0 x1 x2 x3).bind (fun r1 => some ((decide (r1.1 = 0)), r1.2.1, r1.2.2))
/-- loop.example/g01210/spec.l2Sorted -/
def p_spec_l2Sorted (x0 : dy9) : dy9 :=
  cnt (fun i2 (s1 : dy9) c3 _ => cnt (fun i9 (s8 : dy9) c10 _ => (if (s8.getD (i9 + 1).toNat 0) < (s8.getD i9.toNat 0) then c10 ((s8.set i9.toNat (s8.getD (i9 + 1).toNat 0)).set (i9 + 1).toNat (s8.getD i9.toNat 0)) else c10 s8)) (fun i9 (s8 : dy9) => c3 s8) (Int.toNat (5 - 0)) 0 s1) (fun i2 (s1 : dy9) => s1) (Int.toNat (6 - 0)) 0 x0
/-- (*loop.example/g01210/spec.l1Cur).die -/
def p_spec_l1Cur_die (x0 : dy9) (x1 : Int) (x2 : Int) : Option (dy9 × Int × Int) :=
  jn (fun (s1 : Int × Int × dy9) => (p_spec_l1Cur_pick 50 x0 s1.1 s1.2.1).bind (fun r4 => (if r4.1 = 0 then (p_spec_l1Cur_pick 6 x0 r4.2.1 r4.2.2).bind (fun r8 => (p_spec_l1Cur_among [(-1), 31, 0, 4611686018427387904] x0 r8.2.1 r8.2.2).bind (fun r9 => if 0 ≤ r8.1 then if r8.1 < 6 then some (((p_spec_l2Sorted s1.2.2).set r8.1.toNat r9.1), r9.2.1, r9.2.2) else none else none)) else (if r4.1 = 1 then some (((p_spec_l2Sorted s1.2.2).set 0 30), r4.2.1, r4.2.2) else some ((p_spec_l2Sorted s1.2.2), r4.2.1, r4.2.2))))) (fun k2 => (p_spec_l1Cur_pick 6 x0 x1 x2).bind (fun r15 => (if r15.1 = 0 then some ([1, 2, 3, 4, 5, 6], r15.2.1, r15.2.2) else (if r15.1 = 1 then k2 (r15.2.1, r15.2.2, [1, 2, 2, 3, 3, 4]) else (if r15.1 = 2 then (p_spec_l1Cur_face x0 r15.2.1 r15.2.2).bind (fun r25 => (p_spec_l1Cur_face x0 r25.2.1 r25.2.2).bind (fun r26 => cnt (fun i28 (s27 : Int × Int × dy9) c29 _ => (p_spec_l1Cur_one 3 x0 s27.1 s27.2.1).bind (fun r34 => (if r34.1 = true then c29 (r34.2.1, r34.2.2, ((s27.2.2.set i28.toNat r25.1).set i28.toNat r26.1)) else c29 (r34.2.1, r34.2.2, (s27.2.2.set i28.toNat r25.1))))) (fun i28 (s27 : Int × Int × dy9) => k2 (s27.1, s27.2.1, s27.2.2)) (Int.toNat (6 - 0)) 0 (r26.2.1, r26.2.2, [1, 2, 3, 4, 5, 6]))) else cnt (fun i37 (s36 : Int × Int × dy9) c38 _ => (p_spec_l1Cur_face x0 s36.1 s36.2.1).bind (fun r43 => c38 (r43.2.1, r43.2.2, (s36.2.2.set i37.toNat r43.1)))) (fun i37 (s36 : Int × Int × dy9) => k2 (s36.1, s36.2.1, s36.2.2)) (Int.toNat (6 - 0)) 0 (r15.2.1, r15.2.2, [1, 2, 3, 4, 5, 6]))))))
/-- (*loop.example/g01210/spec.l1Cur).pool -/
def p_spec_l1Cur_pool (fu : Nat) (x0 : dy9) (x1 : Int) (x2 : Int) : Option (dy7 × Int × Int) :=
  (p_spec_l1Cur_among [2, 3, 1, 2, 4] x0 x1 x2).bind (fun r1 => whl (fun (s2 : Int × Int × Int × dy7) c4 => (if 0 < s2.1 then (p_spec_l1Cur_die x0 s2.2.1 s2.2.2.1).bind (fun r9 => (if 0 < (s2.2.2.2.length : Int) then (p_spec_l1Cur_one 3 x0 r9.2.1 r9.2.2).bind (fun r13 => (if r13.1 = true then if (s2.2.2.2.length : Int) + 1 ≤ 1000000000 then c4 ((IntKind.wrap .i64 (s2.1 - 1)), r13.2.1, r13.2.2, (s2.2.2.2 ++ [(s2.2.2.2.getD 0 (List.replicate 6 0))])) else none else if (s2.2.2.2.length : Int) + 1 ≤ 1000000000 then c4 ((IntKind.wrap .i64 (s2.1 - 1)), r13.2.1, r13.2.2, (s2.2.2.2 ++ [r9.1])) else none)) else c4 ((IntKind.wrap .i64 (s2.1 - 1)), r9.2.1, r9.2.2, (s2.2.2.2 ++ [r9.1])))) else (p_spec_l1Cur_pick 50 x0 s2.2.1 s2.2.2.1).bind (fun r17 => (if r17.1 = 0 then some ([], r17.2.1, r17.2.2) else (if r17.1 = 1 then whl (fun (s24 : dy7) c26 => (if (s24.length : Int) < 5 then if 0 < (s24.length : Int) then c26 (s24 ++ [(s24.getD 0 (List.replicate 6 0))]) else none else some (s24, r17.2.1, r17.2.2))) fu s2.2.2.2 else some (s2.2.2.2, r17.2.1, r17.2.2)))))) fu (r1.1, r1.2.1, r1.2.2, []))
/-- (*loop.example/g01210/spec.l1Cur).few -/
def p_spec_l1Cur_few (fu : Nat) (x0 : dy9) (x1 : Int) (x2 : Int) : Option (dy7 × Int × Int) :=
  (p_spec_l1Cur_pool fu x0 x1 x2).bind (fun r1 => (if (r1.1.length : Int) = 4 then (p_spec_l1Cur_one 8 x0 r1.2.1 r1.2.2).bind (fun r6 => (if r6.1 = true then some (r1.1, r6.2.1, r6.2.2) else some ((r1.1.take 3), r6.2.1, r6.2.2))) else some (r1.1, r1.2.1, r1.2.2)))
/-- (*loop.example/g01210/spec.l1Cur).goal6 -/
def p_spec_l1Cur_goal6 (x0 : dy9) (x1 : Int) (x2 : Int) : Option (dy5 × Int × Int) :=
  (p_spec_l1Cur_pick 5 x0 x1 x2).bind (fun r1 => jn (fun (s2 : Int × Int × Int) => (p_spec_l1Cur_pick 40 x0 s2.1 s2.2.1).bind (fun r5 => (if r5.1 = 0 then (p_spec_l1Cur_among [0, 6, (-1)] x0 r5.2.1 r5.2.2).bind (fun r9 => some ((r9.1, (s2.2.2, ())), r9.2.1, r9.2.2)) else (if r5.1 = 1 then (p_spec_l1Cur_among [(-1), 121, 1] x0 r5.2.1 r5.2.2).bind (fun r13 => some (((IntKind.wrap .i64 (1 + r1.1)), (r13.1, ())), r13.2.1, r13.2.2)) else some (((IntKind.wrap .i64 (1 + r1.1)), (s2.2.2, ())), r5.2.1, r5.2.2))))) (fun k3 => (if ((decide ((IntKind.wrap .i64 (1 + r1.1)) = 2)) || (decide ((IntKind.wrap .i64 (1 + r1.1)) = 3))) = true then (p_spec_l1Cur_among [7, 10, 9, 12, 4, 15, 0, 120] x0 r1.2.1 r1.2.2).bind (fun r25 => k3 (r25.2.1, r25.2.2, r25.1)) else k3 (r1.2.1, r1.2.2, 0))))
/-- loop.example/g01210/spec.l1In -/
def p_spec_l1In (x0 : Int) (x1 : Int) (x2 : Int) : Bool :=
  ((decide (x1 ≤ x0)) && (decide (x0 ≤ x2)))
/-- loop.example/g01210/spec.l2Die -/
def p_spec_l2Die (x0 : dy9) : Option (Bool) :=
  cnt (fun i2 (s1 : Unit) c3 _ => (if ((!(p_spec_l1In (x0.getD i2.toNat 0) 0 30)) || ((decide (0 < i2)) && (decide ((x0.getD i2.toNat 0) < (x0.getD (i2 - 1).toNat 0))))) = true then some false else c3 ())) (fun i2 (s1 : Unit) => some true) (Int.toNat (6 - 0)) 0 ()
/-- loop.example/g01210/spec.l2Pool -/
def p_spec_l2Pool (x0 : dy7) : Option (Bool) :=
  cnt (fun i2 (s1 : Unit) c3 k16 => (if ((decide (i2 < (x0.length : Int))) && (decide (i2 ≤ 4))) = true then (p_spec_l2Die (x0.getD i2.toNat (List.replicate 6 0))).bind (fun r14 => (if r14 = true then c3 () else some false)) else k16 i2 s1)) (fun i2 (s1 : Unit) => some (p_spec_l1In (x0.length : Int) 1 4)) (Int.toNat ((x0.length : Int) - 0)) 0 ()
/-- loop.example/g01210/spec.l2All -/
def p_spec_l2All (fu : Nat) (x0 : Int) : Option (Int) :=
  whl (fun (s1 : Int × Int) c3 => (if s1.2 < x0 then c3 ((IntKind.wrap .i64 (s1.1 * 6)), (IntKind.wrap .i64 (s1.2 + 1))) else some s1.1)) fu (1, 0)
/-- (*loop.example/g01210/spec.l1Cur).again6 -/
def p_spec_l1Cur_again6 (fu : Nat) (x0 : dy9) (x1 : Int) (x2 : Int) : Option (dy7 × dy5 × Int × Int × Int × Int) :=
  (p_spec_l1Cur_few fu x0 x1 x2).bind (fun r1 => (p_spec_l1Cur_goal6 x0 r1.2.1 r1.2.2).bind (fun r3 => (p_spec_l1Cur_pick 6 x0 r3.2.1 r3.2.2).bind (fun r4 => (p_spec_l1Cur_pick 36 x0 r4.2.1 r4.2.2).bind (fun r5 => (p_spec_l1Cur_pick 216 x0 r5.2.1 r5.2.2).bind (fun r6 => (p_spec_l1Cur_pick 24 x0 r6.2.1 r6.2.2).bind (fun r7 => if 0 ≤ (IntKind.wrap .i64 (3 + (IntKind.wrap .i64 (r7.1.tdiv 22)))) then if (IntKind.wrap .i64 (3 + (IntKind.wrap .i64 (r7.1.tdiv 22)))) ≤ 5 then (p_spec_l1Cur_among ([r4.1, r5.1, r6.1, (-1), 1296].take (IntKind.wrap .i64 (3 + (IntKind.wrap .i64 (r7.1.tdiv 22)))).toNat) x0 r7.2.1 r7.2.2).bind (fun r10 => jn (fun (s11 : Int × Int × Int) => (p_spec_l1Cur_pick 24 x0 s11.2.1 s11.2.2).bind (fun r14 => if 0 ≤ (IntKind.wrap .i64 (4 + (IntKind.wrap .i64 (r14.1.tdiv 11)))) then if (IntKind.wrap .i64 (4 + (IntKind.wrap .i64 (r14.1.tdiv 11)))) ≤ 6 then (p_spec_l1Cur_among ([1, 2, 1, 0, 3, (-1)].take (IntKind.wrap .i64 (4 + (IntKind.wrap .i64 (r14.1.tdiv 11)))).toNat) x0 r14.2.1 r14.2.2).bind (fun r17 => some (r1.1, (r3.1.1, (r3.1.2.1, ())), s11.1, r17.1, r17.2.1, r17.2.2)) else none else none)) (fun k12 => (p_spec_l2Pool r1.1).bind (fun r30 => (if r30 = true then (p_spec_l1Cur_one 12 x0 r10.2.1 r10.2.2).bind (fun r32 => (if r32.1 = true then k12 (r10.1, r32.2.1, r32.2.2) else (p_spec_l2All fu (r1.1.length : Int)).bind (fun r34 => (p_spec_l1Cur_pick r34 x0 r32.2.1 r32.2.2).bind (fun r35 => k12 (r35.1, r35.2.1, r35.2.2))))) else k12 (r10.1, r10.2.1, r10.2.2))))) else none else none))))))
/-- loop.example/g01210/spec.DrawValueOf -/
def p_spec_DrawValueOf (fu : Nat) (x0 : dy9) : Option (dy7 × dy5 × Int × Int) :=
  (p_spec_l1Cur_again6 fu x0 0 0).bind (fun r1 => some (r1.1, (r1.2.1.1, (r1.2.1.2.1, ())), r1.2.2.1, r1.2.2.2.1))
/-- loop.example/g01210/impl.within -/
def p_impl_within (x0 : Int) (x1 : Int) (x2 : Int) : Bool :=
  ((decide (x1 ≤ x0)) && (decide (x0 ≤ x2)))
/-- loop.example/g01210/impl.isFace -/
def p_impl_isFace (x0 : Int) : Bool :=
  (p_impl_within x0 0 30)
/-- loop.example/g01210/impl.areAll[int]$1 -/
def p_impl_areAll_int_1 (x0 : Int) : Bool :=
  (!(p_impl_isFace x0))
/-- slices.IndexFunc[[]int,int] -/
def p_slices_IndexFunc_int_int (x0 : dy9) : Int :=
  cnt (fun i2 (s1 : Unit) c3 _ => (if (p_impl_areAll_int_1 (x0.getD i2.toNat 0)) = true then i2 else c3 ())) (fun i2 (s1 : Unit) => (-1)) (Int.toNat ((x0.length : Int) - 0)) 0 ()
/-- slices.ContainsFunc[[]int,int] -/
def p_slices_ContainsFunc_int_int (x0 : dy9) : Bool :=
  (decide (0 ≤ (p_slices_IndexFunc_int_int x0)))
/-- loop.example/g01210/impl.areAll[int] -/
def p_impl_areAll_int (x0 : dy9) : Bool :=
  (!(p_slices_ContainsFunc_int_int x0))
/-- cmp.isNaN[int] -/
def p_cmp_isNaN_int (x0 : Int) : Bool :=
  (!(decide (x0 = x0)))
/-- cmp.Less[int] -/
def p_cmp_Less_int (x0 : Int) (x1 : Int) : Bool :=
  (((p_cmp_isNaN_int x0) && (!(p_cmp_isNaN_int x1))) || (decide (x0 < x1)))
/-- slices.IsSorted[[]int,int] -/
def p_slices_IsSorted_int_int (x0 : dy9) : Bool :=
  cntd (fun i2 (s1 : Unit) c3 _ => (if (p_cmp_Less_int (x0.getD i2.toNat 0) (x0.getD (i2 - 1).toNat 0)) = true then false else c3 ())) (fun i2 (s1 : Unit) => true) (Int.toNat (((x0.length : Int) - 1) - 0)) ((x0.length : Int) - 1) ()
/-- loop.example/g01210/impl.IsDie -/
def p_impl_IsDie (x0 : dy9) : Bool :=
  ((p_impl_areAll_int x0) && (p_slices_IsSorted_int_int x0))
/-- loop.example/g01210/impl.areAll[[6]int]$1 -/
def p_impl_areAll_6_int_1 (x0 : dy9) : Bool :=
  (!(p_impl_IsDie x0))
/-- slices.IndexFunc[[][6]int,[6]int] -/
def p_slices_IndexFunc_6_int_6_int (x0 : dy7) : Int :=
  cnt (fun i2 (s1 : Unit) c3 _ => (if (p_impl_areAll_6_int_1 (x0.getD i2.toNat (List.replicate 6 0))) = true then i2 else c3 ())) (fun i2 (s1 : Unit) => (-1)) (Int.toNat ((x0.length : Int) - 0)) 0 ()
/-- slices.ContainsFunc[[][6]int,[6]int] -/
def p_slices_ContainsFunc_6_int_6_int (x0 : dy7) : Bool :=
  (decide (0 ≤ (p_slices_IndexFunc_6_int_6_int x0)))
/-- loop.example/g01210/impl.areAll[[6]int] -/
def p_impl_areAll_6_int (x0 : dy7) : Bool :=
  (!(p_slices_ContainsFunc_6_int_6_int x0))
/-- loop.example/g01210/impl.IsPool -/
def p_impl_IsPool (x0 : dy7) : Bool :=
  ((p_impl_within (x0.length : Int) 1 4) && (p_impl_areAll_6_int x0))
/-- loop.example/g01210/impl.IsGoal -/
def p_impl_IsGoal (x0 : dy5) : Bool :=
  (if ((decide (x0.1 = 2)) || (decide (x0.1 = 3))) = true then (p_impl_within x0.2.1 0 120) else ((p_impl_within x0.1 1 5) && (decide (x0.2.1 = 0))))
/-- loop.example/g01210/impl.isAgain -/
def p_impl_isAgain (x0 : dy7) (x1 : dy5) (x2 : Int) (x3 : Int) : Bool :=
  ((((p_impl_IsPool x0) && (decide ((x0.length : Int) ≤ 3))) && (p_impl_IsGoal (x1.1, (x1.2.1, ())))) && (p_impl_within x2 x3 2))
/-- loop.example/g01210/impl.power -/
def p_impl_power (fu : Nat) (x0 : Int) : Option (Int) :=
  whl (fun (s1 : Int × Int) c3 => (if s1.2 < x0 then c3 ((IntKind.wrap .i64 (s1.1 * 6)), (IntKind.wrap .i64 (s1.2 + 1))) else some s1.1)) fu (1, 0)
/-- loop.example/g01210/impl.isOutcome -/
def p_impl_isOutcome (fu : Nat) (x0 : dy7) (x1 : Int) : Option (Bool) :=
  (p_impl_power fu (x0.length : Int)).bind (fun r1 => some (p_impl_within x1 0 (IntKind.wrap .i64 (r1 - 1))))
/-- (*loop.example/g01210/impl.again).outcomes -/
def p_impl_again_outcomes (fu : Nat) (x0 : dy7) (x1 : dy7) : Option (Int) :=
  (p_impl_power fu (x0.length : Int)).bind (fun r1 => some r1)
/-- loop.example/g01210/impl.rollAt -/
def p_impl_rollAt (fu : Nat) (x0 : dy7) (x1 : Int) : Option (dy9) :=
  if (x0.length : Int) ≤ 1000000000 then whl (fun (s2 : Int × Int × dy9) c4 => (if 0 ≤ s2.2.1 then if 0 ≤ (s2.1.tmod 6) then if (s2.1.tmod 6) < 6 then c4 ((IntKind.wrap .i64 (s2.1.tdiv 6)), (s2.2.1 - 1), (s2.2.2.set s2.2.1.toNat ((x0.getD s2.2.1.toNat (List.replicate 6 0)).getD (s2.1.tmod 6).toNat 0))) else none else none else some s2.2.2)) fu (x1, ((x0.length : Int) - 1), (List.replicate (x0.length : Int).toNat 0)) else none
/-- loop.example/g01210/impl.total -/
def p_impl_total (x0 : dy9) : Int :=
  cnt (fun i2 (s1 : Int) c3 _ => c3 (IntKind.wrap .i64 (s1 + (x0.getD i2.toNat 0)))) (fun i2 (s1 : Int) => s1) (Int.toNat ((x0.length : Int) - 0)) 0 0
/-- loop.example/g01210/impl.truth -/
def p_impl_truth (x0 : Bool) : Int :=
  (if x0 = true then 1 else 0)
/-- slices.Max[[]int,int] -/
def p_slices_Max_int_int (x0 : dy9) : Option (Int) :=
  (if (x0.length : Int) < 1 then none else cnt (fun i5 (s4 : Int) c6 _ => c6 (if (x0.getD i5.toNat 0) > s4 then (x0.getD i5.toNat 0) else s4)) (fun i5 (s4 : Int) => some s4) (Int.toNat ((x0.length : Int) - 1)) 1 (x0.getD 0 0))
/-- slices.Min[[]int,int] -/
def p_slices_Min_int_int (x0 : dy9) : Option (Int) :=
  (if (x0.length : Int) < 1 then none else cnt (fun i5 (s4 : Int) c6 _ => c6 (if (x0.getD i5.toNat 0) < s4 then (x0.getD i5.toNat 0) else s4)) (fun i5 (s4 : Int) => some s4) (Int.toNat ((x0.length : Int) - 1)) 1 (x0.getD 0 0))
/-- (loop.example/g01210/impl.Goal).score -/
def p_impl_Goal_score (x0 : dy5) (x1 : dy9) : Option (Int) :=
  (if x0.1 = 2 then some (p_impl_truth (decide (x0.2.1 ≤ (p_impl_total x1)))) else (if x0.1 = 3 then some (p_impl_truth (decide ((p_impl_total x1) = x0.2.1))) else (if x0.1 = 4 then (p_slices_Max_int_int x1).bind (fun r10 => some r10) else (if x0.1 = 5 then (p_slices_Max_int_int x1).bind (fun r14 => (p_slices_Min_int_int x1).bind (fun r15 => some (p_impl_truth (decide (r14 = r15))))) else some (p_impl_total x1)))))
/-- (*loop.example/g01210/impl.again).sets -/
def p_impl_again_sets (x0 : dy7) (x1 : dy7) : Int :=
  (shlI .i64 1 (x0.length : Int))
/-- loop.example/g01210/impl.isIn -/
def p_impl_isIn (x0 : Int) (x1 : Int) : Option (Bool) :=
  if 0 ≤ x1 then some (decide ((andI .i64 (shrI .i64 x0 x1) 1) = 1)) else none
/-- (*loop.example/g01210/impl.again).merged -/
def p_impl_again_merged (fu : Nat) (x0 : Int) (x1 : Int) (x2 : Int) (x3 : dy7) (x4 : dy7) : Option (Int) :=
  whl (fun (s1 : Int × Int × Int × Int × Int) c3 => (if 0 ≤ s1.2.2.2.2 then jn (fun (s8 : Int) => c3 ((IntKind.wrap .i64 (s1.1.tdiv 6)), (IntKind.wrap .i64 (s1.2.1.tdiv 6)), (IntKind.wrap .i64 (s1.2.2.1 + (IntKind.wrap .i64 (s8 * s1.2.2.2.1)))), (IntKind.wrap .i64 (s1.2.2.2.1 * 6)), (IntKind.wrap .i64 (s1.2.2.2.2 - 1)))) (fun k9 => (p_impl_isIn x1 s1.2.2.2.2).bind (fun r11 => (if r11 = true then k9 (s1.2.1.tmod 6) else k9 (s1.1.tmod 6)))) else some s1.2.2.1)) fu (x0, x2, 0, 1, (IntKind.wrap .i64 ((x3.length : Int) - 1)))
/-- (*loop.example/g01210/impl.again).setValue -/
def p_impl_again_setValue (fu : Nat) (x0 : Int) (x1 : Int) (x2 : Int) (x3 : dy7) (x4 : dy7) : Option (Int) :=
  (p_impl_again_outcomes fu x3 x4).bind (fun r1 => whl (fun (s2 : Int × Int) c4 => (if s2.2 < r1 then if 0 ≤ (IntKind.wrap .i64 (x2 - 1)) then if (IntKind.wrap .i64 (x2 - 1)) < (x4.length : Int) then (p_impl_again_merged fu x0 x1 s2.2 x3 x4).bind (fun r11 => if 0 ≤ r11 then if r11 < ((x4.getD (IntKind.wrap .i64 (x2 - 1)).toNat []).length : Int) then c4 ((IntKind.wrap .i64 (s2.1 + ((x4.getD (IntKind.wrap .i64 (x2 - 1)).toNat []).getD r11.toNat 0))), (IntKind.wrap .i64 (s2.2 + 1))) else none else none) else none else none else some s2.1)) fu (0, 0))
/-- loop.example/g01210/impl.againOf -/
def p_impl_againOf (fu : Nat) (x0 : dy7) (x1 : dy5) (x2 : Int) : Option (dy7 × dy7) :=
  (p_impl_again_outcomes fu x0 []).bind (fun r1 => whl (fun (s2 : Int × dy9) c4 => (if s2.1 < r1 then (p_impl_rollAt fu x0 s2.1).bind (fun r9 => (p_impl_Goal_score (x1.1, (x1.2.1, ())) r9).bind (fun r11 => if (s2.2.length : Int) + 1 ≤ 1000000000 then c4 ((IntKind.wrap .i64 (s2.1 + 1)), (s2.2 ++ [r11])) else none)) else whl (fun (s13 : Int × dy7) c15 => (if s13.1 ≤ x2 then (p_impl_again_outcomes fu x0 s13.2).bind (fun r20 => whl (fun (s21 : Int × dy9) c23 => (if s21.1 < r20 then whl (fun (s28 : Int × Int) c30 => (if s28.2 < (p_impl_again_sets x0 s13.2) then (p_impl_again_setValue fu s21.1 s28.2 s13.1 x0 s13.2).bind (fun r35 => c30 ((if r35 > s28.1 then r35 else s28.1), (IntKind.wrap .i64 (s28.2 + 1)))) else if (s21.2.length : Int) + 1 ≤ 1000000000 then c23 ((IntKind.wrap .i64 (s21.1 + 1)), (s21.2 ++ [s28.1])) else none)) fu (0, 0) else if (s13.2.length : Int) + 1 ≤ 1000000000 then c15 ((IntKind.wrap .i64 (s13.1 + 1)), (s13.2 ++ [s21.2])) else none)) fu (0, [])) else some (x0, s13.2))) fu (1, ([] ++ [s2.2])))) fu (0, []))
/-- loop.example/g01210/impl.fraction -/
def p_impl_fraction (fu : Nat) (x0 : Int) (x1 : Int) : Option (dy9) :=
  whl (fun (s1 : Int × Int) c3 => (if s1.2 = 0 then if s1.1 ≠ 0 then if s1.1 ≠ 0 then some [(IntKind.wrap .i64 (x0.tdiv s1.1)), (IntKind.wrap .i64 (x1.tdiv s1.1))] else none else none else if s1.2 ≠ 0 then c3 (s1.2, (s1.1.tmod s1.2)) else none)) fu (x0, x1)
/-- (*loop.example/g01210/impl.again).mean -/
def p_impl_again_mean (fu : Nat) (x0 : Int) (x1 : Int) (x2 : dy7) (x3 : dy7) : Option (dy9) :=
  (p_impl_power fu (IntKind.wrap .i64 ((x2.length : Int) * x1))).bind (fun r1 => (p_impl_fraction fu x0 r1).bind (fun r2 => some r2))
/-- loop.example/g01210/impl.ValueOf -/
def p_impl_ValueOf (fu : Nat) (x0 : dy7) (x1 : dy5) (x2 : Int) (x3 : Int) : Option (dy9 × Bool) :=
  if ((!(!(p_impl_isAgain x0 (x1.1, (x1.2.1, ())) x3 0))) = true → (p_impl_isOutcome fu x0 x2).isSome = true) then (if ((!(p_impl_isAgain x0 (x1.1, (x1.2.1, ())) x3 0)) || (!((p_impl_isOutcome fu x0 x2).getD false))) = true then some ((List.replicate 2 0), false) else (p_impl_againOf fu x0 (x1.1, (x1.2.1, ())) x3).bind (fun r9 => if 0 ≤ x3 then if x3 < (r9.2.length : Int) then if 0 ≤ x2 then if x2 < ((r9.2.getD x3.toNat []).length : Int) then (p_impl_again_mean fu ((r9.2.getD x3.toNat []).getD x2.toNat 0) x3 r9.1 r9.2).bind (fun r14 => some (r14, true)) else none else none else none else none)) else none
/-- loop.example/g01210/spec.l6Goal -/
def p_spec_l6Goal (x0 : dy5) : Bool :=
  (if ((decide (x0.1 = 2)) || (decide (x0.1 = 3))) = true then (p_spec_l1In x0.2.1 0 120) else ((p_spec_l1In x0.1 1 5) && (decide (x0.2.1 = 0))))
/-- loop.example/g01210/spec.l6Good -/
def p_spec_l6Good (x0 : dy7) (x1 : dy5) (x2 : Int) : Option (Bool) :=
  (p_spec_l2Pool x0).bind (fun r1 => some (((r1 && (decide ((x0.length : Int) ≤ 3))) && (p_spec_l6Goal (x1.1, (x1.2.1, ())))) && (p_spec_l1In x2 0 2)))
/-- loop.example/g01210/spec.l6Number -/
def p_spec_l6Number (fu : Nat) (x0 : dy7) (x1 : Int) : Option (Bool) :=
  (p_spec_l2All fu (x0.length : Int)).bind (fun r1 => some (p_spec_l1In x1 0 (IntKind.wrap .i64 (r1 - 1))))
/-- loop.example/g01210/spec.l2Roll -/
def p_spec_l2Roll (fu : Nat) (x0 : dy7) (x1 : Int) : Option (dy9) :=
  if (x0.length : Int) ≤ 1000000000 then whl (fun (s2 : Int × Int × dy9) c4 => (if 0 ≤ s2.2.1 then if 0 ≤ (s2.1.tmod 6) then if (s2.1.tmod 6) < 6 then c4 ((IntKind.wrap .i64 (s2.1.tdiv 6)), (s2.2.1 - 1), (s2.2.2.set s2.2.1.toNat ((x0.getD s2.2.1.toNat (List.replicate 6 0)).getD (s2.1.tmod 6).toNat 0))) else none else none else some s2.2.2)) fu (x1, ((x0.length : Int) - 1), (List.replicate (x0.length : Int).toNat 0)) else none
/-- loop.example/g01210/spec.l1Most -/
def p_spec_l1Most (x0 : Int) (x1 : Int) : Int :=
  (if x1 < x0 then x0 else x1)
/-- loop.example/g01210/spec.l6One -/
def p_spec_l6One (x0 : Bool) : Int :=
  (if x0 = true then 1 else 0)
/-- loop.example/g01210/spec.l6Score -/
def p_spec_l6Score (x0 : dy5) (x1 : dy9) : Int :=
  cnt (fun i2 (s1 : Int × Int × Bool) c3 _ => c3 ((IntKind.wrap .i64 (s1.1 + (x1.getD i2.toNat 0))), (p_spec_l1Most s1.2.1 (x1.getD i2.toNat 0)), (s1.2.2 && (decide ((x1.getD i2.toNat 0) = (x1.getD 0 0)))))) (fun i2 (s1 : Int × Int × Bool) => (if x0.1 = 1 then s1.1 else (if x0.1 = 2 then (p_spec_l6One (decide (x0.2.1 ≤ s1.1))) else (if x0.1 = 3 then (p_spec_l6One (decide (s1.1 = x0.2.1))) else (if x0.1 = 4 then s1.2.1 else (p_spec_l6One s1.2.2)))))) (Int.toNat ((x1.length : Int) - 0)) 0 (0, 0, true)
/-- loop.example/g01210/spec.l1Own -/
def p_spec_l1Own (x0 : dy9) : Option (dy9) :=
  if 0 + (x0.length : Int) ≤ 1000000000 then some ([] ++ x0) else none
/-- loop.example/g01210/spec.l6Power -/
def p_spec_l6Power (fu : Nat) (x0 : Int) (x1 : Int) : Option (Int) :=
  (p_spec_l2All fu (IntKind.wrap .i64 ((IntKind.wrap .i64 (x0 - 1)) - x1))).bind (fun r1 => some r1)
/-- loop.example/g01210/spec.l6Digit -/
def p_spec_l6Digit (fu : Nat) (x0 : Int) (x1 : Int) (x2 : Int) : Option (Int) :=
  (p_spec_l6Power fu x0 x2).bind (fun r1 => if r1 ≠ 0 then some ((IntKind.wrap .i64 (x1.tdiv r1)).tmod 6) else none)
/-- loop.example/g01210/spec.l6Sums -/
def p_spec_l6Sums (fu : Nat) (x0 : Int) (x1 : dy9) (x2 : Int) : Option (dy9) :=
  (p_spec_l1Own x1).bind (fun r1 => whl (fun (s3 : Int × dy9) c5 => (if s3.1 < x0 then if (r1.length : Int) ≤ 1000000000 then (p_spec_l6Power fu x0 s3.1).bind (fun r11 => cnt (fun i13 (s12 : dy9) c14 _ => if 0 ≤ s3.1 then (if (andI .i64 (shrI .i64 x2 s3.1) 1) = 0 then c14 (s12.set i13.toNat (IntKind.wrap .i64 (6 * (s3.2.getD i13.toNat 0)))) else (p_spec_l6Digit fu x0 i13 s3.1).bind (fun r23 => cnt (fun i25 (s24 : dy9) c26 _ => if 0 ≤ (IntKind.wrap .i64 ((IntKind.wrap .i64 (i13 - (IntKind.wrap .i64 (r23 * r11)))) + (IntKind.wrap .i64 (i25 * r11)))) then if (IntKind.wrap .i64 ((IntKind.wrap .i64 (i13 - (IntKind.wrap .i64 (r23 * r11)))) + (IntKind.wrap .i64 (i25 * r11)))) < (r1.length : Int) then c26 (s24.set i13.toNat (IntKind.wrap .i64 ((s24.getD i13.toNat 0) + (s3.2.getD (IntKind.wrap .i64 ((IntKind.wrap .i64 (i13 - (IntKind.wrap .i64 (r23 * r11)))) + (IntKind.wrap .i64 (i25 * r11)))).toNat 0)))) else none else none) (fun i25 (s24 : dy9) => c14 s24) (Int.toNat (6 - 0)) 0 s12)) else none) (fun i13 (s12 : dy9) => c5 ((IntKind.wrap .i64 (s3.1 + 1)), s12)) (Int.toNat ((r1.length : Int) - 0)) 0 (List.replicate (r1.length : Int).toNat 0)) else none else some s3.2)) fu (0, r1))
/-- loop.example/g01210/spec.l6Values -/
def p_spec_l6Values (fu : Nat) (x0 : dy7) (x1 : dy5) (x2 : Int) : Option (dy9) :=
  whl (fun (s1 : Int × dy9) c3 => (p_spec_l2All fu (x0.length : Int)).bind (fun r5 => (if s1.1 < r5 then (p_spec_l2Roll fu x0 s1.1).bind (fun r9 => if (s1.2.length : Int) + 1 ≤ 1000000000 then c3 ((IntKind.wrap .i64 (s1.1 + 1)), (s1.2 ++ [(p_spec_l6Score (x1.1, (x1.2.1, ())) r9)])) else none) else whl (fun (s12 : Int × dy9) c14 => (if s12.1 < x2 then (p_spec_l6Sums fu (x0.length : Int) s12.2 0).bind (fun r19 => whl (fun (s21 : Int × dy9) c23 => (if s21.1 < (shlI .i64 1 (x0.length : Int)) then (p_spec_l6Sums fu (x0.length : Int) s12.2 s21.1).bind (fun r28 => cnt (fun i31 (s30 : dy9) c32 _ => if i31 < (r28.length : Int) then c32 (s30.set i31.toNat (p_spec_l1Most (s30.getD i31.toNat 0) (r28.getD i31.toNat 0))) else none) (fun i31 (s30 : dy9) => c23 ((IntKind.wrap .i64 (s21.1 + 1)), s30)) (Int.toNat ((r19.length : Int) - 0)) 0 s21.2) else c14 ((IntKind.wrap .i64 (s12.1 + 1)), s21.2))) fu (1, r19)) else some s12.2)) fu (0, s1.2)))) fu (0, [])
/-- loop.example/g01210/spec.l6Parts -/
def p_spec_l6Parts (fu : Nat) (x0 : dy7) (x1 : Int) : Option (Int) :=
  (p_spec_l2All fu (IntKind.wrap .i64 ((x0.length : Int) * x1))).bind (fun r1 => some r1)
/-- loop.example/g01210/spec.l2Cut -/
def p_spec_l2Cut (fu : Nat) (x0 : Int) (x1 : Int) : Option (dy9) :=
  whl (fun (s1 : Int × Int) c3 => (if 0 < s1.2 then c3 (s1.2, (s1.1.tmod s1.2)) else if (p_spec_l1Most s1.1 1) ≠ 0 then if (p_spec_l1Most s1.1 1) ≠ 0 then some [(IntKind.wrap .i64 (x0.tdiv (p_spec_l1Most s1.1 1))), (IntKind.wrap .i64 (x1.tdiv (p_spec_l1Most s1.1 1)))] else none else none)) fu (x0, x1)
/-- loop.example/g01210/spec.ValueOf -/
def p_spec_ValueOf (fu : Nat) (x0 : dy7) (x1 : dy5) (x2 : Int) (x3 : Int) : Option (dy9 × Bool) :=
  (p_spec_l6Good x0 (x1.1, (x1.2.1, ())) x3).bind (fun r1 => if ((!(!r1)) = true → (p_spec_l6Number fu x0 x2).isSome = true) then (if ((!r1) || (!((p_spec_l6Number fu x0 x2).getD false))) = true then some ((List.replicate 2 0), false) else (p_spec_l6Values fu x0 (x1.1, (x1.2.1, ())) x3).bind (fun r10 => if 0 ≤ x2 then if x2 < (r10.length : Int) then (p_spec_l6Parts fu x0 x3).bind (fun r14 => (p_spec_l2Cut fu (r10.getD x2.toNat 0) r14).bind (fun r15 => some (r15, true))) else none else none)) else none)
/-- (*loop.example/g01210/impl.again).bestSets -/
def p_impl_again_bestSets (fu : Nat) (x0 : Int) (x1 : Int) (x2 : dy7) (x3 : dy7) : Option (dy9) :=
  whl (fun (s1 : Int × dy9) c3 => (if s1.1 < (p_impl_again_sets x2 x3) then (p_impl_again_setValue fu x0 s1.1 x1 x2 x3).bind (fun r8 => if 0 ≤ x1 then if x1 < (x3.length : Int) then if 0 ≤ x0 then if x0 < ((x3.getD x1.toNat []).length : Int) then (if r8 = ((x3.getD x1.toNat []).getD x0.toNat 0) then if (s1.2.length : Int) + 1 ≤ 1000000000 then c3 ((IntKind.wrap .i64 (s1.1 + 1)), (s1.2 ++ [s1.1])) else none else c3 ((IntKind.wrap .i64 (s1.1 + 1)), s1.2)) else none else none else none else none) else some s1.2)) fu (0, [])
/-- loop.example/g01210/impl.BestSets -/
def p_impl_BestSets (fu : Nat) (x0 : dy7) (x1 : dy5) (x2 : Int) (x3 : Int) : Option (dy9 × Bool) :=
  if ((!(!(p_impl_isAgain x0 (x1.1, (x1.2.1, ())) x3 1))) = true → (p_impl_isOutcome fu x0 x2).isSome = true) then (if ((!(p_impl_isAgain x0 (x1.1, (x1.2.1, ())) x3 1)) || (!((p_impl_isOutcome fu x0 x2).getD false))) = true then some ([], false) else (p_impl_againOf fu x0 (x1.1, (x1.2.1, ())) x3).bind (fun r9 => (p_impl_again_bestSets fu x2 x3 r9.1 r9.2).bind (fun r10 => some (r10, true)))) else none
/-- loop.example/g01210/spec.l6Best -/
def p_spec_l6Best (fu : Nat) (x0 : dy7) (x1 : dy5) (x2 : Int) (x3 : Int) : Option (dy9) :=
  (p_spec_l6Values fu x0 (x1.1, (x1.2.1, ())) (IntKind.wrap .i64 (x3 - 1))).bind (fun r1 => whl (fun (s3 : Int × Int × dy9) c5 => (if s3.2.1 < (shlI .i64 1 (x0.length : Int)) then (p_spec_l6Sums fu (x0.length : Int) r1 s3.2.1).bind (fun r10 => if 0 ≤ x2 then if x2 < (r10.length : Int) then jn (fun (s14 : Int × dy9) => (if (r10.getD x2.toNat 0) = s14.1 then if (s14.2.length : Int) + 1 ≤ 1000000000 then c5 (s14.1, (IntKind.wrap .i64 (s3.2.1 + 1)), (s14.2 ++ [s3.2.1])) else none else c5 (s14.1, (IntKind.wrap .i64 (s3.2.1 + 1)), s14.2))) (fun k15 => (if s3.1 < (r10.getD x2.toNat 0) then k15 ((r10.getD x2.toNat 0), []) else k15 (s3.1, s3.2.2))) else none else none) else some s3.2.2)) fu ((-1), 0, []))
/-- loop.example/g01210/spec.BestSets -/
def p_spec_BestSets (fu : Nat) (x0 : dy7) (x1 : dy5) (x2 : Int) (x3 : Int) : Option (dy9 × Bool) :=
  (p_spec_l6Good x0 (x1.1, (x1.2.1, ())) x3).bind (fun r1 => if ((!((!r1) || (decide (x3 < 1)))) = true → (p_spec_l6Number fu x0 x2).isSome = true) then (if (((!r1) || (decide (x3 < 1))) || (!((p_spec_l6Number fu x0 x2).getD false))) = true then some ([], false) else (p_spec_l6Best fu x0 (x1.1, (x1.2.1, ())) x2 x3).bind (fun r27 => some (r27, true))) else none)
/-- loop.example/g01210/impl.BestSet -/
def p_impl_BestSet (fu : Nat) (x0 : dy7) (x1 : dy5) (x2 : Int) (x3 : Int) : Option (Int × Bool) :=
  (p_impl_BestSets fu x0 (x1.1, (x1.2.1, ())) x2 x3).bind (fun r1 => (if r1.2 = true then if 0 < (r1.1.length : Int) then some ((r1.1.getD 0 0), true) else none else some (0, false)))
/-- loop.example/g01210/spec.BestSet -/
def p_spec_BestSet (fu : Nat) (x0 : dy7) (x1 : dy5) (x2 : Int) (x3 : Int) : Option (Int × Bool) :=
  (p_spec_BestSets fu x0 (x1.1, (x1.2.1, ())) x2 x3).bind (fun r1 => (if r1.2 = true then if 0 < (r1.1.length : Int) then some ((r1.1.getD 0 0), true) else none else some (0, false)))
/-- loop.example/g01210/laws.vCut -/
def p_laws_vCut (x0 : dy9) (x1 : Int) : Option (dy9) :=
  jn (fun (s1 : Int) => if 0 ≤ s1 then if s1 ≤ (x0.length : Int) then if 0 + ((x0.length : Int) - s1) ≤ 1000000000 then if (0 + ((x0.length : Int) - s1)) + 1 ≤ 1000000000 then some (([] ++ (x0.drop s1.toNat)) ++ [(IntKind.wrap .u8 s1)]) else none else none else none else none) (fun k2 => (if (x0.length : Int) < x1 then k2 (x0.length : Int) else k2 x1))
/-- loop.example/g01210/spec.DrawSetValue -/
def p_spec_DrawSetValue (fu : Nat) (x0 : dy9) : Option (dy7 × dy5 × Int × Int × Int) :=
  (p_spec_l1Cur_again6 fu x0 0 0).bind (fun r1 => (p_spec_l1Cur_pick 8 x0 r1.2.2.2.2.1 r1.2.2.2.2.2).bind (fun r3 => (p_spec_l1Cur_pick 24 x0 r3.2.1 r3.2.2).bind (fun r4 => some (r1.1, (r1.2.1.1, (r1.2.1.2.1, ())), r1.2.2.1, (IntKind.wrap .i64 (r3.1 - (IntKind.wrap .i64 (r4.1.tdiv 23)))), r1.2.2.2.1))))
/-- loop.example/g01210/impl.SetValue -/
def p_impl_SetValue (fu : Nat) (x0 : dy7) (x1 : dy5) (x2 : Int) (x3 : Int) (x4 : Int) : Option (dy9 × Bool) :=
  if ((!(!(p_impl_isAgain x0 (x1.1, (x1.2.1, ())) x4 1))) = true → (p_impl_isOutcome fu x0 x2).isSome = true) then (if (((!(p_impl_isAgain x0 (x1.1, (x1.2.1, ())) x4 1)) || (!((p_impl_isOutcome fu x0 x2).getD false))) || (!(p_impl_within x3 0 (IntKind.wrap .i64 ((shlI .i64 1 (x0.length : Int)) - 1))))) = true then some ((List.replicate 2 0), false) else (p_impl_againOf fu x0 (x1.1, (x1.2.1, ())) (IntKind.wrap .i64 (x4 - 1))).bind (fun r32 => (p_impl_again_setValue fu x2 x3 x4 r32.1 r32.2).bind (fun r33 => (p_impl_again_mean fu r33 x4 r32.1 r32.2).bind (fun r34 => some (r34, true))))) else none
/-- loop.example/g01210/spec.SetValue -/
def p_spec_SetValue (fu : Nat) (x0 : dy7) (x1 : dy5) (x2 : Int) (x3 : Int) (x4 : Int) : Option (dy9 × Bool) :=
  (p_spec_l6Good x0 (x1.1, (x1.2.1, ())) x4).bind (fun r1 => if ((!((!r1) || (decide (x4 < 1)))) = true → (p_spec_l6Number fu x0 x2).isSome = true) then (if ((((!r1) || (decide (x4 < 1))) || (!((p_spec_l6Number fu x0 x2).getD false))) || (!(p_spec_l1In x3 0 (IntKind.wrap .i64 ((shlI .i64 1 (x0.length : Int)) - 1))))) = true then some ((List.replicate 2 0), false) else (p_spec_l6Values fu x0 (x1.1, (x1.2.1, ())) (IntKind.wrap .i64 (x4 - 1))).bind (fun r71 => (p_spec_l6Sums fu (x0.length : Int) r71 x3).bind (fun r73 => if 0 ≤ x2 then if x2 < (r73.length : Int) then (p_spec_l6Parts fu x0 x4).bind (fun r77 => (p_spec_l2Cut fu (r73.getD x2.toNat 0) r77).bind (fun r78 => some (r78, true))) else none else none))) else none)
/-- loop.example/g01210/laws.vInts -/
def p_laws_vInts (x0 : dy9) (x1 : dy9) : Bool :=
  (if (x0.length : Int) = (x1.length : Int) then cnt (fun i5 (s4 : Unit) c6 _ => (if (x0.getD i5.toNat 0) = (x1.getD i5.toNat 0) then c6 () else false)) (fun i5 (s4 : Unit) => true) (Int.toNat ((x0.length : Int) - 0)) 0 () else false)
/-- loop.example/g01210/spec.IsGoal -/
def p_spec_IsGoal (x0 : dy5) : Bool :=
  (p_spec_l6Goal (x0.1, (x0.2.1, ())))
/-- loop.example/g01210/laws.vLess -/
def p_laws_vLess (x0 : dy9) (x1 : dy9) : Bool :=
  (decide ((IntKind.wrap .i64 ((x0.getD 0 0) * (x1.getD 1 0))) < (IntKind.wrap .i64 ((x1.getD 0 0) * (x0.getD 1 0)))))
/-- loop.example/g01210/laws.vHas -/
def p_laws_vHas (x0 : dy9) (x1 : Int) : Bool :=
  cnt (fun i2 (s1 : Unit) c3 _ => (if (x0.getD i2.toNat 0) = x1 then true else c3 ())) (fun i2 (s1 : Unit) => false) (Int.toNat ((x0.length : Int) - 0)) 0 ()
/-- loop.example/g01210/impl.RollAt -/
def p_impl_RollAt (fu : Nat) (x0 : dy7) (x1 : Int) : Option (dy9 × Bool) :=
  if ((!(!(p_impl_IsPool x0))) = true → (p_impl_isOutcome fu x0 x1).isSome = true) then (if ((!(p_impl_IsPool x0)) || (!((p_impl_isOutcome fu x0 x1).getD false))) = true then some ([], false) else (p_impl_rollAt fu x0 x1).bind (fun r9 => some (r9, true))) else none
/-- loop.example/g01210/impl.ScoreOf -/
def p_impl_ScoreOf (x0 : dy5) (x1 : dy9) : Option (Int × Bool) :=
  (if (((!(p_impl_IsGoal (x0.1, (x0.2.1, ())))) || (!(p_impl_within (x1.length : Int) 1 3))) || (!(p_impl_areAll_int x1))) = true then some (0, false) else (p_impl_Goal_score (x0.1, (x0.2.1, ())) x1).bind (fun r19 => some (r19, true)))
/-- loop.example/g01210/laws.FnAgain -/
def p_laws_FnAgain (fu : Nat) (x0 : dy9) : Option (Bool) :=
  (if (p_laws_vBig x0) = true then some true else (p_spec_DrawValueOf fu x0).bind (fun r2 => (p_impl_ValueOf fu r2.1 (r2.2.1.1, (r2.2.1.2.1, ())) r2.2.2.1 r2.2.2.2).bind (fun r4 => (p_spec_ValueOf fu r2.1 (r2.2.1.1, (r2.2.1.2.1, ())) r2.2.2.1 r2.2.2.2).bind (fun r5 => (p_impl_BestSets fu r2.1 (r2.2.1.1, (r2.2.1.2.1, ())) r2.2.2.1 r2.2.2.2).bind (fun r6 => (p_spec_BestSets fu r2.1 (r2.2.1.1, (r2.2.1.2.1, ())) r2.2.2.1 r2.2.2.2).bind (fun r8 => (p_impl_BestSet fu r2.1 (r2.2.1.1, (r2.2.1.2.1, ())) r2.2.2.1 r2.2.2.2).bind (fun r10 => (p_spec_BestSet fu r2.1 (r2.2.1.1, (r2.2.1.2.1, ())) r2.2.2.1 r2.2.2.2).bind (fun r11 => (p_laws_vCut x0 1).bind (fun r12 => (p_spec_DrawSetValue fu r12).bind (fun r14 => (p_impl_SetValue fu r14.1 (r14.2.1.1, (r14.2.1.2.1, ())) r14.2.2.1 r14.2.2.2.1 r14.2.2.2.2).bind (fun r16 => (p_spec_SetValue fu r14.1 (r14.2.1.1, (r14.2.1.2.1, ())) r14.2.2.1 r14.2.2.2.1 r14.2.2.2.2).bind (fun r17 => (if (((((((((((!(decide (r4.1 = r5.1))) || (r4.2 != r5.2)) || (r6.2 != r8.2)) || (!(p_laws_vInts r6.1 r8.1))) || (!(decide (r10.1 = r11.1)))) || (r10.2 != r11.2)) || (!(decide (r16.1 = r17.1)))) || (r16.2 != r17.2)) || (r6.2 != r10.2)) || (r6.2 && (!r4.2))) || ((p_impl_IsGoal (r2.2.1.1, (r2.2.1.2.1, ()))) != (p_spec_IsGoal (r2.2.1.1, (r2.2.1.2.1, ()))))) = true then some false else jn (fun (s443 : Unit) => jn (fun (s446 : Unit) => (if (r4.2 && (decide (r2.2.2.2 = 0))) = true then (p_impl_RollAt fu r2.1 r2.2.2.1).bind (fun r455 => (p_impl_ScoreOf (r2.2.1.1, (r2.2.1.2.1, ())) r455.1).bind (fun r457 => some ((r455.2 && r457.2) && (decide (r4.1 = [r457.1, 1]))))) else some true)) (fun k447 => (if r6.2 = true then (p_impl_SetValue fu r2.1 (r2.2.1.1, (r2.2.1.2.1, ())) r2.2.2.1 r10.1 r2.2.2.2).bind (fun r472 => (p_impl_ValueOf fu r2.1 (r2.2.1.1, (r2.2.1.2.1, ())) r2.2.2.1 (IntKind.wrap .i64 (r2.2.2.2 - 1))).bind (fun r473 => (if ((((((!r472.2) || (!r473.2)) || (decide ((r6.1.length : Int) < 1))) || (!(decide ((r6.1.getD 0 0) = r10.1)))) || (!(decide (r472.1 = r4.1)))) || (p_laws_vLess r4.1 r473.1)) = true then some false else k447 ()))) else k447 ()))) (fun k444 => (if r16.2 = true then (p_impl_ValueOf fu r14.1 (r14.2.1.1, (r14.2.1.2.1, ())) r14.2.2.1 r14.2.2.2.2).bind (fun r589 => (p_impl_BestSets fu r14.1 (r14.2.1.1, (r14.2.1.2.1, ())) r14.2.2.1 r14.2.2.2.2).bind (fun r590 => (if ((((!r589.2) || (!r590.2)) || (p_laws_vLess r589.1 r16.1)) || ((decide (r16.1 = r589.1)) != (p_laws_vHas r590.1 r14.2.2.2.1))) = true then some false else k444 ()))) else k444 ())))))))))))))))
end Go.GA
