/- Walks: what the Go functions compute, by the printed lines below; no further conditions. -/
import Derived.Test.YtheplbbbfbbjcaaGaD
namespace Go.GA
open Go
set_option maxRecDepth 100000
set_option maxHeartbeats 2000000
set_option linter.unusedVariables false
set_option linter.unusedSimpArgs false
/-- loop.example/g01210/laws.rBig -/
def p_laws_rBig (x0 : (List Int)) : Bool :=
  (decide (65536 < (x0.length : Int)))
/-- (*loop.example/g01210/spec.l1Cur).next -/
def p_spec_l1Cur_next (x0 : (List Int)) (x1 : Int) (x2 : Int) : Option (Int × Int × Int) :=
  jn (fun (s1 : Int) => (if (IntKind.wrap .i64 (x1 + 1)) ≤ (x0.length : Int) then some (s1, (IntKind.wrap .i64 (x1 + 1)), (IntKind.wrap .u64 ((IntKind.wrap .u64 ((IntKind.wrap .u64 (x2 * 6364136223846793005)) + (IntKind.wrap .u64 s1))) + 462197))) else some ((IntKind.wrap .i64 (andI .u64 (shrI .u64 (IntKind.wrap .u64 ((IntKind.wrap .u64 ((IntKind.wrap .u64 (x2 * 6364136223846793005)) + (IntKind.wrap .u64 s1))) + 462197)) 40) 255)), (IntKind.wrap .i64 (x1 + 1)), (IntKind.wrap .u64 ((IntKind.wrap .u64 ((IntKind.wrap .u64 (x2 * 6364136223846793005)) + (IntKind.wrap .u64 s1))) + 462197))))) (fun k2 => (if x1 < (x0.length : Int) then if 0 ≤ x1 then k2 (IntKind.wrap .i64 (x0.getD x1.toNat 0)) else none else k2 0))
/-- (*loop.example/g01210/spec.l1Cur).pick -/
def p_spec_l1Cur_pick (x0 : Int) (x1 : (List Int)) (x2 : Int) (x3 : Int) : Option (Int × Int × Int) :=
  (if x0 ≤ 1 then some (0, x2, x3) else (p_spec_l1Cur_next x1 x2 x3).bind (fun r4 => (if 200 < x0 then (p_spec_l1Cur_next x1 r4.2.1 r4.2.2).bind (fun r8 => some (((IntKind.wrap .i64 ((IntKind.wrap .i64 (r4.1 * 256)) + r8.1)).tmod x0), r8.2.1, r8.2.2)) else some ((r4.1.tmod x0), r4.2.1, r4.2.2))))
/-- (*loop.example/g01210/spec.l1Cur).among -/
def p_spec_l1Cur_among (x0 : (List Int)) (x1 : (List Int)) (x2 : Int) (x3 : Int) : Option (Int × Int × Int) :=
  (p_spec_l1Cur_pick (x0.length : Int) x1 x2 x3).bind (fun r1 => if 0 ≤ r1.1 then if r1.1 < (x0.length : Int) then some ((x0.getD r1.1.toNat 0), r1.2.1, r1.2.2) else none else none)
/-- (*loop.example/g01210/spec.l1Cur).goal -/
def p_spec_l1Cur_goal (x0 : (List Int)) (x1 : Int) (x2 : Int) : Option (Int × Int × Int) :=
  (p_spec_l1Cur_among [3, 5, 8, 1, 6, 2, 4, 7, 0, 9] x0 x1 x2).bind (fun r1 => some (r1.1, r1.2.1, r1.2.2))
/-- (*loop.example/g01210/spec.l1Cur).one -/
def p_spec_l1Cur_one (x0 : Int) (x1 : (List Int)) (x2 : Int) (x3 : Int) : Option (Bool × Int × Int) :=
  (p_spec_l1Cur_pick x0 x1 x2 x3).bind (fun r1 => some ((decide (r1.1 = 0)), r1.2.1, r1.2.2))
/-- (*loop.example/g01210/spec.l1Cur).face -/
def p_spec_l1Cur_face (x0 : (List Int)) (x1 : Int) (x2 : Int) : Option (Int × Int × Int) :=
  (p_spec_l1Cur_among [1, 2, 3, 4, 5, 6, 6, 0, 8, 9, 4, 3, 30, 12] x0 x1 x2).bind (fun r1 => some (r1.1, r1.2.1, r1.2.2))
/-- loop.example/g01210/spec.l2Sorted -/
def p_spec_l2Sorted (x0 : (List Int)) : (List Int) :=
  cnt (fun i2 (s1 : (List Int)) c3 _ => cnt (fun i9 (s8 : (List Int)) c10 _ => (if (s8.getD (i9 + 1).toNat 0) < (s8.getD i9.toNat 0) then c10 ((s8.set i9.toNat (s8.getD (i9 + 1).toNat 0)).set (i9 + 1).toNat (s8.getD i9.toNat 0)) else c10 s8)) (fun i9 (s8 : (List Int)) => c3 s8) (Int.toNat (5 - 0)) 0 s1) (fun i2 (s1 : (List Int)) => s1) (Int.toNat (6 - 0)) 0 x0
/-- (*loop.example/g01210/spec.l1Cur).die -/
def p_spec_l1Cur_die (x0 : (List Int)) (x1 : Int) (x2 : Int) : Option ((List Int) × Int × Int) :=
  jn (fun (s1 : Int × Int × (List Int)) => (p_spec_l1Cur_pick 50 x0 s1.1 s1.2.1).bind (fun r4 => (if r4.1 = 0 then (p_spec_l1Cur_pick 6 x0 r4.2.1 r4.2.2).bind (fun r8 => (p_spec_l1Cur_among [(-1), 31, 0, 4611686018427387904] x0 r8.2.1 r8.2.2).bind (fun r9 => if 0 ≤ r8.1 then if r8.1 < 6 then some (((p_spec_l2Sorted s1.2.2).set r8.1.toNat r9.1), r9.2.1, r9.2.2) else none else none)) else (if r4.1 = 1 then some (((p_spec_l2Sorted s1.2.2).set 0 30), r4.2.1, r4.2.2) else some ((p_spec_l2Sorted s1.2.2), r4.2.1, r4.2.2))))) (fun k2 => (p_spec_l1Cur_pick 6 x0 x1 x2).bind (fun r15 => (if r15.1 = 0 then some ([1, 2, 3, 4, 5, 6], r15.2.1, r15.2.2) else (if r15.1 = 1 then k2 (r15.2.1, r15.2.2, [1, 2, 2, 3, 3, 4]) else (if r15.1 = 2 then (p_spec_l1Cur_face x0 r15.2.1 r15.2.2).bind (fun r25 => (p_spec_l1Cur_face x0 r25.2.1 r25.2.2).bind (fun r26 => cnt (fun i28 (s27 : Int × Int × (List Int)) c29 _ => (p_spec_l1Cur_one 3 x0 s27.1 s27.2.1).bind (fun r34 => (if r34.1 = true then c29 (r34.2.1, r34.2.2, ((s27.2.2.set i28.toNat r25.1).set i28.toNat r26.1)) else c29 (r34.2.1, r34.2.2, (s27.2.2.set i28.toNat r25.1))))) (fun i28 (s27 : Int × Int × (List Int)) => k2 (s27.1, s27.2.1, s27.2.2)) (Int.toNat (6 - 0)) 0 (r26.2.1, r26.2.2, [1, 2, 3, 4, 5, 6]))) else cnt (fun i37 (s36 : Int × Int × (List Int)) c38 _ => (p_spec_l1Cur_face x0 s36.1 s36.2.1).bind (fun r43 => c38 (r43.2.1, r43.2.2, (s36.2.2.set i37.toNat r43.1)))) (fun i37 (s36 : Int × Int × (List Int)) => k2 (s36.1, s36.2.1, s36.2.2)) (Int.toNat (6 - 0)) 0 (r15.2.1, r15.2.2, [1, 2, 3, 4, 5, 6]))))))
/-- (*loop.example/g01210/spec.l1Cur).little -/
def p_spec_l1Cur_little (x0 : (List Int)) (x1 : Int) (x2 : Int) : Option ((List Int) × Int × Int) :=
  jn (fun (s1 : Int × Int × (List Int)) => (if (s1.2.2.getD 0 0) = 0 then (p_spec_l1Cur_one 6 x0 s1.1 s1.2.1).bind (fun r7 => (if r7.1 = true then some ((p_spec_l2Sorted s1.2.2), r7.2.1, r7.2.2) else some ((p_spec_l2Sorted (s1.2.2.set 0 1)), r7.2.1, r7.2.2))) else some ((p_spec_l2Sorted s1.2.2), s1.1, s1.2.1))) (fun k2 => (p_spec_l1Cur_one 5 x0 x1 x2).bind (fun r9 => (if r9.1 = true then (p_spec_l1Cur_die x0 r9.2.1 r9.2.2).bind (fun r11 => k2 (r11.2.1, r11.2.2, r11.1)) else cnt (fun i13 (s12 : Int × Int × (List Int)) c14 _ => (p_spec_l1Cur_among [3, 6, 2, 4] x0 s12.1 s12.2.1).bind (fun r19 => (p_spec_l1Cur_pick r19.1 x0 r19.2.1 r19.2.2).bind (fun r20 => c14 (r20.2.1, r20.2.2, (s12.2.2.set i13.toNat (IntKind.wrap .i64 (1 + r20.1))))))) (fun i13 (s12 : Int × Int × (List Int)) => k2 (s12.1, s12.2.1, s12.2.2)) (Int.toNat (6 - 0)) 0 (r9.2.1, r9.2.2, (List.replicate 6 0)))))
/-- loop.example/g01210/spec.DrawRunTable -/
def p_spec_DrawRunTable (x0 : (List Int)) : Option ((List Int) × Int) :=
  (p_spec_l1Cur_goal x0 0 0).bind (fun r1 => (p_spec_l1Cur_little x0 r1.2.1 r1.2.2).bind (fun r2 => some (r2.1, r1.1)))
/-- loop.example/g01210/impl.within -/
def p_impl_within (x0 : Int) (x1 : Int) (x2 : Int) : Bool :=
  ((decide (x1 ≤ x0)) && (decide (x0 ≤ x2)))
/-- loop.example/g01210/impl.isFace -/
def p_impl_isFace (x0 : Int) : Bool :=
  (p_impl_within x0 0 30)
/-- loop.example/g01210/impl.areAll[int]$1 -/
def p_impl_areAll_int_1 (x0 : Int) : Bool :=
  (!(p_impl_isFace x0))
/-- slices.IndexFunc[[]int,int] -/
def p_slices_IndexFunc_int_int (x0 : (List Int)) : Int :=
  cnt (fun i2 (s1 : Unit) c3 _ => (if (p_impl_areAll_int_1 (x0.getD i2.toNat 0)) = true then i2 else c3 ())) (fun i2 (s1 : Unit) => (-1)) (Int.toNat ((x0.length : Int) - 0)) 0 ()
/-- slices.ContainsFunc[[]int,int] -/
def p_slices_ContainsFunc_int_int (x0 : (List Int)) : Bool :=
  (decide (0 ≤ (p_slices_IndexFunc_int_int x0)))
/-- loop.example/g01210/impl.areAll[int] -/
def p_impl_areAll_int (x0 : (List Int)) : Bool :=
  (!(p_slices_ContainsFunc_int_int x0))
/-- cmp.isNaN[int] -/
def p_cmp_isNaN_int (x0 : Int) : Bool :=
  (!(decide (x0 = x0)))
/-- cmp.Less[int] -/
def p_cmp_Less_int (x0 : Int) (x1 : Int) : Bool :=
  (((p_cmp_isNaN_int x0) && (!(p_cmp_isNaN_int x1))) || (decide (x0 < x1)))
/-- slices.IsSorted[[]int,int] -/
def p_slices_IsSorted_int_int (x0 : (List Int)) : Bool :=
  cntd (fun i2 (s1 : Unit) c3 _ => (if (p_cmp_Less_int (x0.getD i2.toNat 0) (x0.getD (i2 - 1).toNat 0)) = true then false else c3 ())) (fun i2 (s1 : Unit) => true) (Int.toNat (((x0.length : Int) - 1) - 0)) ((x0.length : Int) - 1) ()
/-- loop.example/g01210/impl.IsDie -/
def p_impl_IsDie (x0 : (List Int)) : Bool :=
  ((p_impl_areAll_int x0) && (p_slices_IsSorted_int_int x0))
/-- loop.example/g01210/impl.isRunner -/
def p_impl_isRunner (x0 : (List Int)) : Bool :=
  ((p_impl_IsDie x0) && (decide (0 < (x0.getD 0 0))))
/-- loop.example/g01210/impl.isGoal -/
def p_impl_isGoal (x0 : Int) : Bool :=
  (p_impl_within x0 1 8)
/-- loop.example/g01210/impl.power -/
def p_impl_power (fu : Nat) (x0 : Int) : Option (Int) :=
  whl (fun (s1 : Int × Int) c3 => (if s1.2 < x0 then c3 ((IntKind.wrap .i64 (s1.1 * 6)), (IntKind.wrap .i64 (s1.2 + 1))) else some s1.1)) fu (1, 0)
/-- loop.example/g01210/impl.runs -/
def p_impl_runs (fu : Nat) (x0 : (List Int)) (x1 : Int) : Option ((List Int)) :=
  if 0 ≤ x1 then if x1 ≤ 1000000000 then if 0 < x1 then whl (fun (s4 : Int × (List Int) × (List Int)) c6 => (if s4.1 ≤ x1 then cnt (fun i12 (s11 : Int × (List Int)) c13 _ => cnt (fun i19 (s18 : Int × (List Int)) c20 _ => (if x1 ≤ (IntKind.wrap .i64 (i12 + (x0.getD i19.toNat 0))) then c20 ((IntKind.wrap .i64 (s18.1 + (s4.2.1.getD i12.toNat 0))), s18.2) else if 0 ≤ (IntKind.wrap .i64 (i12 + (x0.getD i19.toNat 0))) then c20 (s18.1, (s18.2.set (IntKind.wrap .i64 (i12 + (x0.getD i19.toNat 0))).toNat (IntKind.wrap .i64 ((s18.2.getD (IntKind.wrap .i64 (i12 + (x0.getD i19.toNat 0))).toNat 0) + (s4.2.1.getD i12.toNat 0))))) else none)) (fun i19 (s18 : Int × (List Int)) => c13 (s18.1, s18.2)) (Int.toNat (6 - 0)) 0 (s11.1, s11.2)) (fun i12 (s11 : Int × (List Int)) => (p_impl_power fu (x1 - s4.1)).bind (fun r29 => if (s4.2.2.length : Int) + 1 ≤ 1000000000 then c6 ((s4.1 + 1), s11.2, (s4.2.2 ++ [(IntKind.wrap .i64 (s11.1 * r29))])) else none)) (Int.toNat (x1 - 0)) 0 (0, (List.replicate x1.toNat 0)) else some s4.2.2)) fu (1, ((List.replicate x1.toNat 0).set 0 1), []) else none else none else none
/-- loop.example/g01210/impl.fraction -/
def p_impl_fraction (fu : Nat) (x0 : Int) (x1 : Int) : Option ((List Int)) :=
  whl (fun (s1 : Int × Int) c3 => (if s1.2 = 0 then if s1.1 ≠ 0 then if s1.1 ≠ 0 then some [(IntKind.wrap .i64 (x0.tdiv s1.1)), (IntKind.wrap .i64 (x1.tdiv s1.1))] else none else none else if s1.2 ≠ 0 then c3 (s1.2, (s1.1.tmod s1.2)) else none)) fu (x0, x1)
/-- loop.example/g01210/impl.RunTable -/
def p_impl_RunTable (fu : Nat) (x0 : (List Int)) (x1 : Int) : Option ((List (List Int)) × Bool) :=
  (if ((!(p_impl_isRunner x0)) || (!(p_impl_isGoal x1))) = true then some ([], false) else (p_impl_runs fu x0 x1).bind (fun r7 => cnt (fun i10 (s9 : (List (List Int))) c11 _ => (p_impl_power fu x1).bind (fun r16 => (p_impl_fraction fu (r7.getD i10.toNat 0) r16).bind (fun r17 => if (s9.length : Int) + 1 ≤ 1000000000 then c11 (s9 ++ [r17]) else none))) (fun i10 (s9 : (List (List Int))) => some (s9, true)) (Int.toNat ((r7.length : Int) - 0)) 0 []))
/-- loop.example/g01210/spec.l1In -/
def p_spec_l1In (x0 : Int) (x1 : Int) (x2 : Int) : Bool :=
  ((decide (x1 ≤ x0)) && (decide (x0 ≤ x2)))
/-- loop.example/g01210/spec.l2Die -/
def p_spec_l2Die (x0 : (List Int)) : Option (Bool) :=
  cnt (fun i2 (s1 : Unit) c3 _ => (if ((!(p_spec_l1In (x0.getD i2.toNat 0) 0 30)) || ((decide (0 < i2)) && (decide ((x0.getD i2.toNat 0) < (x0.getD (i2 - 1).toNat 0))))) = true then some false else c3 ())) (fun i2 (s1 : Unit) => some true) (Int.toNat (6 - 0)) 0 ()
/-- loop.example/g01210/spec.l7Die -/
def p_spec_l7Die (x0 : (List Int)) : Option (Bool) :=
  (p_spec_l2Die x0).bind (fun r1 => some (r1 && (decide (0 < (x0.getD 0 0)))))
/-- loop.example/g01210/spec.l7Goal -/
def p_spec_l7Goal (x0 : Int) : Bool :=
  (p_spec_l1In x0 1 8)
/-- loop.example/g01210/spec.l7Run -/
def p_spec_l7Run (fu : Nat) (x0 : (List Int)) (x1 : Int) : Option ((List Int)) :=
  if 0 ≤ x1 then if x1 ≤ 1000000000 then if 0 < x1 then whl (fun (s4 : Int × (List Int) × (List Int)) c6 => (if s4.1 ≤ x1 then cnt (fun i12 (s11 : Int × (List Int)) c13 _ => cnt (fun i19 (s18 : Int × (List Int)) c20 _ => (if (IntKind.wrap .i64 (i12 + (x0.getD i19.toNat 0))) < x1 then if 0 ≤ (IntKind.wrap .i64 (i12 + (x0.getD i19.toNat 0))) then c20 (s18.1, (s18.2.set (IntKind.wrap .i64 (i12 + (x0.getD i19.toNat 0))).toNat (IntKind.wrap .i64 ((s18.2.getD (IntKind.wrap .i64 (i12 + (x0.getD i19.toNat 0))).toNat 0) + (s4.2.1.getD i12.toNat 0))))) else none else c20 ((IntKind.wrap .i64 (s18.1 + (s4.2.1.getD i12.toNat 0))), s18.2))) (fun i19 (s18 : Int × (List Int)) => c13 (s18.1, s18.2)) (Int.toNat (6 - 0)) 0 (s11.1, s11.2)) (fun i12 (s11 : Int × (List Int)) => if (s4.2.2.length : Int) + 1 ≤ 1000000000 then c6 ((s4.1 + 1), s11.2, (s4.2.2 ++ [s11.1])) else none) (Int.toNat (x1 - 0)) 0 (0, (List.replicate x1.toNat 0)) else some s4.2.2)) fu (1, ((List.replicate x1.toNat 0).set 0 1), [0]) else none else none else none
/-- loop.example/g01210/spec.l2All -/
def p_spec_l2All (fu : Nat) (x0 : Int) : Option (Int) :=
  whl (fun (s1 : Int × Int) c3 => (if s1.2 < x0 then c3 ((IntKind.wrap .i64 (s1.1 * 6)), (IntKind.wrap .i64 (s1.2 + 1))) else some s1.1)) fu (1, 0)
/-- loop.example/g01210/spec.l1Most -/
def p_spec_l1Most (x0 : Int) (x1 : Int) : Int :=
  (if x1 < x0 then x0 else x1)
/-- loop.example/g01210/spec.l2Cut -/
def p_spec_l2Cut (fu : Nat) (x0 : Int) (x1 : Int) : Option ((List Int)) :=
  whl (fun (s1 : Int × Int) c3 => (if 0 < s1.2 then c3 (s1.2, (s1.1.tmod s1.2)) else if (p_spec_l1Most s1.1 1) ≠ 0 then if (p_spec_l1Most s1.1 1) ≠ 0 then some [(IntKind.wrap .i64 (x0.tdiv (p_spec_l1Most s1.1 1))), (IntKind.wrap .i64 (x1.tdiv (p_spec_l1Most s1.1 1)))] else none else none)) fu (x0, x1)
/-- loop.example/g01210/spec.RunTable -/
def p_spec_RunTable (fu : Nat) (x0 : (List Int)) (x1 : Int) : Option ((List (List Int)) × Bool) :=
  (p_spec_l7Die x0).bind (fun r1 => (if ((!r1) || (!(p_spec_l7Goal x1))) = true then some ([], false) else (p_spec_l7Run fu x0 x1).bind (fun r8 => whl (fun (s10 : Int × (List (List Int))) c12 => (if s10.1 ≤ x1 then if s10.1 < (r8.length : Int) then (p_spec_l2All fu s10.1).bind (fun r18 => (p_spec_l2Cut fu (r8.getD s10.1.toNat 0) r18).bind (fun r19 => if (s10.2.length : Int) + 1 ≤ 1000000000 then c12 ((s10.1 + 1), (s10.2 ++ [r19])) else none)) else none else some (s10.2, true))) fu (1, []))))
/-- loop.example/g01210/laws.rPairs -/
def p_laws_rPairs (x0 : (List (List Int))) (x1 : (List (List Int))) : Bool :=
  (if (x0.length : Int) = (x1.length : Int) then cnt (fun i5 (s4 : Unit) c6 _ => (if (x0.getD i5.toNat (List.replicate 2 0)) = (x1.getD i5.toNat (List.replicate 2 0)) then c6 () else false)) (fun i5 (s4 : Unit) => true) (Int.toNat ((x0.length : Int) - 0)) 0 () else false)
/-- loop.example/g01210/impl.meanRun -/
def p_impl_meanRun (fu : Nat) (x0 : (List Int)) (x1 : Int) : Option (Int) :=
  (p_impl_runs fu x0 x1).bind (fun r1 => cnt (fun i4 (s3 : Int) c5 _ => c5 (IntKind.wrap .i64 (s3 + (IntKind.wrap .i64 ((i4 + 1) * (r1.getD i4.toNat 0)))))) (fun i4 (s3 : Int) => some s3) (Int.toNat ((r1.length : Int) - 0)) 0 0)
/-- loop.example/g01210/impl.MeanRun -/
def p_impl_MeanRun (fu : Nat) (x0 : (List Int)) (x1 : Int) : Option ((List Int) × Bool) :=
  (if ((!(p_impl_isRunner x0)) || (!(p_impl_isGoal x1))) = true then some ((List.replicate 2 0), false) else (p_impl_meanRun fu x0 x1).bind (fun r7 => (p_impl_power fu x1).bind (fun r8 => (p_impl_fraction fu r7 r8).bind (fun r9 => some (r9, true)))))
/-- loop.example/g01210/spec.l7Mean -/
def p_spec_l7Mean (fu : Nat) (x0 : (List Int)) (x1 : Int) : Option ((List Int)) :=
  (p_spec_l7Run fu x0 x1).bind (fun r1 => whl (fun (s3 : Int × Int) c5 => (if s3.2 ≤ x1 then if s3.2 < (r1.length : Int) then (p_spec_l2All fu (IntKind.wrap .i64 (x1 - s3.2))).bind (fun r11 => c5 ((IntKind.wrap .i64 (s3.1 + (IntKind.wrap .i64 ((IntKind.wrap .i64 (s3.2 * (r1.getD s3.2.toNat 0))) * r11)))), (s3.2 + 1))) else none else (p_spec_l2All fu x1).bind (fun r12 => (p_spec_l2Cut fu s3.1 r12).bind (fun r13 => some r13)))) fu (0, 1))
/-- loop.example/g01210/spec.MeanRun -/
def p_spec_MeanRun (fu : Nat) (x0 : (List Int)) (x1 : Int) : Option ((List Int) × Bool) :=
  (p_spec_l7Die x0).bind (fun r1 => (if ((!r1) || (!(p_spec_l7Goal x1))) = true then some ((List.replicate 2 0), false) else (p_spec_l7Mean fu x0 x1).bind (fun r8 => some (r8, true))))
/-- loop.example/g01210/spec.DrawLandChance -/
def p_spec_DrawLandChance (x0 : (List Int)) : Option ((List Int) × Int) :=
  (p_spec_l1Cur_among [3, 5, 8, 0, 1, 6, 9, (-1)] x0 0 0).bind (fun r1 => (p_spec_l1Cur_little x0 r1.2.1 r1.2.2).bind (fun r2 => some (r2.1, r1.1)))
/-- loop.example/g01210/impl.LandChance -/
def p_impl_LandChance (fu : Nat) (x0 : (List Int)) (x1 : Int) : Option ((List Int) × Bool) :=
  (if ((!(p_impl_isRunner x0)) || (!(p_impl_within x1 0 8))) = true then some ((List.replicate 2 0), false) else if 0 ≤ (IntKind.wrap .i64 (x1 + 1)) then if (IntKind.wrap .i64 (x1 + 1)) ≤ 1000000000 then if 0 < (IntKind.wrap .i64 (x1 + 1)) then whl (fun (s10 : Int × (List Int)) c12 => (if s10.1 ≤ x1 then cnt (fun i18 (s17 : (List Int)) c19 _ => (if (x0.getD i18.toNat 0) ≤ s10.1 then if 0 ≤ s10.1 then if s10.1 < (IntKind.wrap .i64 (x1 + 1)) then if 0 ≤ (IntKind.wrap .i64 (s10.1 - (x0.getD i18.toNat 0))) then if (IntKind.wrap .i64 (s10.1 - (x0.getD i18.toNat 0))) < (IntKind.wrap .i64 (x1 + 1)) then (p_impl_power fu (IntKind.wrap .i64 ((x0.getD i18.toNat 0) - 1))).bind (fun r31 => c19 (s17.set s10.1.toNat (IntKind.wrap .i64 ((s17.getD s10.1.toNat 0) + (IntKind.wrap .i64 ((s17.getD (IntKind.wrap .i64 (s10.1 - (x0.getD i18.toNat 0))).toNat 0) * r31)))))) else none else none else none else none else c19 s17)) (fun i18 (s17 : (List Int)) => c12 ((IntKind.wrap .i64 (s10.1 + 1)), s17)) (Int.toNat (6 - 0)) 0 s10.2 else if 0 ≤ x1 then if x1 < (IntKind.wrap .i64 (x1 + 1)) then (p_impl_power fu x1).bind (fun r34 => (p_impl_fraction fu (s10.2.getD x1.toNat 0) r34).bind (fun r35 => some (r35, true))) else none else none)) fu (1, ((List.replicate (IntKind.wrap .i64 (x1 + 1)).toNat 0).set 0 1)) else none else none else none)
/-- loop.example/g01210/spec.LandChance -/
def p_spec_LandChance (fu : Nat) (x0 : (List Int)) (x1 : Int) : Option ((List Int) × Bool) :=
  (p_spec_l7Die x0).bind (fun r1 => (if ((!r1) || (!(p_spec_l1In x1 0 8))) = true then some ((List.replicate 2 0), false) else whl (fun (s8 : Int × (List Int)) c10 => (if s8.1 ≤ x1 then cnt (fun i16 (s15 : Int) c17 _ => (if (x0.getD i16.toNat 0) ≤ s8.1 then if 0 ≤ (IntKind.wrap .i64 (s8.1 - (x0.getD i16.toNat 0))) then if (IntKind.wrap .i64 (s8.1 - (x0.getD i16.toNat 0))) < (s8.2.length : Int) then (p_spec_l2All fu (IntKind.wrap .i64 ((x0.getD i16.toNat 0) - 1))).bind (fun r27 => c17 (IntKind.wrap .i64 (s15 + (IntKind.wrap .i64 ((s8.2.getD (IntKind.wrap .i64 (s8.1 - (x0.getD i16.toNat 0))).toNat 0) * r27))))) else none else none else c17 s15)) (fun i16 (s15 : Int) => if (s8.2.length : Int) + 1 ≤ 1000000000 then c10 ((IntKind.wrap .i64 (s8.1 + 1)), (s8.2 ++ [s15])) else none) (Int.toNat (6 - 0)) 0 0 else if 0 ≤ x1 then if x1 < (s8.2.length : Int) then (p_spec_l2All fu x1).bind (fun r31 => (p_spec_l2Cut fu (s8.2.getD x1.toNat 0) r31).bind (fun r32 => some (r32, true))) else none else none)) fu (1, [1])))
/-- loop.example/g01210/spec.DrawFirstWins -/
def p_spec_DrawFirstWins (x0 : (List Int)) : Option ((List Int) × (List Int) × Int) :=
  (p_spec_l1Cur_goal x0 0 0).bind (fun r1 => (p_spec_l1Cur_little x0 r1.2.1 r1.2.2).bind (fun r2 => (p_spec_l1Cur_one 4 x0 r2.2.1 r2.2.2).bind (fun r3 => (if r3.1 = true then some (r2.1, r2.1, r1.1) else (p_spec_l1Cur_little x0 r3.2.1 r3.2.2).bind (fun r11 => some (r2.1, r11.1, r1.1))))))
/-- loop.example/g01210/impl.total -/
def p_impl_total (x0 : (List Int)) : Int :=
  cnt (fun i2 (s1 : Int) c3 _ => c3 (IntKind.wrap .i64 (s1 + (x0.getD i2.toNat 0)))) (fun i2 (s1 : Int) => s1) (Int.toNat ((x0.length : Int) - 0)) 0 0
/-- loop.example/g01210/impl.FirstWins -/
def p_impl_FirstWins (fu : Nat) (x0 : (List Int)) (x1 : (List Int)) (x2 : Int) : Option ((List Int) × Bool) :=
  (if (((!(p_impl_isRunner x0)) || (!(p_impl_isRunner x1))) || (!(p_impl_isGoal x2))) = true then some ((List.replicate 2 0), false) else (p_impl_runs fu x0 x2).bind (fun r18 => (p_impl_runs fu x1 x2).bind (fun r20 => cnt (fun i25 (s24 : Int) c26 _ => if i25 ≤ (r20.length : Int) then c26 (IntKind.wrap .i64 (s24 + (IntKind.wrap .i64 ((r18.getD i25.toNat 0) * (p_impl_total ((r20.drop i25.toNat).take ((r20.length : Int) - i25).toNat)))))) else none) (fun i25 (s24 : Int) => (p_impl_power fu (IntKind.wrap .i64 (2 * x2))).bind (fun r32 => (p_impl_fraction fu s24 r32).bind (fun r33 => some (r33, true)))) (Int.toNat ((r18.length : Int) - 0)) 0 0)))
/-- loop.example/g01210/spec.l7Race -/
def p_spec_l7Race (fu : Nat) (x0 : (List Int)) (x1 : (List Int)) (x2 : Int) : Option (Int × Int) :=
  (p_spec_l7Run fu x0 x2).bind (fun r1 => (p_spec_l7Run fu x1 x2).bind (fun r3 => whl (fun (s7 : Int × Int × Int) c9 => (if s7.2.2 ≤ x2 then whl (fun (s14 : Int × Int × Int) c16 => (if s14.2.2 ≤ x2 then if 0 ≤ s7.2.2 then if s7.2.2 < (r1.length : Int) then (p_spec_l2All fu (IntKind.wrap .i64 (x2 - s7.2.2))).bind (fun r23 => if s14.2.2 < (r3.length : Int) then (p_spec_l2All fu (IntKind.wrap .i64 (x2 - s14.2.2))).bind (fun r25 => (if s7.2.2 = s14.2.2 then c16 (s14.1, (IntKind.wrap .i64 (s14.2.1 + (IntKind.wrap .i64 ((IntKind.wrap .i64 ((IntKind.wrap .i64 ((r1.getD s7.2.2.toNat 0) * r23)) * (r3.getD s14.2.2.toNat 0))) * r25)))), (s14.2.2 + 1)) else c16 ((IntKind.wrap .i64 (s14.1 + (IntKind.wrap .i64 ((IntKind.wrap .i64 ((IntKind.wrap .i64 ((r1.getD s7.2.2.toNat 0) * r23)) * (r3.getD s14.2.2.toNat 0))) * r25)))), s14.2.1, (s14.2.2 + 1)))) else none) else none else none else c9 (s14.1, s14.2.1, (IntKind.wrap .i64 (s7.2.2 + 1))))) fu (s7.1, s7.2.1, s7.2.2) else some (s7.1, s7.2.1))) fu (0, 0, 1)))
/-- loop.example/g01210/spec.FirstWins -/
def p_spec_FirstWins (fu : Nat) (x0 : (List Int)) (x1 : (List Int)) (x2 : Int) : Option ((List Int) × Bool) :=
  (p_spec_l7Die x0).bind (fun r1 => if ((!(!r1)) = true → (p_spec_l7Die x1).isSome = true) then (if (((!r1) || (!((p_spec_l7Die x1).getD false))) || (!(p_spec_l7Goal x2))) = true then some ((List.replicate 2 0), false) else (p_spec_l7Race fu x0 x1 x2).bind (fun r20 => (p_spec_l2All fu (IntKind.wrap .i64 (2 * x2))).bind (fun r21 => (p_spec_l2Cut fu (IntKind.wrap .i64 (r20.1 + r20.2)) r21).bind (fun r22 => some (r22, true))))) else none)
/-- loop.example/g01210/impl.SameRound -/
def p_impl_SameRound (fu : Nat) (x0 : (List Int)) (x1 : (List Int)) (x2 : Int) : Option ((List Int) × Bool) :=
  (if (((!(p_impl_isRunner x0)) || (!(p_impl_isRunner x1))) || (!(p_impl_isGoal x2))) = true then some ((List.replicate 2 0), false) else (p_impl_runs fu x0 x2).bind (fun r18 => (p_impl_runs fu x1 x2).bind (fun r20 => cnt (fun i25 (s24 : Int) c26 _ => if i25 < (r20.length : Int) then c26 (IntKind.wrap .i64 (s24 + (IntKind.wrap .i64 ((r18.getD i25.toNat 0) * (r20.getD i25.toNat 0))))) else none) (fun i25 (s24 : Int) => (p_impl_power fu (IntKind.wrap .i64 (2 * x2))).bind (fun r32 => (p_impl_fraction fu s24 r32).bind (fun r33 => some (r33, true)))) (Int.toNat ((r18.length : Int) - 0)) 0 0)))
/-- loop.example/g01210/spec.SameRound -/
def p_spec_SameRound (fu : Nat) (x0 : (List Int)) (x1 : (List Int)) (x2 : Int) : Option ((List Int) × Bool) :=
  (p_spec_l7Die x0).bind (fun r1 => if ((!(!r1)) = true → (p_spec_l7Die x1).isSome = true) then (if (((!r1) || (!((p_spec_l7Die x1).getD false))) || (!(p_spec_l7Goal x2))) = true then some ((List.replicate 2 0), false) else (p_spec_l7Race fu x0 x1 x2).bind (fun r20 => (p_spec_l2All fu (IntKind.wrap .i64 (2 * x2))).bind (fun r21 => (p_spec_l2Cut fu r20.2 r21).bind (fun r22 => some (r22, true))))) else none)
/-- loop.example/g01210/spec.DrawBestRunner -/
def p_spec_DrawBestRunner (fu : Nat) (x0 : (List Int)) : Option ((List (List Int)) × Int) :=
  (p_spec_l1Cur_goal x0 0 0).bind (fun r1 => (p_spec_l1Cur_among [2, 3, 1, 4, 0, 7] x0 r1.2.1 r1.2.2).bind (fun r2 => whl (fun (s3 : Int × Int × Int × (List (List Int))) c5 => (if 0 < s3.1 then (p_spec_l1Cur_little x0 s3.2.1 s3.2.2.1).bind (fun r10 => if (s3.2.2.2.length : Int) + 1 ≤ 1000000000 then c5 ((IntKind.wrap .i64 (s3.1 - 1)), r10.2.1, r10.2.2, (s3.2.2.2 ++ [r10.1])) else none) else some (s3.2.2.2, r1.1))) fu (r2.1, r2.2.1, r2.2.2, [])))
/-- loop.example/g01210/impl.areAll[[6]int]$1 -/
def p_impl_areAll_6_int_1 (x0 : (List Int)) : Bool :=
  (!(p_impl_IsDie x0))
/-- slices.IndexFunc[[][6]int,[6]int] -/
def p_slices_IndexFunc_6_int_6_int (x0 : (List (List Int))) : Int :=
  cnt (fun i2 (s1 : Unit) c3 _ => (if (p_impl_areAll_6_int_1 (x0.getD i2.toNat (List.replicate 6 0))) = true then i2 else c3 ())) (fun i2 (s1 : Unit) => (-1)) (Int.toNat ((x0.length : Int) - 0)) 0 ()
/-- slices.ContainsFunc[[][6]int,[6]int] -/
def p_slices_ContainsFunc_6_int_6_int (x0 : (List (List Int))) : Bool :=
  (decide (0 ≤ (p_slices_IndexFunc_6_int_6_int x0)))
/-- loop.example/g01210/impl.areAll[[6]int] -/
def p_impl_areAll_6_int (x0 : (List (List Int))) : Bool :=
  (!(p_slices_ContainsFunc_6_int_6_int x0))
/-- loop.example/g01210/impl.isRow -/
def p_impl_isRow (x0 : (List (List Int))) : Bool :=
  ((p_impl_within (x0.length : Int) 1 6) && (p_impl_areAll_6_int x0))
/-- loop.example/g01210/impl.areAll[[6]int]$1 -/
def p_impl_areAll_6_int_1v1 (x0 : (List Int)) : Bool :=
  (!(p_impl_isRunner x0))
/-- slices.IndexFunc[[][6]int,[6]int] -/
def p_slices_IndexFunc_6_int_6_intv1 (x0 : (List (List Int))) : Int :=
  cnt (fun i2 (s1 : Unit) c3 _ => (if (p_impl_areAll_6_int_1v1 (x0.getD i2.toNat (List.replicate 6 0))) = true then i2 else c3 ())) (fun i2 (s1 : Unit) => (-1)) (Int.toNat ((x0.length : Int) - 0)) 0 ()
/-- slices.ContainsFunc[[][6]int,[6]int] -/
def p_slices_ContainsFunc_6_int_6_intv1 (x0 : (List (List Int))) : Bool :=
  (decide (0 ≤ (p_slices_IndexFunc_6_int_6_intv1 x0)))
/-- loop.example/g01210/impl.areAll[[6]int] -/
def p_impl_areAll_6_intv1 (x0 : (List (List Int))) : Bool :=
  (!(p_slices_ContainsFunc_6_int_6_intv1 x0))
/-- loop.example/g01210/impl.BestRunner -/
def p_impl_BestRunner (fu : Nat) (x0 : (List (List Int))) (x1 : Int) : Option (Int × (List Int) × Bool) :=
  (if (((!(p_impl_isRow x0)) || (!(p_impl_areAll_6_intv1 x0))) || (!(p_impl_isGoal x1))) = true then some (0, (List.replicate 2 0), false) else cnt (fun i19 (s18 : Int) c20 _ => (p_impl_meanRun fu (x0.getD i19.toNat (List.replicate 6 0)) x1).bind (fun r25 => if s18 < (x0.length : Int) then (p_impl_meanRun fu (x0.getD s18.toNat (List.replicate 6 0)) x1).bind (fun r27 => (if r25 < r27 then c20 i19 else c20 s18)) else none)) (fun i19 (s18 : Int) => if s18 < (x0.length : Int) then (p_impl_meanRun fu (x0.getD s18.toNat (List.replicate 6 0)) x1).bind (fun r32 => (p_impl_power fu x1).bind (fun r33 => (p_impl_fraction fu r32 r33).bind (fun r34 => some (s18, r34, true)))) else none) (Int.toNat ((x0.length : Int) - 0)) 0 0)
/-- loop.example/g01210/spec.l3Row -/
def p_spec_l3Row (x0 : (List (List Int))) : Option (Bool) :=
  cnt (fun i2 (s1 : Unit) c3 k16 => (if ((decide (i2 < (x0.length : Int))) && (decide (i2 ≤ 6))) = true then (p_spec_l2Die (x0.getD i2.toNat (List.replicate 6 0))).bind (fun r14 => (if r14 = true then c3 () else some false)) else k16 i2 s1)) (fun i2 (s1 : Unit) => some (p_spec_l1In (x0.length : Int) 1 6)) (Int.toNat ((x0.length : Int) - 0)) 0 ()
/-- loop.example/g01210/spec.l2Less -/
def p_spec_l2Less (x0 : (List Int)) (x1 : (List Int)) : Bool :=
  (decide ((IntKind.wrap .i64 ((x0.getD 0 0) * (x1.getD 1 0))) < (IntKind.wrap .i64 ((x1.getD 0 0) * (x0.getD 1 0)))))
/-- loop.example/g01210/spec.BestRunner -/
def p_spec_BestRunner (fu : Nat) (x0 : (List (List Int))) (x1 : Int) : Option (Int × (List Int) × Bool) :=
  (p_spec_l3Row x0).bind (fun r1 => (if ((!r1) || (!(p_spec_l7Goal x1))) = true then some (0, (List.replicate 2 0), false) else cnt (fun i9 (s8 : Int × (List Int)) c10 _ => (p_spec_l7Die (x0.getD i9.toNat (List.replicate 6 0))).bind (fun r15 => (if r15 = true then (p_spec_l7Mean fu (x0.getD i9.toNat (List.replicate 6 0)) x1).bind (fun r17 => (if ((decide (i9 = 0)) || (p_spec_l2Less r17 s8.2)) = true then c10 (i9, r17) else c10 (s8.1, s8.2))) else some (0, (List.replicate 2 0), false)))) (fun i9 (s8 : Int × (List Int)) => some (s8.1, s8.2, true)) (Int.toNat ((x0.length : Int) - 0)) 0 (0, (List.replicate 2 0))))
/-- loop.example/g01210/laws.rParts -/
def p_laws_rParts (x0 : (List Int)) (x1 : Int) : Int :=
  (if (x0.getD 1 0) < 1 then (-1) else (IntKind.wrap .i64 ((x0.getD 0 0) * (IntKind.wrap .i64 (x1.tdiv (x0.getD 1 0))))))
/-- loop.example/g01210/laws.rPlus -/
def p_laws_rPlus (fu : Nat) (x0 : (List Int)) (x1 : (List Int)) : Option ((List Int)) :=
  whl (fun (s1 : Int × Int) c3 => (if 0 < s1.2 then c3 (s1.2, (s1.1.tmod s1.2)) else jn (fun (s8 : Int) => if s8 ≠ 0 then if s8 ≠ 0 then some [(IntKind.wrap .i64 ((IntKind.wrap .i64 ((IntKind.wrap .i64 ((x0.getD 0 0) * (x1.getD 1 0))) + (IntKind.wrap .i64 ((x1.getD 0 0) * (x0.getD 1 0))))).tdiv s8)), (IntKind.wrap .i64 ((IntKind.wrap .i64 ((x0.getD 1 0) * (x1.getD 1 0))).tdiv s8))] else none else none) (fun k9 => (if s1.1 < 1 then k9 1 else k9 s1.1)))) fu ((IntKind.wrap .i64 ((IntKind.wrap .i64 ((x0.getD 0 0) * (x1.getD 1 0))) + (IntKind.wrap .i64 ((x1.getD 0 0) * (x0.getD 1 0))))), (IntKind.wrap .i64 ((x0.getD 1 0) * (x1.getD 1 0))))
/-- loop.example/g01210/laws.FnRuns -/
def p_laws_FnRuns (fu : Nat) (x0 : (List Int)) : Option (Bool) :=
  (if (p_laws_rBig x0) = true then some true else (p_spec_DrawRunTable x0).bind (fun r2 => (p_impl_RunTable fu r2.1 r2.2).bind (fun r3 => (p_spec_RunTable fu r2.1 r2.2).bind (fun r5 => (if ((r3.2 != r5.2) || (!(p_laws_rPairs r3.1 r5.1))) = true then some false else (p_impl_MeanRun fu r2.1 r2.2).bind (fun r14 => (p_spec_MeanRun fu r2.1 r2.2).bind (fun r15 => (if (((!(decide (r14.1 = r15.1))) || (r14.2 != r15.2)) || (r14.2 != r3.2)) = true then some false else (p_spec_DrawLandChance x0).bind (fun r33 => (p_impl_LandChance fu r33.1 r33.2).bind (fun r34 => (p_spec_LandChance fu r33.1 r33.2).bind (fun r35 => (if (((!(decide (r34.1 = r35.1))) || (r34.2 != r35.2)) || (r34.2 && (decide ((r34.1.getD 1 0) < (r34.1.getD 0 0))))) = true then some false else (p_spec_DrawFirstWins x0).bind (fun r78 => (p_impl_FirstWins fu r78.1 r78.2.1 r78.2.2).bind (fun r79 => (p_spec_FirstWins fu r78.1 r78.2.1 r78.2.2).bind (fun r80 => (if ((!(decide (r79.1 = r80.1))) || (r79.2 != r80.2)) = true then some false else (p_impl_SameRound fu r78.1 r78.2.1 r78.2.2).bind (fun r87 => (p_spec_SameRound fu r78.1 r78.2.1 r78.2.2).bind (fun r88 => (if (((!(decide (r87.1 = r88.1))) || (r87.2 != r88.2)) || (r87.2 != r79.2)) = true then some false else (p_spec_DrawBestRunner fu x0).bind (fun r106 => (p_impl_BestRunner fu r106.1 r106.2).bind (fun r108 => (p_spec_BestRunner fu r106.1 r106.2).bind (fun r109 => (if (((!(decide (r108.1 = r109.1))) || (!(decide (r108.2.1 = r109.2.1)))) || (r108.2.2 != r109.2.2)) = true then some false else jn (fun (s134 : Unit) => jn (fun (s137 : Unit) => (if r3.2 = true then cnt (fun i142 (s141 : (List Int) × (List Int)) c143 _ => (p_laws_rPlus fu s141.1 (r3.1.getD i142.toNat (List.replicate 2 0))).bind (fun r148 => (p_laws_rPlus fu s141.2 [(IntKind.wrap .i64 (((r3.1.getD i142.toNat (List.replicate 2 0)).getD 0 0) * (i142 + 1))), ((r3.1.getD i142.toNat (List.replicate 2 0)).getD 1 0)]).bind (fun r149 => c143 (r148, r149)))) (fun i142 (s141 : (List Int) × (List Int)) => some (((decide ((r3.1.length : Int) = r2.2)) && (decide (s141.1 = [1, 1]))) && (decide (s141.2 = r14.1)))) (Int.toNat ((r3.1.length : Int) - 0)) 0 ([0, 1], [0, 1]) else some true)) (fun k138 => (if r79.2 = true then (p_impl_FirstWins fu r78.1 r78.1 r78.2.2).bind (fun r169 => (p_impl_SameRound fu r78.1 r78.1 r78.2.2).bind (fun r170 => (p_impl_FirstWins fu r78.2.1 r78.1 r78.2.2).bind (fun r171 => (if (((!r169.2) || (!r170.2)) || (!r171.2)) = true then some false else whl (fun (s185 : Int × Int) c187 => (if s185.2 < (IntKind.wrap .i64 (2 * r78.2.2)) then c187 ((IntKind.wrap .i64 (6 * s185.1)), (IntKind.wrap .i64 (s185.2 + 1))) else (if ((!(decide ((IntKind.wrap .i64 (2 * (p_laws_rParts r169.1 s185.1))) = (IntKind.wrap .i64 (s185.1 + (p_laws_rParts r170.1 s185.1)))))) || (!(decide ((IntKind.wrap .i64 ((p_laws_rParts r79.1 s185.1) + (p_laws_rParts r171.1 s185.1))) = (IntKind.wrap .i64 (s185.1 + (p_laws_rParts r87.1 s185.1))))))) = true then some false else k138 ()))) fu (1, 0))))) else k138 ()))) (fun k135 => (if r108.2.2 = true then cnt (fun i225 (s224 : Unit) c226 _ => (p_impl_MeanRun fu (r106.1.getD i225.toNat (List.replicate 6 0)) r106.2).bind (fun r231 => (if (((!r231.2) || (decide ((IntKind.wrap .i64 ((r231.1.getD 0 0) * (r108.2.1.getD 1 0))) < (IntKind.wrap .i64 ((r108.2.1.getD 0 0) * (r231.1.getD 1 0)))))) || ((decide (i225 = r108.1)) && (!(decide (r231.1 = r108.2.1))))) = true then some false else c226 ()))) (fun i225 (s224 : Unit) => k135 ()) (Int.toNat ((r106.1.length : Int) - 0)) 0 () else k135 ())))))))))))))))))))))))))
end Go.GA
