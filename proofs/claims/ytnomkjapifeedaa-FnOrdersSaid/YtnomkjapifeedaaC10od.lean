/- Walks: what the Go functions compute, by the printed lines below; no further conditions. -/
import Derived.Test.YtnomkjapifeedaaGaD
namespace Go.GA
open Go
set_option maxRecDepth 100000
set_option maxHeartbeats 2000000
set_option linter.unusedVariables false
set_option linter.unusedSimpArgs false
/-- loop.example/g01210/laws.vBig -/
def p_laws_vBig (x0 : (List Int)) : Bool :=
  (decide (65536 < (x0.length : Int)))
/-- (*loop.example/g01210/spec.l1Cur).next -/
def p_spec_l1Cur_next (x0 : (List Int)) (x1 : Int) (x2 : Int) : Option (Int × Int × Int) :=
  jn (fun (s1 : Int) => (if (IntKind.wrap .i64 (x1 + 1)) ≤ (x0.length : Int) then some (s1, (IntKind.wrap .i64 (x1 + 1)), (IntKind.wrap .u64 ((IntKind.wrap .u64 ((IntKind.wrap .u64 (x2 * 6364136223846793005)) + (IntKind.wrap .u64 s1))) + 462197))) else some ((IntKind.wrap .i64 (andI .u64 (shrI .u64 (IntKind.wrap .u64 ((IntKind.wrap .u64 ((IntKind.wrap .u64 (x2 * 6364136223846793005)) + (IntKind.wrap .u64 s1))) + 462197)) 40) 255)), (IntKind.wrap .i64 (x1 + 1)), (IntKind.wrap .u64 ((IntKind.wrap .u64 ((IntKind.wrap .u64 (x2 * 6364136223846793005)) + (IntKind.wrap .u64 s1))) + 462197))))) (fun k2 => (if x1 < (x0.length : Int) then if 0 ≤ x1 then k2 (IntKind.wrap .i64 (x0.getD x1.toNat 0)) else none else k2 0))
/-- (*loop.example/g01210/spec.l1Cur).pick -/
def p_spec_l1Cur_pick (x0 : Int) (x1 : (List Int)) (x2 : Int) (x3 : Int) : Option (Int × Int × Int) :=
  (if x0 ≤ 1 then some (0, x2, x3) else (p_spec_l1Cur_next x1 x2 x3).bind (fun r4 => (if 200 < x0 then (p_spec_l1Cur_next x1 r4.2.1 r4.2.2).bind (fun r8 => some (((IntKind.wrap .i64 ((IntKind.wrap .i64 (r4.1 * 256)) + r8.1)).tmod x0), r8.2.1, r8.2.2)) else some ((r4.1.tmod x0), r4.2.1, r4.2.2))))
/-- (*loop.example/g01210/spec.l1Cur).one -/
def p_spec_l1Cur_one (x0 : Int) (x1 : (List Int)) (x2 : Int) (x3 : Int) : Option (Bool × Int × Int) :=
  (p_spec_l1Cur_pick x0 x1 x2 x3).bind (fun r1 => some ((decide (r1.1 = 0)), r1.2.1, r1.2.2))
/-- (*loop.example/g01210/spec.l1Cur).among -/
def p_spec_l1Cur_among (x0 : (List Int)) (x1 : (List Int)) (x2 : Int) (x3 : Int) : Option (Int × Int × Int) :=
  (p_spec_l1Cur_pick (x0.length : Int) x1 x2 x3).bind (fun r1 => if 0 ≤ r1.1 then if r1.1 < (x0.length : Int) then some ((x0.getD r1.1.toNat 0), r1.2.1, r1.2.2) else none else none)
/-- (*loop.example/g01210/spec.l1Cur).letters10 -/
def p_spec_l1Cur_letters10 (fu : Nat) (x0 : (List Int)) (x1 : Int) (x2 : Int) : Option ((List Int) × Int × Int) :=
  (p_spec_l1Cur_among [2, 3, 2, 1] x0 x1 x2).bind (fun r1 => jn (fun (s2 : Int × Int × Int) => whl (fun (s5 : Int × Int × (List Int) × (List Int)) c7 => (if (s5.2.2.1.length : Int) < (IntKind.wrap .i64 (6 * s2.1)) then (p_spec_l1Cur_pick s2.1 x0 s5.1 s5.2.1).bind (fun r12 => if 0 ≤ r12.1 then if r12.1 < 4 then (if (s5.2.2.2.getD r12.1.toNat 0) < 6 then if (s5.2.2.1.length : Int) + 1 ≤ 1000000000 then c7 (r12.2.1, r12.2.2, (s5.2.2.1 ++ [r12.1]), (s5.2.2.2.set r12.1.toNat (IntKind.wrap .i64 ((s5.2.2.2.getD r12.1.toNat 0) + 1)))) else none else c7 (r12.2.1, r12.2.2, s5.2.2.1, s5.2.2.2)) else none else none) else (p_spec_l1Cur_pick 40 x0 s5.1 s5.2.1).bind (fun r19 => (if r19.1 = 0 then (p_spec_l1Cur_pick (s5.2.2.1.length : Int) x0 r19.2.1 r19.2.2).bind (fun r23 => (p_spec_l1Cur_among [(-1), 0, s2.1, 4, 4611686018427387904] x0 r23.2.1 r23.2.2).bind (fun r24 => if 0 ≤ r23.1 then if r23.1 < (s5.2.2.1.length : Int) then some ((s5.2.2.1.set r23.1.toNat r24.1), r24.2.1, r24.2.2) else none else none)) else (if r19.1 = 1 then if 0 ≤ (IntKind.wrap .i64 ((s5.2.2.1.length : Int) - 1)) then if (IntKind.wrap .i64 ((s5.2.2.1.length : Int) - 1)) ≤ (s5.2.2.1.length : Int) then some ((s5.2.2.1.take (IntKind.wrap .i64 ((s5.2.2.1.length : Int) - 1)).toNat), r19.2.1, r19.2.2) else none else none else (if r19.1 = 2 then some ([], r19.2.1, r19.2.2) else some (s5.2.2.1, r19.2.1, r19.2.2))))))) fu (s2.2.1, s2.2.2, [], (List.replicate 4 0))) (fun k3 => (p_spec_l1Cur_one 12 x0 r1.2.1 r1.2.2).bind (fun r35 => (if r35.1 = true then k3 (4, r35.2.1, r35.2.2) else k3 (r1.1, r35.2.1, r35.2.2)))))
/-- loop.example/g01210/spec.l1In -/
def p_spec_l1In (x0 : Int) (x1 : Int) (x2 : Int) : Bool :=
  ((decide (x1 ≤ x0)) && (decide (x0 ≤ x2)))
/-- loop.example/g01210/spec.l10Letters -/
def p_spec_l10Letters (x0 : (List Int)) : Option (Bool) :=
  (if ((!(decide (((x0.length : Int).tmod 6) = 0))) || (!(p_spec_l1In (x0.length : Int) 6 24))) = true then some false else cnt (fun i14 (s13 : (List Int)) c15 _ => (if (p_spec_l1In (x0.getD i14.toNat 0) 0 (IntKind.wrap .i64 ((IntKind.wrap .i64 ((x0.length : Int).tdiv 6)) - 1))) = true then if 0 ≤ (x0.getD i14.toNat 0) then if (x0.getD i14.toNat 0) < 4 then c15 (s13.set (x0.getD i14.toNat 0).toNat (IntKind.wrap .i64 ((s13.getD (x0.getD i14.toNat 0).toNat 0) + 1))) else none else none else some false)) (fun i14 (s13 : (List Int)) => cnt (fun i24 (s23 : Unit) c25 _ => if i24 < 4 then (if (s13.getD i24.toNat 0) = 6 then c25 () else some false) else none) (fun i24 (s23 : Unit) => some true) (Int.toNat ((IntKind.wrap .i64 ((x0.length : Int).tdiv 6)) - 0)) 0 ()) (Int.toNat ((x0.length : Int) - 0)) 0 (List.replicate 4 0))
/-- loop.example/g01210/spec.l10Pool -/
def p_spec_l10Pool (x0 : (List Int)) : Option ((List (List Int))) :=
  if 0 ≤ (IntKind.wrap .i64 ((x0.length : Int).tdiv 6)) then if (IntKind.wrap .i64 ((x0.length : Int).tdiv 6)) ≤ 1000000000 then cnt (fun i4 (s3 : (List (List Int)) × (List Int)) c5 _ => if 0 ≤ (x0.getD i4.toNat 0) then if (x0.getD i4.toNat 0) < 4 then if (x0.getD i4.toNat 0) < (IntKind.wrap .i64 ((x0.length : Int).tdiv 6)) then if 0 ≤ (s3.2.getD (x0.getD i4.toNat 0).toNat 0) then if (s3.2.getD (x0.getD i4.toNat 0).toNat 0) < 6 then c5 ((s3.1.set (x0.getD i4.toNat 0).toNat ((s3.1.getD (x0.getD i4.toNat 0).toNat (List.replicate 6 0)).set (s3.2.getD (x0.getD i4.toNat 0).toNat 0).toNat (i4 + 1))), (s3.2.set (x0.getD i4.toNat 0).toNat ((s3.2.getD (x0.getD i4.toNat 0).toNat 0) + 1))) else none else none else none else none else none) (fun i4 (s3 : (List (List Int)) × (List Int)) => some s3.1) (Int.toNat ((x0.length : Int) - 0)) 0 ((List.replicate (IntKind.wrap .i64 ((x0.length : Int).tdiv 6)).toNat (List.replicate 6 0)), (List.replicate 4 0)) else none else none
/-- (*loop.example/g01210/spec.l1Cur).face -/
def p_spec_l1Cur_face (x0 : (List Int)) (x1 : Int) (x2 : Int) : Option (Int × Int × Int) :=
  (p_spec_l1Cur_among [1, 2, 3, 4, 5, 6, 6, 0, 8, 9, 4, 3, 30, 12] x0 x1 x2).bind (fun r1 => some (r1.1, r1.2.1, r1.2.2))
/-- loop.example/g01210/spec.l2Sorted -/
def p_spec_l2Sorted (x0 : (List Int)) : (List Int) :=
  cnt (fun i2 (s1 : (List Int)) c3 _ => cnt (fun i9 (s8 : (List Int)) c10 _ => (if (s8.getD (i9 + 1).toNat 0) < (s8.getD i9.toNat 0) then c10 ((s8.set i9.toNat (s8.getD (i9 + 1).toNat 0)).set (i9 + 1).toNat (s8.getD i9.toNat 0)) else c10 s8)) (fun i9 (s8 : (List Int)) => c3 s8) (Int.toNat (5 - 0)) 0 s1) (fun i2 (s1 : (List Int)) => s1) (Int.toNat (6 - 0)) 0 x0
/-- (*loop.example/g01210/spec.l1Cur).die -/
def p_spec_l1Cur_die (x0 : (List Int)) (x1 : Int) (x2 : Int) : Option ((List Int) × Int × Int) :=
  jn (fun (s1 : Int × Int × (List Int)) => (p_spec_l1Cur_pick 50 x0 s1.1 s1.2.1).bind (fun r4 => (if r4.1 = 0 then (p_spec_l1Cur_pick 6 x0 r4.2.1 r4.2.2).bind (fun r8 => (p_spec_l1Cur_among [(-1), 31, 0, 4611686018427387904] x0 r8.2.1 r8.2.2).bind (fun r9 => if 0 ≤ r8.1 then if r8.1 < 6 then some (((p_spec_l2Sorted s1.2.2).set r8.1.toNat r9.1), r9.2.1, r9.2.2) else none else none)) else (if r4.1 = 1 then some (((p_spec_l2Sorted s1.2.2).set 0 30), r4.2.1, r4.2.2) else some ((p_spec_l2Sorted s1.2.2), r4.2.1, r4.2.2))))) (fun k2 => (p_spec_l1Cur_pick 6 x0 x1 x2).bind (fun r15 => (if r15.1 = 0 then some ([1, 2, 3, 4, 5, 6], r15.2.1, r15.2.2) else (if r15.1 = 1 then k2 (r15.2.1, r15.2.2, [1, 2, 2, 3, 3, 4]) else (if r15.1 = 2 then (p_spec_l1Cur_face x0 r15.2.1 r15.2.2).bind (fun r25 => (p_spec_l1Cur_face x0 r25.2.1 r25.2.2).bind (fun r26 => cnt (fun i28 (s27 : Int × Int × (List Int)) c29 _ => (p_spec_l1Cur_one 3 x0 s27.1 s27.2.1).bind (fun r34 => (if r34.1 = true then c29 (r34.2.1, r34.2.2, ((s27.2.2.set i28.toNat r25.1).set i28.toNat r26.1)) else c29 (r34.2.1, r34.2.2, (s27.2.2.set i28.toNat r25.1))))) (fun i28 (s27 : Int × Int × (List Int)) => k2 (s27.1, s27.2.1, s27.2.2)) (Int.toNat (6 - 0)) 0 (r26.2.1, r26.2.2, [1, 2, 3, 4, 5, 6]))) else cnt (fun i37 (s36 : Int × Int × (List Int)) c38 _ => (p_spec_l1Cur_face x0 s36.1 s36.2.1).bind (fun r43 => c38 (r43.2.1, r43.2.2, (s36.2.2.set i37.toNat r43.1)))) (fun i37 (s36 : Int × Int × (List Int)) => k2 (s36.1, s36.2.1, s36.2.2)) (Int.toNat (6 - 0)) 0 (r15.2.1, r15.2.2, [1, 2, 3, 4, 5, 6]))))))
/-- (*loop.example/g01210/spec.l1Cur).pool -/
def p_spec_l1Cur_pool (fu : Nat) (x0 : (List Int)) (x1 : Int) (x2 : Int) : Option ((List (List Int)) × Int × Int) :=
  (p_spec_l1Cur_among [2, 3, 1, 2, 4] x0 x1 x2).bind (fun r1 => whl (fun (s2 : Int × Int × Int × (List (List Int))) c4 => (if 0 < s2.1 then (p_spec_l1Cur_die x0 s2.2.1 s2.2.2.1).bind (fun r9 => (if 0 < (s2.2.2.2.length : Int) then (p_spec_l1Cur_one 3 x0 r9.2.1 r9.2.2).bind (fun r13 => (if r13.1 = true then if (s2.2.2.2.length : Int) + 1 ≤ 1000000000 then c4 ((IntKind.wrap .i64 (s2.1 - 1)), r13.2.1, r13.2.2, (s2.2.2.2 ++ [(s2.2.2.2.getD 0 (List.replicate 6 0))])) else none else if (s2.2.2.2.length : Int) + 1 ≤ 1000000000 then c4 ((IntKind.wrap .i64 (s2.1 - 1)), r13.2.1, r13.2.2, (s2.2.2.2 ++ [r9.1])) else none)) else c4 ((IntKind.wrap .i64 (s2.1 - 1)), r9.2.1, r9.2.2, (s2.2.2.2 ++ [r9.1])))) else (p_spec_l1Cur_pick 50 x0 s2.2.1 s2.2.2.1).bind (fun r17 => (if r17.1 = 0 then some ([], r17.2.1, r17.2.2) else (if r17.1 = 1 then whl (fun (s24 : (List (List Int))) c26 => (if (s24.length : Int) < 5 then if 0 < (s24.length : Int) then c26 (s24 ++ [(s24.getD 0 (List.replicate 6 0))]) else none else some (s24, r17.2.1, r17.2.2))) fu s2.2.2.2 else some (s2.2.2.2, r17.2.1, r17.2.2)))))) fu (r1.1, r1.2.1, r1.2.2, []))
/-- (*loop.example/g01210/spec.l1Cur).few -/
def p_spec_l1Cur_few (fu : Nat) (x0 : (List Int)) (x1 : Int) (x2 : Int) : Option ((List (List Int)) × Int × Int) :=
  (p_spec_l1Cur_pool fu x0 x1 x2).bind (fun r1 => (if (r1.1.length : Int) = 4 then (p_spec_l1Cur_one 8 x0 r1.2.1 r1.2.2).bind (fun r6 => (if r6.1 = true then some (r1.1, r6.2.1, r6.2.2) else some ((r1.1.take 3), r6.2.1, r6.2.2))) else some (r1.1, r1.2.1, r1.2.2)))
/-- (*loop.example/g01210/spec.l1Cur).tieless10 -/
def p_spec_l1Cur_tieless10 (fu : Nat) (x0 : (List Int)) (x1 : Int) (x2 : Int) : Option ((List (List Int)) × Int × Int) :=
  (p_spec_l1Cur_letters10 fu x0 x1 x2).bind (fun r1 => (p_spec_l10Letters r1.1).bind (fun r3 => (if r3 = true then (p_spec_l1Cur_one 4 x0 r1.2.1 r1.2.2).bind (fun r5 => (if r5.1 = true then (p_spec_l1Cur_few fu x0 r5.2.1 r5.2.2).bind (fun r9 => some (r9.1, r9.2.1, r9.2.2)) else (p_spec_l10Pool r1.1).bind (fun r7 => some (r7, r5.2.1, r5.2.2)))) else (p_spec_l1Cur_few fu x0 r1.2.1 r1.2.2).bind (fun r11 => some (r11.1, r11.2.1, r11.2.2)))))
/-- loop.example/g01210/spec.DrawIsOrderFair -/
def p_spec_DrawIsOrderFair (fu : Nat) (x0 : (List Int)) : Option ((List (List Int))) :=
  (p_spec_l1Cur_one 4 x0 0 0).bind (fun r1 => (if r1.1 = true then some [[1, 4, 5, 8, 9, 12], [2, 3, 6, 7, 10, 11]] else (p_spec_l1Cur_tieless10 fu x0 r1.2.1 r1.2.2).bind (fun r3 => some r3.1)))
/-- loop.example/g01210/impl.within -/
def p_impl_within (x0 : Int) (x1 : Int) (x2 : Int) : Bool :=
  ((decide (x1 ≤ x0)) && (decide (x0 ≤ x2)))
/-- loop.example/g01210/impl.isFace -/
def p_impl_isFace (x0 : Int) : Bool :=
  (p_impl_within x0 0 30)
/-- loop.example/g01210/impl.areAll[int]$1 -/
def p_impl_areAll_int_1 (x0 : Int) : Bool :=
  (!(p_impl_isFace x0))
/-- slices.IndexFunc[[]int,int] -/
def p_slices_IndexFunc_int_int (x0 : (List Int)) : Int :=
  cnt (fun i2 (s1 : Unit) c3 _ => (if (p_impl_areAll_int_1 (x0.getD i2.toNat 0)) = true then i2 else c3 ())) (fun i2 (s1 : Unit) => (-1)) (Int.toNat ((x0.length : Int) - 0)) 0 ()
/-- slices.ContainsFunc[[]int,int] -/
def p_slices_ContainsFunc_int_int (x0 : (List Int)) : Bool :=
  (decide (0 ≤ (p_slices_IndexFunc_int_int x0)))
/-- loop.example/g01210/impl.areAll[int] -/
def p_impl_areAll_int (x0 : (List Int)) : Bool :=
  (!(p_slices_ContainsFunc_int_int x0))
/-- cmp.isNaN[int] -/
def p_cmp_isNaN_int (x0 : Int) : Bool :=
  (!(decide (x0 = x0)))
/-- cmp.Less[int] -/
def p_cmp_Less_int (x0 : Int) (x1 : Int) : Bool :=
  (((p_cmp_isNaN_int x0) && (!(p_cmp_isNaN_int x1))) || (decide (x0 < x1)))
/-- slices.IsSorted[[]int,int] -/
def p_slices_IsSorted_int_int (x0 : (List Int)) : Bool :=
  cntd (fun i2 (s1 : Unit) c3 _ => (if (p_cmp_Less_int (x0.getD i2.toNat 0) (x0.getD (i2 - 1).toNat 0)) = true then false else c3 ())) (fun i2 (s1 : Unit) => true) (Int.toNat (((x0.length : Int) - 1) - 0)) ((x0.length : Int) - 1) ()
/-- loop.example/g01210/impl.IsDie -/
def p_impl_IsDie (x0 : (List Int)) : Bool :=
  ((p_impl_areAll_int x0) && (p_slices_IsSorted_int_int x0))
/-- loop.example/g01210/impl.areAll[[6]int]$1 -/
def p_impl_areAll_6_int_1 (x0 : (List Int)) : Bool :=
  (!(p_impl_IsDie x0))
/-- slices.IndexFunc[[][6]int,[6]int] -/
def p_slices_IndexFunc_6_int_6_int (x0 : (List (List Int))) : Int :=
  cnt (fun i2 (s1 : Unit) c3 _ => (if (p_impl_areAll_6_int_1 (x0.getD i2.toNat (List.replicate 6 0))) = true then i2 else c3 ())) (fun i2 (s1 : Unit) => (-1)) (Int.toNat ((x0.length : Int) - 0)) 0 ()
/-- slices.ContainsFunc[[][6]int,[6]int] -/
def p_slices_ContainsFunc_6_int_6_int (x0 : (List (List Int))) : Bool :=
  (decide (0 ≤ (p_slices_IndexFunc_6_int_6_int x0)))
/-- loop.example/g01210/impl.areAll[[6]int] -/
def p_impl_areAll_6_int (x0 : (List (List Int))) : Bool :=
  (!(p_slices_ContainsFunc_6_int_6_int x0))
/-- loop.example/g01210/impl.IsPool -/
def p_impl_IsPool (x0 : (List (List Int))) : Bool :=
  ((p_impl_within (x0.length : Int) 1 4) && (p_impl_areAll_6_int x0))
/-- slices.Index[[]int,int] -/
def p_slices_Index_int_int (x0 : (List Int)) (x1 : Int) : Int :=
  cnt (fun i2 (s1 : Unit) c3 _ => (if x1 = (x0.getD i2.toNat 0) then i2 else c3 ())) (fun i2 (s1 : Unit) => (-1)) (Int.toNat ((x0.length : Int) - 0)) 0 ()
/-- slices.Contains[[]int,int] -/
def p_slices_Contains_int_int (x0 : (List Int)) (x1 : Int) : Bool :=
  (decide (0 ≤ (p_slices_Index_int_int x0 x1)))
/-- loop.example/g01210/impl.orders$1 -/
def p_impl_orders_1 : Nat → Int → Int → (List Int) → (List ((List Int) × Unit)) → Option ((List Int) × (List ((List Int) × Unit)))
  | 0, _, _, _, _ => none
  | fu + 1, x0, x1, x2, x3 => (if x0 = x1 then if (x3.length : Int) + 1 ≤ 1000000000 then some (x2, (x3 ++ [(x2, ())])) else none else whl (fun (s5 : Int × (List Int) × (List ((List Int) × Unit))) c7 => (if s5.1 < x1 then if 0 ≤ x0 then if x0 ≤ 4 then (if (p_slices_Contains_int_int ((s5.2.1.drop 0).take (x0 - 0).toNat) s5.1) = true then c7 ((IntKind.wrap .i64 (s5.1 + 1)), s5.2.1, s5.2.2) else if x0 < 4 then (p_impl_orders_1 fu (x0 + 1) x1 (s5.2.1.set x0.toNat s5.1) s5.2.2).bind (fun r16 => c7 ((IntKind.wrap .i64 (s5.1 + 1)), r16.1, r16.2)) else none) else none else none else if 0 ≤ x0 then if x0 < 4 then some ((s5.2.1.set x0.toNat (-1)), s5.2.2) else none else none)) fu (0, x2, x3))
/-- loop.example/g01210/impl.orders -/
def p_impl_orders (fu : Nat) (x0 : Int) : Option ((List ((List Int) × Unit))) :=
  (p_impl_orders_1 fu 0 x0 [(-1), (-1), (-1), (-1)] []).bind (fun r1 => some r1.2)
/-- loop.example/g01210/impl.power -/
def p_impl_power (fu : Nat) (x0 : Int) : Option (Int) :=
  whl (fun (s1 : Int × Int) c3 => (if s1.2 < x0 then c3 ((IntKind.wrap .i64 (s1.1 * 6)), (IntKind.wrap .i64 (s1.2 + 1))) else some s1.1)) fu (1, 0)
/-- loop.example/g01210/impl.rollAt -/
def p_impl_rollAt (fu : Nat) (x0 : (List (List Int))) (x1 : Int) : Option ((List Int)) :=
  if (x0.length : Int) ≤ 1000000000 then whl (fun (s2 : Int × Int × (List Int)) c4 => (if 0 ≤ s2.2.1 then if 0 ≤ (s2.1.tmod 6) then if (s2.1.tmod 6) < 6 then c4 ((IntKind.wrap .i64 (s2.1.tdiv 6)), (s2.2.1 - 1), (s2.2.2.set s2.2.1.toNat ((x0.getD s2.2.1.toNat (List.replicate 6 0)).getD (s2.1.tmod 6).toNat 0))) else none else none else some s2.2.2)) fu (x1, ((x0.length : Int) - 1), (List.replicate (x0.length : Int).toNat 0)) else none
/-- loop.example/g01210/impl.truth -/
def p_impl_truth (x0 : Bool) : Int :=
  (if x0 = true then 1 else 0)
/-- loop.example/g01210/impl.orderOf -/
def p_impl_orderOf (x0 : (List Int)) : Option (((List Int) × Unit) × Bool) :=
  cnt (fun i2 (s1 : (List Int)) c3 _ => cnt (fun i9 (s8 : Int) c10 _ => (if ((!(decide (i9 = i2))) && (decide ((x0.getD i9.toNat 0) = (x0.getD i2.toNat 0)))) = true then some (((List.replicate 4 0), ()), false) else c10 (IntKind.wrap .i64 (s8 + (p_impl_truth (decide ((x0.getD i2.toNat 0) < (x0.getD i9.toNat 0)))))))) (fun i9 (s8 : Int) => if 0 ≤ s8 then if s8 < 4 then c3 (s1.set s8.toNat i2) else none else none) (Int.toNat ((x0.length : Int) - 0)) 0 0) (fun i2 (s1 : (List Int)) => some ((s1, ()), true)) (Int.toNat ((x0.length : Int) - 0)) 0 [(-1), (-1), (-1), (-1)]
/-- slices.Index[[]loop.example/g01210/impl.Order,loop.example/g01210/impl.Order] -/
def p_slices_Index_impl_Order_impl_Order (x0 : (List ((List Int) × Unit))) (x1 : ((List Int) × Unit)) : Int :=
  cnt (fun i2 (s1 : Unit) c3 _ => (if x1.1 = (x0.getD i2.toNat ((List.replicate 4 0), ())).1 then i2 else c3 ())) (fun i2 (s1 : Unit) => (-1)) (Int.toNat ((x0.length : Int) - 0)) 0 ()
/-- loop.example/g01210/impl.orderWays -/
def p_impl_orderWays (fu : Nat) (x0 : (List (List Int))) : Option ((List Int)) :=
  (p_impl_orders fu (x0.length : Int)).bind (fun r1 => if (r1.length : Int) ≤ 1000000000 then (p_impl_power fu (x0.length : Int)).bind (fun r4 => whl (fun (s5 : Int × (List Int)) c7 => (if s5.1 < r4 then (p_impl_rollAt fu x0 s5.1).bind (fun r12 => (p_impl_orderOf r12).bind (fun r14 => (if r14.2 = true then if 0 ≤ (p_slices_Index_impl_Order_impl_Order r1 (r14.1.1, ())) then if (p_slices_Index_impl_Order_impl_Order r1 (r14.1.1, ())) < (r1.length : Int) then c7 ((IntKind.wrap .i64 (s5.1 + 1)), (s5.2.set (p_slices_Index_impl_Order_impl_Order r1 (r14.1.1, ())).toNat (IntKind.wrap .i64 ((s5.2.getD (p_slices_Index_impl_Order_impl_Order r1 (r14.1.1, ())).toNat 0) + 1)))) else none else none else c7 ((IntKind.wrap .i64 (s5.1 + 1)), s5.2)))) else some s5.2)) fu (0, (List.replicate (r1.length : Int).toNat 0))) else none)
/-- loop.example/g01210/impl.OrderWays -/
def p_impl_OrderWays (fu : Nat) (x0 : (List (List Int))) : Option ((List Int) × Bool) :=
  (if (p_impl_IsPool x0) = true then (p_impl_orderWays fu x0).bind (fun r2 => some (r2, true)) else some ([], false))
/-- loop.example/g01210/spec.l2Die -/
def p_spec_l2Die (x0 : (List Int)) : Option (Bool) :=
  cnt (fun i2 (s1 : Unit) c3 _ => (if ((!(p_spec_l1In (x0.getD i2.toNat 0) 0 30)) || ((decide (0 < i2)) && (decide ((x0.getD i2.toNat 0) < (x0.getD (i2 - 1).toNat 0))))) = true then some false else c3 ())) (fun i2 (s1 : Unit) => some true) (Int.toNat (6 - 0)) 0 ()
/-- loop.example/g01210/spec.l2Pool -/
def p_spec_l2Pool (x0 : (List (List Int))) : Option (Bool) :=
  cnt (fun i2 (s1 : Unit) c3 k16 => (if ((decide (i2 < (x0.length : Int))) && (decide (i2 ≤ 4))) = true then (p_spec_l2Die (x0.getD i2.toNat (List.replicate 6 0))).bind (fun r14 => (if r14 = true then c3 () else some false)) else k16 i2 s1)) (fun i2 (s1 : Unit) => some (p_spec_l1In (x0.length : Int) 1 4)) (Int.toNat ((x0.length : Int) - 0)) 0 ()
/-- loop.example/g01210/spec.l8Power -/
def p_spec_l8Power (fu : Nat) (x0 : Int) (x1 : Int) : Option (Int) :=
  whl (fun (s1 : Int × Int) c3 => (if s1.2 < x1 then c3 ((IntKind.wrap .i64 (s1.1 * x0)), (IntKind.wrap .i64 (s1.2 + 1))) else some s1.1)) fu (1, 0)
/-- loop.example/g01210/spec.l10Orders -/
def p_spec_l10Orders (fu : Nat) (x0 : Int) : Option ((List ((List Int) × Unit))) :=
  whl (fun (s1 : Int × (List ((List Int) × Unit))) c3 => (p_spec_l8Power fu x0 x0).bind (fun r5 => (if s1.1 < r5 then whl (fun (s9 : Int × Int × Int × (List Int)) c11 => (if 0 ≤ s9.2.2.1 then if x0 ≠ 0 then if s9.2.2.1 < 4 then if x0 ≠ 0 then if 0 ≤ (s9.2.1.tmod x0) then if x0 ≠ 0 then c11 ((orI .i64 s9.1 (shlI .i64 1 (s9.2.1.tmod x0))), (IntKind.wrap .i64 (s9.2.1.tdiv x0)), (s9.2.2.1 - 1), (s9.2.2.2.set s9.2.2.1.toNat (s9.2.1.tmod x0))) else none else none else none else none else none else if 0 ≤ x0 then (if s9.1 = (IntKind.wrap .i64 ((shlI .i64 1 x0) - 1)) then if (s1.2.length : Int) + 1 ≤ 1000000000 then c3 ((IntKind.wrap .i64 (s1.1 + 1)), (s1.2 ++ [(s9.2.2.2, ())])) else none else c3 ((IntKind.wrap .i64 (s1.1 + 1)), s1.2)) else none)) fu (0, s1.1, (IntKind.wrap .i64 (x0 - 1)), [(-1), (-1), (-1), (-1)]) else some s1.2))) fu (0, [])
/-- loop.example/g01210/spec.l2All -/
def p_spec_l2All (fu : Nat) (x0 : Int) : Option (Int) :=
  whl (fun (s1 : Int × Int) c3 => (if s1.2 < x0 then c3 ((IntKind.wrap .i64 (s1.1 * 6)), (IntKind.wrap .i64 (s1.2 + 1))) else some s1.1)) fu (1, 0)
/-- loop.example/g01210/spec.l2Roll -/
def p_spec_l2Roll (fu : Nat) (x0 : (List (List Int))) (x1 : Int) : Option ((List Int)) :=
  if (x0.length : Int) ≤ 1000000000 then whl (fun (s2 : Int × Int × (List Int)) c4 => (if 0 ≤ s2.2.1 then if 0 ≤ (s2.1.tmod 6) then if (s2.1.tmod 6) < 6 then c4 ((IntKind.wrap .i64 (s2.1.tdiv 6)), (s2.2.1 - 1), (s2.2.2.set s2.2.1.toNat ((x0.getD s2.2.1.toNat (List.replicate 6 0)).getD (s2.1.tmod 6).toNat 0))) else none else none else some s2.2.2)) fu (x1, ((x0.length : Int) - 1), (List.replicate (x0.length : Int).toNat 0)) else none
/-- loop.example/g01210/spec.l10Order -/
def p_spec_l10Order (x0 : (List Int)) : Option (((List Int) × Unit) × Bool) :=
  cnt (fun i2 (s1 : (List Int)) c3 _ => cnt (fun i9 (s8 : Int) c10 _ => (if ((!(decide (i9 = i2))) && (decide ((x0.getD i9.toNat 0) = (x0.getD i2.toNat 0)))) = true then some (((List.replicate 4 0), ()), false) else (if (x0.getD i2.toNat 0) < (x0.getD i9.toNat 0) then c10 (IntKind.wrap .i64 (s8 + 1)) else c10 s8))) (fun i9 (s8 : Int) => if 0 ≤ s8 then if s8 < 4 then c3 (s1.set s8.toNat i2) else none else none) (Int.toNat ((x0.length : Int) - 0)) 0 0) (fun i2 (s1 : (List Int)) => some ((s1, ()), true)) (Int.toNat ((x0.length : Int) - 0)) 0 [(-1), (-1), (-1), (-1)]
/-- loop.example/g01210/spec.l10Ways -/
def p_spec_l10Ways (fu : Nat) (x0 : (List (List Int))) : Option ((List Int)) :=
  (p_spec_l10Orders fu (x0.length : Int)).bind (fun r1 => if (r1.length : Int) ≤ 1000000000 then whl (fun (s4 : Int × (List Int)) c6 => (p_spec_l2All fu (x0.length : Int)).bind (fun r8 => (if s4.1 < r8 then (p_spec_l2Roll fu x0 s4.1).bind (fun r12 => (p_spec_l10Order r12).bind (fun r14 => cnt (fun i16 (s15 : (List Int)) c17 _ => (if (r14.2 && (decide ((r1.getD i16.toNat ((List.replicate 4 0), ())).1 = r14.1.1))) = true then c17 (s15.set i16.toNat (IntKind.wrap .i64 ((s15.getD i16.toNat 0) + 1))) else c17 s15)) (fun i16 (s15 : (List Int)) => c6 ((IntKind.wrap .i64 (s4.1 + 1)), s15)) (Int.toNat ((r1.length : Int) - 0)) 0 s4.2)) else some s4.2))) fu (0, (List.replicate (r1.length : Int).toNat 0)) else none)
/-- loop.example/g01210/spec.OrderWays -/
def p_spec_OrderWays (fu : Nat) (x0 : (List (List Int))) : Option ((List Int) × Bool) :=
  (p_spec_l2Pool x0).bind (fun r1 => (if r1 = true then (p_spec_l10Ways fu x0).bind (fun r3 => some (r3, true)) else some ([], false)))
/-- loop.example/g01210/impl.total -/
def p_impl_total (x0 : (List Int)) : Int :=
  cnt (fun i2 (s1 : Int) c3 _ => c3 (IntKind.wrap .i64 (s1 + (x0.getD i2.toNat 0)))) (fun i2 (s1 : Int) => s1) (Int.toNat ((x0.length : Int) - 0)) 0 0
/-- loop.example/g01210/impl.ties -/
def p_impl_ties (fu : Nat) (x0 : (List (List Int))) : Option (Int) :=
  (p_impl_power fu (x0.length : Int)).bind (fun r1 => (p_impl_orderWays fu x0).bind (fun r2 => some (IntKind.wrap .i64 (r1 - (p_impl_total r2)))))
/-- loop.example/g01210/impl.TieWays -/
def p_impl_TieWays (fu : Nat) (x0 : (List (List Int))) : Option (Int × Bool) :=
  (if (p_impl_IsPool x0) = true then (p_impl_ties fu x0).bind (fun r2 => some (r2, true)) else some (0, false))
/-- loop.example/g01210/spec.l10Ties -/
def p_spec_l10Ties (fu : Nat) (x0 : (List (List Int))) (x1 : (List Int)) : Option (Int) :=
  (p_spec_l2All fu (x0.length : Int)).bind (fun r1 => cnt (fun i3 (s2 : Int) c4 _ => c4 (IntKind.wrap .i64 (s2 - (x1.getD i3.toNat 0)))) (fun i3 (s2 : Int) => some s2) (Int.toNat ((x1.length : Int) - 0)) 0 r1)
/-- loop.example/g01210/spec.TieWays -/
def p_spec_TieWays (fu : Nat) (x0 : (List (List Int))) : Option (Int × Bool) :=
  (p_spec_l2Pool x0).bind (fun r1 => (if r1 = true then (p_spec_l10Ways fu x0).bind (fun r3 => (p_spec_l10Ties fu x0 r3).bind (fun r5 => some (r5, true))) else some (0, false)))
/-- slices.Max[[]int,int] -/
def p_slices_Max_int_int (x0 : (List Int)) : Option (Int) :=
  (if (x0.length : Int) < 1 then none else cnt (fun i5 (s4 : Int) c6 _ => c6 (if (x0.getD i5.toNat 0) > s4 then (x0.getD i5.toNat 0) else s4)) (fun i5 (s4 : Int) => some s4) (Int.toNat ((x0.length : Int) - 1)) 1 (x0.getD 0 0))
/-- slices.Min[[]int,int] -/
def p_slices_Min_int_int (x0 : (List Int)) : Option (Int) :=
  (if (x0.length : Int) < 1 then none else cnt (fun i5 (s4 : Int) c6 _ => c6 (if (x0.getD i5.toNat 0) < s4 then (x0.getD i5.toNat 0) else s4)) (fun i5 (s4 : Int) => some s4) (Int.toNat ((x0.length : Int) - 1)) 1 (x0.getD 0 0))
/-- loop.example/g01210/impl.areSame -/
def p_impl_areSame (x0 : (List Int)) : Option (Bool) :=
  (p_slices_Max_int_int x0).bind (fun r1 => (p_slices_Min_int_int x0).bind (fun r2 => some (decide (r1 = r2))))
/-- loop.example/g01210/impl.IsOrderFair -/
def p_impl_IsOrderFair (fu : Nat) (x0 : (List (List Int))) : Option (Bool × Bool) :=
  (if (p_impl_IsPool x0) = true then (p_impl_ties fu x0).bind (fun r2 => (if r2 = 0 then (p_impl_orderWays fu x0).bind (fun r6 => (p_impl_areSame r6).bind (fun r8 => some (r8, true))) else some (false, true))) else some (false, false))
/-- loop.example/g01210/spec.IsOrderFair -/
def p_spec_IsOrderFair (fu : Nat) (x0 : (List (List Int))) : Option (Bool × Bool) :=
  (p_spec_l2Pool x0).bind (fun r1 => (if r1 = true then (p_spec_l10Ways fu x0).bind (fun r3 => cnt (fun i6 (s5 : Unit) c7 _ => (if (r3.getD i6.toNat 0) = (r3.getD 0 0) then c7 () else some (false, true))) (fun i6 (s5 : Unit) => (p_spec_l10Ties fu x0 r3).bind (fun r15 => some ((decide (r15 = 0)), true))) (Int.toNat ((r3.length : Int) - 0)) 0 ()) else some (false, false)))
/-- loop.example/g01210/impl.waysAt -/
def p_impl_waysAt (fu : Nat) (x0 : (List (List Int))) (x1 : Int) (x2 : Int) : Option (Int) :=
  (p_impl_orderWays fu x0).bind (fun r1 => (p_impl_orders fu (x0.length : Int)).bind (fun r3 => cnt (fun i6 (s5 : Int) c7 _ => if 0 ≤ x2 then if x2 < 4 then (if (((r3.getD i6.toNat ((List.replicate 4 0), ())).1).getD x2.toNat 0) = x1 then if i6 < (r1.length : Int) then c7 (IntKind.wrap .i64 (s5 + (r1.getD i6.toNat 0))) else none else c7 s5) else none else none) (fun i6 (s5 : Int) => some s5) (Int.toNat ((r3.length : Int) - 0)) 0 0))
/-- loop.example/g01210/impl.isFairAt -/
def p_impl_isFairAt (fu : Nat) (x0 : (List (List Int))) (x1 : Int) : Option (Bool) :=
  cnt (fun i2 (s1 : (List Int)) c3 _ => (p_impl_waysAt fu x0 i2 x1).bind (fun r8 => if (s1.length : Int) + 1 ≤ 1000000000 then c3 (s1 ++ [r8]) else none)) (fun i2 (s1 : (List Int)) => (p_impl_areSame s1).bind (fun r10 => some r10)) (Int.toNat ((x0.length : Int) - 0)) 0 []
/-- loop.example/g01210/impl.IsPlaceFair -/
def p_impl_IsPlaceFair (fu : Nat) (x0 : (List (List Int))) : Option (Bool × Bool) :=
  (if (p_impl_IsPool x0) = true then cnt (fun i3 (s2 : Unit) c4 _ => (p_impl_isFairAt fu x0 i3).bind (fun r9 => (if r9 = true then c4 () else some (false, true)))) (fun i3 (s2 : Unit) => (p_impl_ties fu x0).bind (fun r11 => some ((decide (r11 = 0)), true))) (Int.toNat ((x0.length : Int) - 0)) 0 () else some (false, false))
/-- loop.example/g01210/spec.l10At -/
def p_spec_l10At (fu : Nat) (x0 : Int) (x1 : (List Int)) (x2 : Int) (x3 : Int) : Option (Int) :=
  (p_spec_l10Orders fu x0).bind (fun r1 => cnt (fun i4 (s3 : Int) c5 _ => if 0 ≤ x3 then if x3 < 4 then (if ((r1.getD i4.toNat ((List.replicate 4 0), ())).1.getD x3.toNat 0) = x2 then if i4 < (x1.length : Int) then c5 (IntKind.wrap .i64 (s3 + (x1.getD i4.toNat 0))) else none else c5 s3) else none else none) (fun i4 (s3 : Int) => some s3) (Int.toNat ((r1.length : Int) - 0)) 0 0)
/-- loop.example/g01210/spec.IsPlaceFair -/
def p_spec_IsPlaceFair (fu : Nat) (x0 : (List (List Int))) : Option (Bool × Bool) :=
  (p_spec_l2Pool x0).bind (fun r1 => (if r1 = true then (p_spec_l10Ways fu x0).bind (fun r3 => cnt (fun i6 (s5 : Unit) c7 _ => cnt (fun i13 (s12 : Unit) c14 _ => (p_spec_l10At fu (x0.length : Int) r3 i6 i13).bind (fun r19 => (p_spec_l2All fu (x0.length : Int)).bind (fun r20 => (if (IntKind.wrap .i64 (r19 * (x0.length : Int))) = r20 then c14 () else some (false, true))))) (fun i13 (s12 : Unit) => c7 ()) (Int.toNat ((x0.length : Int) - 0)) 0 ()) (fun i6 (s5 : Unit) => some (true, true)) (Int.toNat ((x0.length : Int) - 0)) 0 ()) else some (false, false)))
/-- loop.example/g01210/impl.IsFirstFair -/
def p_impl_IsFirstFair (fu : Nat) (x0 : (List (List Int))) : Option (Bool × Bool) :=
  (if (p_impl_IsPool x0) = true then (p_impl_isFairAt fu x0 0).bind (fun r2 => some (r2, true)) else some (false, false))
/-- loop.example/g01210/spec.IsFirstFair -/
def p_spec_IsFirstFair (fu : Nat) (x0 : (List (List Int))) : Option (Bool × Bool) :=
  (p_spec_l2Pool x0).bind (fun r1 => (if r1 = true then (p_spec_l10Ways fu x0).bind (fun r3 => cnt (fun i6 (s5 : Unit) c7 _ => (p_spec_l10At fu (x0.length : Int) r3 i6 0).bind (fun r12 => (p_spec_l10At fu (x0.length : Int) r3 0 0).bind (fun r13 => (if r12 = r13 then c7 () else some (false, true))))) (fun i6 (s5 : Unit) => some (true, true)) (Int.toNat ((x0.length : Int) - 1)) 1 ()) else some (false, false)))
/-- loop.example/g01210/laws.vCut -/
def p_laws_vCut (x0 : (List Int)) (x1 : Int) : Option ((List Int)) :=
  jn (fun (s1 : Int) => if 0 ≤ s1 then if s1 ≤ (x0.length : Int) then if 0 + ((x0.length : Int) - s1) ≤ 1000000000 then if (0 + ((x0.length : Int) - s1)) + 1 ≤ 1000000000 then some (([] ++ (x0.drop s1.toNat)) ++ [(IntKind.wrap .u8 s1)]) else none else none else none else none) (fun k2 => (if (x0.length : Int) < x1 then k2 (x0.length : Int) else k2 x1))
/-- loop.example/g01210/spec.DrawOrderOf -/
def p_spec_DrawOrderOf (fu : Nat) (x0 : (List Int)) : Option ((List (List Int)) × Int) :=
  (p_spec_l1Cur_tieless10 fu x0 0 0).bind (fun r1 => (p_spec_l2Pool r1.1).bind (fun r3 => (if r3 = true then (p_spec_l1Cur_one 16 x0 r1.2.1 r1.2.2).bind (fun r5 => (if r5.1 = true then (p_spec_l1Cur_among [(-1), 216, 1296, 4611686018427387904] x0 r5.2.1 r5.2.2).bind (fun r9 => some (r1.1, r9.1)) else (p_spec_l2All fu (r1.1.length : Int)).bind (fun r7 => (p_spec_l1Cur_pick r7 x0 r5.2.1 r5.2.2).bind (fun r8 => some (r1.1, r8.1))))) else (p_spec_l1Cur_among [(-1), 216, 1296, 4611686018427387904] x0 r1.2.1 r1.2.2).bind (fun r10 => some (r1.1, r10.1)))))
/-- loop.example/g01210/impl.isOutcome -/
def p_impl_isOutcome (fu : Nat) (x0 : (List (List Int))) (x1 : Int) : Option (Bool) :=
  (p_impl_power fu (x0.length : Int)).bind (fun r1 => some (p_impl_within x1 0 (IntKind.wrap .i64 (r1 - 1))))
/-- loop.example/g01210/impl.OrderOf -/
def p_impl_OrderOf (fu : Nat) (x0 : (List (List Int))) (x1 : Int) : Option (((List Int) × Unit) × Bool) :=
  if ((!(!(p_impl_IsPool x0))) = true → (p_impl_isOutcome fu x0 x1).isSome = true) then (if ((!(p_impl_IsPool x0)) || (!((p_impl_isOutcome fu x0 x1).getD false))) = true then some (((List.replicate 4 0), ()), false) else (p_impl_rollAt fu x0 x1).bind (fun r9 => (p_impl_orderOf r9).bind (fun r11 => some ((r11.1.1, ()), r11.2)))) else none
/-- loop.example/g01210/spec.RollAt -/
def p_spec_RollAt (fu : Nat) (x0 : (List (List Int))) (x1 : Int) : Option ((List Int) × Bool) :=
  (p_spec_l2Pool x0).bind (fun r1 => if ((!(!r1)) = true → (p_spec_l2All fu (x0.length : Int)).isSome = true) then (if ((!r1) || (!(p_spec_l1In x1 0 (IntKind.wrap .i64 (((p_spec_l2All fu (x0.length : Int)).getD 0) - 1))))) = true then some ([], false) else (p_spec_l2Roll fu x0 x1).bind (fun r13 => some (r13, true))) else none)
/-- loop.example/g01210/spec.OrderOf -/
def p_spec_OrderOf (fu : Nat) (x0 : (List (List Int))) (x1 : Int) : Option (((List Int) × Unit) × Bool) :=
  (p_spec_RollAt fu x0 x1).bind (fun r1 => (if r1.2 = true then (p_spec_l10Order r1.1).bind (fun r4 => some ((r4.1.1, ()), r4.2)) else some (((List.replicate 4 0), ()), false)))
/-- loop.example/g01210/spec.l1Least -/
def p_spec_l1Least (x0 : Int) (x1 : Int) : Int :=
  (if x0 < x1 then x0 else x1)
/-- loop.example/g01210/spec.l1Most -/
def p_spec_l1Most (x0 : Int) (x1 : Int) : Int :=
  (if x1 < x0 then x0 else x1)
/-- loop.example/g01210/spec.DrawWaysAt -/
def p_spec_DrawWaysAt (fu : Nat) (x0 : (List Int)) : Option ((List (List Int)) × Int × Int) :=
  (p_spec_l1Cur_tieless10 fu x0 0 0).bind (fun r1 => (p_spec_l1Cur_pick (p_spec_l1Most 1 (p_spec_l1Least (r1.1.length : Int) 4)) x0 r1.2.1 r1.2.2).bind (fun r3 => (p_spec_l1Cur_pick 24 x0 r3.2.1 r3.2.2).bind (fun r4 => (p_spec_l1Cur_pick (p_spec_l1Most 1 (p_spec_l1Least (r1.1.length : Int) 4)) x0 r4.2.1 r4.2.2).bind (fun r5 => (p_spec_l1Cur_pick 24 x0 r5.2.1 r5.2.2).bind (fun r6 => some (r1.1, (IntKind.wrap .i64 (r3.1 - (IntKind.wrap .i64 (r4.1.tdiv 23)))), (IntKind.wrap .i64 (r5.1 + (IntKind.wrap .i64 (r6.1.tdiv 23))))))))))
/-- loop.example/g01210/impl.isPlayer -/
def p_impl_isPlayer (x0 : (List (List Int))) (x1 : Int) : Bool :=
  (p_impl_within x1 0 ((x0.length : Int) - 1))
/-- loop.example/g01210/impl.WaysAt -/
def p_impl_WaysAt (fu : Nat) (x0 : (List (List Int))) (x1 : Int) (x2 : Int) : Option (Int × Bool) :=
  (if (((!(p_impl_IsPool x0)) || (!(p_impl_isPlayer x0 x1))) || (!(p_impl_isPlayer x0 x2))) = true then some (0, false) else (p_impl_waysAt fu x0 x1 x2).bind (fun r22 => some (r22, true)))
/-- loop.example/g01210/spec.WaysAt -/
def p_spec_WaysAt (fu : Nat) (x0 : (List (List Int))) (x1 : Int) (x2 : Int) : Option (Int × Bool) :=
  (p_spec_l2Pool x0).bind (fun r1 => (if (((!r1) || (!(p_spec_l1In x1 0 ((x0.length : Int) - 1)))) || (!(p_spec_l1In x2 0 ((x0.length : Int) - 1)))) = true then some (0, false) else (p_spec_l10Ways fu x0).bind (fun r31 => (p_spec_l10At fu (x0.length : Int) r31 x1 x2).bind (fun r33 => some (r33, true)))))
/-- loop.example/g01210/laws.vInts -/
def p_laws_vInts (x0 : (List Int)) (x1 : (List Int)) : Bool :=
  (if (x0.length : Int) = (x1.length : Int) then cnt (fun i5 (s4 : Unit) c6 _ => (if (x0.getD i5.toNat 0) = (x1.getD i5.toNat 0) then c6 () else false)) (fun i5 (s4 : Unit) => true) (Int.toNat ((x0.length : Int) - 0)) 0 () else false)
/-- loop.example/g01210/impl.RollAt -/
def p_impl_RollAt (fu : Nat) (x0 : (List (List Int))) (x1 : Int) : Option ((List Int) × Bool) :=
  if ((!(!(p_impl_IsPool x0))) = true → (p_impl_isOutcome fu x0 x1).isSome = true) then (if ((!(p_impl_IsPool x0)) || (!((p_impl_isOutcome fu x0 x1).getD false))) = true then some ([], false) else (p_impl_rollAt fu x0 x1).bind (fun r9 => some (r9, true))) else none
/-- loop.example/g01210/impl.OrdersOf -/
def p_impl_OrdersOf (fu : Nat) (x0 : Int) : Option ((List ((List Int) × Unit)) × Bool) :=
  (if (p_impl_within x0 1 4) = true then (p_impl_orders fu x0).bind (fun r2 => some (r2, true)) else some ([], false))
/-- loop.example/g01210/spec.OrdersOf -/
def p_spec_OrdersOf (fu : Nat) (x0 : Int) : Option ((List ((List Int) × Unit)) × Bool) :=
  (if (p_spec_l1In x0 1 4) = true then (p_spec_l10Orders fu x0).bind (fun r2 => some (r2, true)) else some ([], false))
/-- loop.example/g01210/laws.vOrders -/
def p_laws_vOrders (x0 : (List ((List Int) × Unit))) (x1 : (List ((List Int) × Unit))) : Bool :=
  (if (x0.length : Int) = (x1.length : Int) then cnt (fun i5 (s4 : Unit) c6 _ => (if (x0.getD i5.toNat ((List.replicate 4 0), ())).1 = (x1.getD i5.toNat ((List.replicate 4 0), ())).1 then c6 () else false)) (fun i5 (s4 : Unit) => true) (Int.toNat ((x0.length : Int) - 0)) 0 () else false)
/-- loop.example/g01210/laws.vSix -/
def p_laws_vSix (fu : Nat) (x0 : Int) : Option (Int) :=
  whl (fun (s1 : Int × Int) c3 => (if s1.2 < x0 then c3 ((IntKind.wrap .i64 (s1.1 * 6)), (IntKind.wrap .i64 (s1.2 + 1))) else some s1.1)) fu (1, 0)
/-- loop.example/g01210/laws.FnOrders -/
def p_laws_FnOrders (fu : Nat) (x0 : (List Int)) : Option (Bool) :=
  (if (p_laws_vBig x0) = true then some true else (p_spec_DrawIsOrderFair fu x0).bind (fun r2 => (p_impl_OrderWays fu r2).bind (fun r4 => (p_spec_OrderWays fu r2).bind (fun r6 => (p_impl_TieWays fu r2).bind (fun r8 => (p_spec_TieWays fu r2).bind (fun r9 => (p_impl_IsOrderFair fu r2).bind (fun r10 => (p_spec_IsOrderFair fu r2).bind (fun r11 => (p_impl_IsPlaceFair fu r2).bind (fun r12 => (p_spec_IsPlaceFair fu r2).bind (fun r13 => (p_impl_IsFirstFair fu r2).bind (fun r14 => (p_spec_IsFirstFair fu r2).bind (fun r15 => (p_laws_vCut x0 1).bind (fun r16 => (p_spec_DrawOrderOf fu r16).bind (fun r18 => (p_impl_OrderOf fu r18.1 r18.2).bind (fun r20 => (p_spec_OrderOf fu r18.1 r18.2).bind (fun r21 => (p_laws_vCut x0 2).bind (fun r22 => (p_spec_DrawWaysAt fu r22).bind (fun r24 => (p_impl_WaysAt fu r24.1 r24.2.1 r24.2.2).bind (fun r26 => (p_spec_WaysAt fu r24.1 r24.2.1 r24.2.2).bind (fun r27 => (if ((((((((((((((((((r4.2 != r6.2) || (!(p_laws_vInts r4.1 r6.1))) || (!(decide (r8.1 = r9.1)))) || (r8.2 != r9.2)) || (r10.1 != r11.1)) || (r10.2 != r11.2)) || (r12.1 != r13.1)) || (r12.2 != r13.2)) || (r14.1 != r15.1)) || (r14.2 != r15.2)) || (!(decide (r20.1.1 = r21.1.1)))) || (r20.2 != r21.2)) || (!(decide (r26.1 = r27.1)))) || (r26.2 != r27.2)) || (r4.2 != r8.2)) || (r4.2 != r10.2)) || (r4.2 != r12.2)) || (r4.2 != r14.2)) = true then some false else jn (fun (s993 : Unit) => jn (fun (s996 : Unit) => (if r4.2 = true then (p_impl_OrdersOf fu (r2.length : Int)).bind (fun r1000 => (p_spec_OrdersOf fu (r2.length : Int)).bind (fun r1002 => cnt (fun i1005 (s1004 : Int) c1006 _ => c1006 (IntKind.wrap .i64 (s1004 + (r4.1.getD i1005.toNat 0)))) (fun i1005 (s1004 : Int) => if (((r1000.2 && (p_laws_vOrders r1000.1 r1002.1)) && (decide ((r1000.1.length : Int) = (r4.1.length : Int)))) = true → (p_laws_vSix fu (r2.length : Int)).isSome = true) then some ((((((r1000.2 && (p_laws_vOrders r1000.1 r1002.1)) && (decide ((r1000.1.length : Int) = (r4.1.length : Int)))) && (decide (s1004 = ((p_laws_vSix fu (r2.length : Int)).getD 0)))) && ((!r10.1) || r12.1)) && ((!r12.1) || r14.1)) && ((!r12.1) || (decide (r8.1 = 0)))) else none) (Int.toNat ((r4.1.length : Int) - 0)) 0 r8.1)) else some true)) (fun k997 => (if r26.2 = true then (p_impl_OrdersOf fu (r24.1.length : Int)).bind (fun r1247 => (p_impl_OrderWays fu r24.1).bind (fun r1249 => cnt (fun i1252 (s1251 : Int) c1253 k1290 => (if ((decide (i1252 < (r1247.1.length : Int))) && (decide (i1252 < (r1249.1.length : Int)))) = true then if 0 ≤ r24.2.2 then if r24.2.2 < 4 then (if ((r1247.1.getD i1252.toNat ((List.replicate 4 0), ())).1.getD r24.2.2.toNat 0) = r24.2.1 then c1253 (IntKind.wrap .i64 (s1251 + (r1249.1.getD i1252.toNat 0))) else c1253 s1251) else none else none else k1290 i1252 s1251)) (fun i1252 (s1251 : Int) => (if (((!r1247.2) || (!r1249.2)) || (!(decide (s1251 = r26.1)))) = true then some false else k997 ())) (Int.toNat ((r1247.1.length : Int) - 0)) 0 0)) else k997 ()))) (fun k994 => (if r20.2 = true then (p_impl_RollAt fu r18.1 r18.2).bind (fun r1292 => cnt (fun i1295 (s1294 : Unit) c1296 _ => if (i1295 - 1) < 4 then if i1295 < 4 then (if (((((decide ((r20.1.1.getD (i1295 - 1).toNat 0) < 0)) || (decide ((r20.1.1.getD i1295.toNat 0) < 0))) || (decide ((r1292.1.length : Int) ≤ (r20.1.1.getD (i1295 - 1).toNat 0)))) || (decide ((r1292.1.length : Int) ≤ (r20.1.1.getD i1295.toNat 0)))) || (decide ((r1292.1.getD (r20.1.1.getD (i1295 - 1).toNat 0).toNat 0) ≤ (r1292.1.getD (r20.1.1.getD i1295.toNat 0).toNat 0)))) = true then some false else c1296 ()) else none else none) (fun i1295 (s1294 : Unit) => (if r1292.2 = true then k994 () else some false)) (Int.toNat ((r1292.1.length : Int) - 1)) 1 ()) else k994 ())))))))))))))))))))))))
end Go.GA
