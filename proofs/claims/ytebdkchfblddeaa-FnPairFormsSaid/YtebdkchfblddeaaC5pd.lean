/- Walks: what the Go functions compute, by the printed lines below; no further conditions. -/
import Derived.Test.YtebdkchfblddeaaGaD
namespace Go.GA
open Go
set_option maxRecDepth 100000
set_option maxHeartbeats 2000000
set_option linter.unusedVariables false
set_option linter.unusedSimpArgs false
/-- loop.example/g01210/laws.rBig -/
def p_laws_rBig (x0 : (List Int)) : Bool :=
  (decide (65536 < (x0.length : Int)))
/-- (*loop.example/g01210/spec.l1Cur).next -/
def p_spec_l1Cur_next (x0 : (List Int)) (x1 : Int) (x2 : Int) : Option (Int × Int × Int) :=
  jn (fun (s1 : Int) => (if (IntKind.wrap .i64 (x1 + 1)) ≤ (x0.length : Int) then some (s1, (IntKind.wrap .i64 (x1 + 1)), (IntKind.wrap .u64 ((IntKind.wrap .u64 ((IntKind.wrap .u64 (x2 * 6364136223846793005)) + (IntKind.wrap .u64 s1))) + 462197))) else some ((IntKind.wrap .i64 (andI .u64 (shrI .u64 (IntKind.wrap .u64 ((IntKind.wrap .u64 ((IntKind.wrap .u64 (x2 * 6364136223846793005)) + (IntKind.wrap .u64 s1))) + 462197)) 40) 255)), (IntKind.wrap .i64 (x1 + 1)), (IntKind.wrap .u64 ((IntKind.wrap .u64 ((IntKind.wrap .u64 (x2 * 6364136223846793005)) + (IntKind.wrap .u64 s1))) + 462197))))) (fun k2 => (if x1 < (x0.length : Int) then if 0 ≤ x1 then k2 (IntKind.wrap .i64 (x0.getD x1.toNat 0)) else none else k2 0))
/-- (*loop.example/g01210/spec.l1Cur).pick -/
def p_spec_l1Cur_pick (x0 : Int) (x1 : (List Int)) (x2 : Int) (x3 : Int) : Option (Int × Int × Int) :=
  (if x0 ≤ 1 then some (0, x2, x3) else (p_spec_l1Cur_next x1 x2 x3).bind (fun r4 => (if 200 < x0 then (p_spec_l1Cur_next x1 r4.2.1 r4.2.2).bind (fun r8 => some (((IntKind.wrap .i64 ((IntKind.wrap .i64 (r4.1 * 256)) + r8.1)).tmod x0), r8.2.1, r8.2.2)) else some ((r4.1.tmod x0), r4.2.1, r4.2.2))))
/-- loop.example/g01210/spec.l2Sorted -/
def p_spec_l2Sorted (x0 : (List Int)) : (List Int) :=
  cnt (fun i2 (s1 : (List Int)) c3 _ => cnt (fun i9 (s8 : (List Int)) c10 _ => (if (s8.getD (i9 + 1).toNat 0) < (s8.getD i9.toNat 0) then c10 ((s8.set i9.toNat (s8.getD (i9 + 1).toNat 0)).set (i9 + 1).toNat (s8.getD i9.toNat 0)) else c10 s8)) (fun i9 (s8 : (List Int)) => c3 s8) (Int.toNat (5 - 0)) 0 s1) (fun i2 (s1 : (List Int)) => s1) (Int.toNat (6 - 0)) 0 x0
/-- (*loop.example/g01210/spec.l1Cur).among -/
def p_spec_l1Cur_among (x0 : (List Int)) (x1 : (List Int)) (x2 : Int) (x3 : Int) : Option (Int × Int × Int) :=
  (p_spec_l1Cur_pick (x0.length : Int) x1 x2 x3).bind (fun r1 => if 0 ≤ r1.1 then if r1.1 < (x0.length : Int) then some ((x0.getD r1.1.toNat 0), r1.2.1, r1.2.2) else none else none)
/-- (*loop.example/g01210/spec.l1Cur).face -/
def p_spec_l1Cur_face (x0 : (List Int)) (x1 : Int) (x2 : Int) : Option (Int × Int × Int) :=
  (p_spec_l1Cur_among [1, 2, 3, 4, 5, 6, 6, 0, 8, 9, 4, 3, 30, 12] x0 x1 x2).bind (fun r1 => some (r1.1, r1.2.1, r1.2.2))
/-- (*loop.example/g01210/spec.l1Cur).one -/
def p_spec_l1Cur_one (x0 : Int) (x1 : (List Int)) (x2 : Int) (x3 : Int) : Option (Bool × Int × Int) :=
  (p_spec_l1Cur_pick x0 x1 x2 x3).bind (fun r1 => some ((decide (r1.1 = 0)), r1.2.1, r1.2.2))
/-- (*loop.example/g01210/spec.l1Cur).die -/
def p_spec_l1Cur_die (x0 : (List Int)) (x1 : Int) (x2 : Int) : Option ((List Int) × Int × Int) :=
  jn (fun (s1 : Int × Int × (List Int)) => (p_spec_l1Cur_pick 50 x0 s1.1 s1.2.1).bind (fun r4 => (if r4.1 = 0 then (p_spec_l1Cur_pick 6 x0 r4.2.1 r4.2.2).bind (fun r8 => (p_spec_l1Cur_among [(-1), 31, 0, 4611686018427387904] x0 r8.2.1 r8.2.2).bind (fun r9 => if 0 ≤ r8.1 then if r8.1 < 6 then some (((p_spec_l2Sorted s1.2.2).set r8.1.toNat r9.1), r9.2.1, r9.2.2) else none else none)) else (if r4.1 = 1 then some (((p_spec_l2Sorted s1.2.2).set 0 30), r4.2.1, r4.2.2) else some ((p_spec_l2Sorted s1.2.2), r4.2.1, r4.2.2))))) (fun k2 => (p_spec_l1Cur_pick 6 x0 x1 x2).bind (fun r15 => (if r15.1 = 0 then some ([1, 2, 3, 4, 5, 6], r15.2.1, r15.2.2) else (if r15.1 = 1 then k2 (r15.2.1, r15.2.2, [1, 2, 2, 3, 3, 4]) else (if r15.1 = 2 then (p_spec_l1Cur_face x0 r15.2.1 r15.2.2).bind (fun r25 => (p_spec_l1Cur_face x0 r25.2.1 r25.2.2).bind (fun r26 => cnt (fun i28 (s27 : Int × Int × (List Int)) c29 _ => (p_spec_l1Cur_one 3 x0 s27.1 s27.2.1).bind (fun r34 => (if r34.1 = true then c29 (r34.2.1, r34.2.2, ((s27.2.2.set i28.toNat r25.1).set i28.toNat r26.1)) else c29 (r34.2.1, r34.2.2, (s27.2.2.set i28.toNat r25.1))))) (fun i28 (s27 : Int × Int × (List Int)) => k2 (s27.1, s27.2.1, s27.2.2)) (Int.toNat (6 - 0)) 0 (r26.2.1, r26.2.2, [1, 2, 3, 4, 5, 6]))) else cnt (fun i37 (s36 : Int × Int × (List Int)) c38 _ => (p_spec_l1Cur_face x0 s36.1 s36.2.1).bind (fun r43 => c38 (r43.2.1, r43.2.2, (s36.2.2.set i37.toNat r43.1)))) (fun i37 (s36 : Int × Int × (List Int)) => k2 (s36.1, s36.2.1, s36.2.2)) (Int.toNat (6 - 0)) 0 (r15.2.1, r15.2.2, [1, 2, 3, 4, 5, 6]))))))
/-- (*loop.example/g01210/spec.l1Cur).pool -/
def p_spec_l1Cur_pool (fu : Nat) (x0 : (List Int)) (x1 : Int) (x2 : Int) : Option ((List (List Int)) × Int × Int) :=
  (p_spec_l1Cur_among [2, 3, 1, 2, 4] x0 x1 x2).bind (fun r1 => whl (fun (s2 : Int × Int × Int × (List (List Int))) c4 => (if 0 < s2.1 then (p_spec_l1Cur_die x0 s2.2.1 s2.2.2.1).bind (fun r9 => (if 0 < (s2.2.2.2.length : Int) then (p_spec_l1Cur_one 3 x0 r9.2.1 r9.2.2).bind (fun r13 => (if r13.1 = true then if (s2.2.2.2.length : Int) + 1 ≤ 1000000000 then c4 ((IntKind.wrap .i64 (s2.1 - 1)), r13.2.1, r13.2.2, (s2.2.2.2 ++ [(s2.2.2.2.getD 0 (List.replicate 6 0))])) else none else if (s2.2.2.2.length : Int) + 1 ≤ 1000000000 then c4 ((IntKind.wrap .i64 (s2.1 - 1)), r13.2.1, r13.2.2, (s2.2.2.2 ++ [r9.1])) else none)) else c4 ((IntKind.wrap .i64 (s2.1 - 1)), r9.2.1, r9.2.2, (s2.2.2.2 ++ [r9.1])))) else (p_spec_l1Cur_pick 50 x0 s2.2.1 s2.2.2.1).bind (fun r17 => (if r17.1 = 0 then some ([], r17.2.1, r17.2.2) else (if r17.1 = 1 then whl (fun (s24 : (List (List Int))) c26 => (if (s24.length : Int) < 5 then if 0 < (s24.length : Int) then c26 (s24 ++ [(s24.getD 0 (List.replicate 6 0))]) else none else some (s24, r17.2.1, r17.2.2))) fu s2.2.2.2 else some (s2.2.2.2, r17.2.1, r17.2.2)))))) fu (r1.1, r1.2.1, r1.2.2, []))
/-- (*loop.example/g01210/spec.l1Cur).two -/
def p_spec_l1Cur_two (fu : Nat) (x0 : (List Int)) (x1 : Int) (x2 : Int) : Option ((List (List Int)) × Int × Int) :=
  (p_spec_l1Cur_pick 6 x0 x1 x2).bind (fun r1 => (if r1.1 = 0 then some ([[1, 2, 3, 4, 5, 6], [1, 2, 3, 4, 5, 6]], r1.2.1, r1.2.2) else (if r1.1 = 1 then some ([[1, 3, 4, 5, 6, 8], [1, 2, 2, 3, 3, 4]], r1.2.1, r1.2.2) else (if r1.1 = 2 then (p_spec_l1Cur_pick 3 x0 r1.2.1 r1.2.2).bind (fun r11 => (p_spec_l1Cur_pick 4 x0 r11.2.1 r11.2.2).bind (fun r12 => cnt (fun i14 (s13 : (List Int) × (List Int)) c15 _ => c15 ((s13.1.set i14.toNat (IntKind.wrap .i64 ((IntKind.wrap .i64 ((i14.tmod 3) * (IntKind.wrap .i64 (1 + r11.1)))) + (IntKind.wrap .i64 ((IntKind.wrap .i64 (i14.tdiv 3)) * (IntKind.wrap .i64 (1 + r12.1))))))), (s13.2.set i14.toNat (IntKind.wrap .i64 ((IntKind.wrap .i64 ((i14.tmod 2) * (IntKind.wrap .i64 (1 + r11.1)))) + (IntKind.wrap .i64 ((IntKind.wrap .i64 (i14.tdiv 2)) * (IntKind.wrap .i64 (1 + r12.1))))))))) (fun i14 (s13 : (List Int) × (List Int)) => some ([(p_spec_l2Sorted s13.1), (p_spec_l2Sorted s13.2)], r12.2.1, r12.2.2)) (Int.toNat (6 - 0)) 0 ((List.replicate 6 0), (List.replicate 6 0)))) else (if r1.1 = 3 then (p_spec_l1Cur_pool fu x0 r1.2.1 r1.2.2).bind (fun r23 => some (r23.1, r23.2.1, r23.2.2)) else (p_spec_l1Cur_die x0 r1.2.1 r1.2.2).bind (fun r25 => (p_spec_l1Cur_die x0 r25.2.1 r25.2.2).bind (fun r26 => some ([r25.1, r26.1], r26.2.1, r26.2.2))))))))
/-- loop.example/g01210/spec.l2Before -/
def p_spec_l2Before (x0 : (List Int)) (x1 : (List Int)) : Bool :=
  cnt (fun i2 (s1 : Unit) c3 _ => (if (x0.getD i2.toNat 0) = (x1.getD i2.toNat 0) then c3 () else (decide ((x0.getD i2.toNat 0) < (x1.getD i2.toNat 0))))) (fun i2 (s1 : Unit) => false) (Int.toNat (6 - 0)) 0 ()
/-- loop.example/g01210/spec.l5Pair -/
def p_spec_l5Pair (x0 : (List Int)) (x1 : (List Int)) : ((List Int) × ((List Int) × Unit)) :=
  (if (p_spec_l2Before x1 x0) = true then (x1, (x0, ())) else (x0, (x1, ())))
/-- (*loop.example/g01210/spec.l1Cur).pair -/
def p_spec_l1Cur_pair (fu : Nat) (x0 : (List Int)) (x1 : Int) (x2 : Int) : Option (((List Int) × ((List Int) × Unit)) × Int × Int) :=
  (p_spec_l1Cur_two fu x0 x1 x2).bind (fun r1 => (if (r1.1.length : Int) < 2 then (p_spec_l1Cur_die x0 r1.2.1 r1.2.2).bind (fun r6 => (p_spec_l1Cur_die x0 r6.2.1 r6.2.2).bind (fun r7 => some ((r6.1, (r7.1, ())), r7.2.1, r7.2.2))) else (p_spec_l1Cur_one 30 x0 r1.2.1 r1.2.2).bind (fun r8 => (if r8.1 = true then (p_spec_l1Cur_die x0 r8.2.1 r8.2.2).bind (fun r10 => (p_spec_l1Cur_die x0 r10.2.1 r10.2.2).bind (fun r11 => some ((r10.1, (r11.1, ())), r11.2.1, r11.2.2))) else some (((p_spec_l5Pair (r1.1.getD 0 (List.replicate 6 0)) (r1.1.getD 1 (List.replicate 6 0))).1, (((p_spec_l5Pair (r1.1.getD 0 (List.replicate 6 0)) (r1.1.getD 1 (List.replicate 6 0))).2).1, ())), r8.2.1, r8.2.2)))))
/-- loop.example/g01210/spec.DrawIsPair -/
def p_spec_DrawIsPair (fu : Nat) (x0 : (List Int)) : Option (((List Int) × ((List Int) × Unit))) :=
  (p_spec_l1Cur_pair fu x0 0 0).bind (fun r1 => some (r1.1.1, (r1.1.2.1, ())))
/-- loop.example/g01210/spec.DrawShapeOf -/
def p_spec_DrawShapeOf (fu : Nat) (x0 : (List Int)) : Option (((List Int) × ((List Int) × Unit))) :=
  (p_spec_DrawIsPair fu x0).bind (fun r1 => some (r1.1, (r1.2.1, ())))
/-- loop.example/g01210/impl.within -/
def p_impl_within (x0 : Int) (x1 : Int) (x2 : Int) : Bool :=
  ((decide (x1 ≤ x0)) && (decide (x0 ≤ x2)))
/-- loop.example/g01210/impl.isFace -/
def p_impl_isFace (x0 : Int) : Bool :=
  (p_impl_within x0 0 30)
/-- loop.example/g01210/impl.areAll[int]$1 -/
def p_impl_areAll_int_1 (x0 : Int) : Bool :=
  (!(p_impl_isFace x0))
/-- slices.IndexFunc[[]int,int] -/
def p_slices_IndexFunc_int_int (x0 : (List Int)) : Int :=
  cnt (fun i2 (s1 : Unit) c3 _ => (if (p_impl_areAll_int_1 (x0.getD i2.toNat 0)) = true then i2 else c3 ())) (fun i2 (s1 : Unit) => (-1)) (Int.toNat ((x0.length : Int) - 0)) 0 ()
/-- slices.ContainsFunc[[]int,int] -/
def p_slices_ContainsFunc_int_int (x0 : (List Int)) : Bool :=
  (decide (0 ≤ (p_slices_IndexFunc_int_int x0)))
/-- loop.example/g01210/impl.areAll[int] -/
def p_impl_areAll_int (x0 : (List Int)) : Bool :=
  (!(p_slices_ContainsFunc_int_int x0))
/-- cmp.isNaN[int] -/
def p_cmp_isNaN_int (x0 : Int) : Bool :=
  (!(decide (x0 = x0)))
/-- cmp.Less[int] -/
def p_cmp_Less_int (x0 : Int) (x1 : Int) : Bool :=
  (((p_cmp_isNaN_int x0) && (!(p_cmp_isNaN_int x1))) || (decide (x0 < x1)))
/-- slices.IsSorted[[]int,int] -/
def p_slices_IsSorted_int_int (x0 : (List Int)) : Bool :=
  cntd (fun i2 (s1 : Unit) c3 _ => (if (p_cmp_Less_int (x0.getD i2.toNat 0) (x0.getD (i2 - 1).toNat 0)) = true then false else c3 ())) (fun i2 (s1 : Unit) => true) (Int.toNat (((x0.length : Int) - 1) - 0)) ((x0.length : Int) - 1) ()
/-- loop.example/g01210/impl.IsDie -/
def p_impl_IsDie (x0 : (List Int)) : Bool :=
  ((p_impl_areAll_int x0) && (p_slices_IsSorted_int_int x0))
/-- cmp.Compare[int] -/
def p_cmp_Compare_int (x0 : Int) (x1 : Int) : Int :=
  (if (p_cmp_isNaN_int x0) = true then (if (p_cmp_isNaN_int x1) = true then 0 else (-1)) else (if (p_cmp_isNaN_int x1) = true then 1 else (if x0 < x1 then (-1) else (if x1 < x0 then 1 else 0))))
/-- slices.Compare[[]int,int] -/
def p_slices_Compare_int_int (x0 : (List Int)) (x1 : (List Int)) : Int :=
  cnt (fun i2 (s1 : Unit) c3 _ => (if (x1.length : Int) ≤ i2 then 1 else (if (p_cmp_Compare_int (x0.getD i2.toNat 0) (x1.getD i2.toNat 0)) = 0 then c3 () else (p_cmp_Compare_int (x0.getD i2.toNat 0) (x1.getD i2.toNat 0))))) (fun i2 (s1 : Unit) => (if (x0.length : Int) < (x1.length : Int) then (-1) else 0)) (Int.toNat ((x0.length : Int) - 0)) 0 ()
/-- loop.example/g01210/impl.compareDice -/
def p_impl_compareDice (x0 : (List Int)) (x1 : (List Int)) : Int :=
  (p_slices_Compare_int_int x0 x1)
/-- loop.example/g01210/impl.IsPair -/
def p_impl_IsPair (x0 : ((List Int) × ((List Int) × Unit))) : Bool :=
  (((p_impl_IsDie x0.1) && (p_impl_IsDie x0.2.1)) && (decide ((p_impl_compareDice x0.1 x0.2.1) ≤ 0)))
/-- loop.example/g01210/impl.shifted -/
def p_impl_shifted (x0 : (List Int)) (x1 : Int) : (List Int) :=
  cnt (fun i2 (s1 : (List Int)) c3 _ => c3 (s1.set i2.toNat (IntKind.wrap .i64 ((s1.getD i2.toNat 0) + x1)))) (fun i2 (s1 : (List Int)) => s1) (Int.toNat (6 - 0)) 0 x0
/-- loop.example/g01210/impl.base -/
def p_impl_base (x0 : (List Int)) : (List Int) :=
  (p_impl_shifted x0 (IntKind.wrap .i64 (0 - (x0.getD 0 0))))
/-- loop.example/g01210/impl.pairOf -/
def p_impl_pairOf (x0 : (List Int)) (x1 : (List Int)) : ((List Int) × ((List Int) × Unit)) :=
  (if 0 < (p_impl_compareDice x0 x1) then (x1, (x0, ())) else (x0, (x1, ())))
/-- loop.example/g01210/impl.ShapeOf -/
def p_impl_ShapeOf (x0 : ((List Int) × ((List Int) × Unit))) : ((List Int) × ((List Int) × Unit)) × Bool :=
  (if (p_impl_IsPair (x0.1, (x0.2.1, ()))) = true then (((p_impl_pairOf (p_impl_base x0.1) (p_impl_base x0.2.1)).1, (((p_impl_pairOf (p_impl_base x0.1) (p_impl_base x0.2.1)).2).1, ())), true) else (((List.replicate 6 0), ((List.replicate 6 0), ())), false))
/-- loop.example/g01210/spec.l1In -/
def p_spec_l1In (x0 : Int) (x1 : Int) (x2 : Int) : Bool :=
  ((decide (x1 ≤ x0)) && (decide (x0 ≤ x2)))
/-- loop.example/g01210/spec.l2Die -/
def p_spec_l2Die (x0 : (List Int)) : Option (Bool) :=
  cnt (fun i2 (s1 : Unit) c3 _ => (if ((!(p_spec_l1In (x0.getD i2.toNat 0) 0 30)) || ((decide (0 < i2)) && (decide ((x0.getD i2.toNat 0) < (x0.getD (i2 - 1).toNat 0))))) = true then some false else c3 ())) (fun i2 (s1 : Unit) => some true) (Int.toNat (6 - 0)) 0 ()
/-- loop.example/g01210/spec.l5Good -/
def p_spec_l5Good (x0 : ((List Int) × ((List Int) × Unit))) : Option (Bool) :=
  (p_spec_l2Die x0.1).bind (fun r1 => if (r1 = true → (p_spec_l2Die x0.2.1).isSome = true) then some ((r1 && ((p_spec_l2Die x0.2.1).getD false)) && (!(p_spec_l2Before x0.2.1 x0.1))) else none)
/-- loop.example/g01210/spec.l5Base -/
def p_spec_l5Base (x0 : (List Int)) : (List Int) :=
  cnt (fun i2 (s1 : (List Int)) c3 _ => c3 (s1.set i2.toNat (IntKind.wrap .i64 ((x0.getD i2.toNat 0) - (x0.getD 0 0))))) (fun i2 (s1 : (List Int)) => s1) (Int.toNat (6 - 0)) 0 (List.replicate 6 0)
/-- loop.example/g01210/spec.ShapeOf -/
def p_spec_ShapeOf (x0 : ((List Int) × ((List Int) × Unit))) : Option (((List Int) × ((List Int) × Unit)) × Bool) :=
  (p_spec_l5Good (x0.1, (x0.2.1, ()))).bind (fun r1 => (if r1 = true then some (((p_spec_l5Pair (p_spec_l5Base x0.1) (p_spec_l5Base x0.2.1)).1, (((p_spec_l5Pair (p_spec_l5Base x0.1) (p_spec_l5Base x0.2.1)).2).1, ())), true) else some (((List.replicate 6 0), ((List.replicate 6 0), ())), false)))
/-- loop.example/g01210/impl.opposite -/
def p_impl_opposite (x0 : (List Int)) : (List Int) :=
  cnt (fun i2 (s1 : (List Int)) c3 _ => c3 (s1.set (5 - i2).toNat (IntKind.wrap .i64 ((IntKind.wrap .i64 ((x0.getD 0 0) + (x0.getD 5 0))) - (x0.getD i2.toNat 0))))) (fun i2 (s1 : (List Int)) => s1) (Int.toNat (6 - 0)) 0 (List.replicate 6 0)
/-- loop.example/g01210/impl.MirrorPair -/
def p_impl_MirrorPair (x0 : ((List Int) × ((List Int) × Unit))) : ((List Int) × ((List Int) × Unit)) × Bool :=
  (if (p_impl_IsPair (x0.1, (x0.2.1, ()))) = true then (((p_impl_pairOf (p_impl_opposite x0.1) (p_impl_opposite x0.2.1)).1, (((p_impl_pairOf (p_impl_opposite x0.1) (p_impl_opposite x0.2.1)).2).1, ())), true) else (((List.replicate 6 0), ((List.replicate 6 0), ())), false))
/-- loop.example/g01210/spec.OppositeDie -/
def p_spec_OppositeDie (x0 : (List Int)) : Option ((List Int) × Bool) :=
  (p_spec_l2Die x0).bind (fun r1 => (if r1 = true then cnt (fun i4 (s3 : (List Int)) c5 _ => c5 (s3.set i4.toNat (IntKind.wrap .i64 ((IntKind.wrap .i64 ((x0.getD 0 0) + (x0.getD 5 0))) - (x0.getD (5 - i4).toNat 0))))) (fun i4 (s3 : (List Int)) => some (s3, true)) (Int.toNat (6 - 0)) 0 (List.replicate 6 0) else some ((List.replicate 6 0), false)))
/-- loop.example/g01210/spec.MirrorPair -/
def p_spec_MirrorPair (x0 : ((List Int) × ((List Int) × Unit))) : Option (((List Int) × ((List Int) × Unit)) × Bool) :=
  (p_spec_l5Good (x0.1, (x0.2.1, ()))).bind (fun r1 => (if r1 = true then (p_spec_OppositeDie x0.1).bind (fun r3 => (p_spec_OppositeDie x0.2.1).bind (fun r4 => some (((p_spec_l5Pair r3.1 r4.1).1, (((p_spec_l5Pair r3.1 r4.1).2).1, ())), true))) else some (((List.replicate 6 0), ((List.replicate 6 0), ())), false)))
/-- loop.example/g01210/spec.DrawIsDie -/
def p_spec_DrawIsDie (x0 : (List Int)) : Option ((List Int)) :=
  (p_spec_l1Cur_die x0 0 0).bind (fun r1 => some r1.1)
/-- loop.example/g01210/spec.DrawBaseOf -/
def p_spec_DrawBaseOf (x0 : (List Int)) : Option ((List Int)) :=
  (p_spec_DrawIsDie x0).bind (fun r1 => some r1)
/-- loop.example/g01210/impl.BaseOf -/
def p_impl_BaseOf (x0 : (List Int)) : (List Int) × Bool :=
  (if (p_impl_IsDie x0) = true then ((p_impl_base x0), true) else ((List.replicate 6 0), false))
/-- loop.example/g01210/spec.BaseOf -/
def p_spec_BaseOf (x0 : (List Int)) : Option ((List Int) × Bool) :=
  (p_spec_l2Die x0).bind (fun r1 => (if r1 = true then some ((p_spec_l5Base x0), true) else some ((List.replicate 6 0), false)))
/-- (*loop.example/g01210/spec.l1Cur).beside -/
def p_spec_l1Cur_beside (x0 : (List Int)) (x1 : (List Int)) (x2 : Int) (x3 : Int) : Option ((List Int) × Int × Int) :=
  (p_spec_l1Cur_one 2 x1 x2 x3).bind (fun r1 => (if r1.1 = true then (p_spec_l1Cur_die x1 r1.2.1 r1.2.2).bind (fun r3 => some (r3.1, r3.2.1, r3.2.2)) else (p_spec_l1Cur_pick 6 x1 r1.2.1 r1.2.2).bind (fun r4 => if 0 ≤ r4.1 then if r4.1 < 6 then (p_spec_l1Cur_pick 3 x1 r4.2.1 r4.2.2).bind (fun r7 => some ((p_spec_l2Sorted (x0.set r4.1.toNat (IntKind.wrap .i64 ((IntKind.wrap .i64 ((x0.getD r4.1.toNat 0) + r7.1)) - 1)))), r7.2.1, r7.2.2)) else none else none)))
/-- loop.example/g01210/spec.DrawCompareDice -/
def p_spec_DrawCompareDice (x0 : (List Int)) : Option ((List Int) × (List Int)) :=
  (p_spec_l1Cur_die x0 0 0).bind (fun r1 => (p_spec_l1Cur_beside r1.1 x0 r1.2.1 r1.2.2).bind (fun r2 => some (r1.1, r2.1)))
/-- loop.example/g01210/spec.DrawPairOf -/
def p_spec_DrawPairOf (x0 : (List Int)) : Option ((List Int) × (List Int)) :=
  (p_spec_DrawCompareDice x0).bind (fun r1 => some (r1.1, r1.2))
/-- loop.example/g01210/impl.PairOf -/
def p_impl_PairOf (x0 : (List Int)) (x1 : (List Int)) : ((List Int) × ((List Int) × Unit)) × Bool :=
  (if ((!(p_impl_IsDie x0)) || (!(p_impl_IsDie x1))) = true then (((List.replicate 6 0), ((List.replicate 6 0), ())), false) else (((p_impl_pairOf x0 x1).1, (((p_impl_pairOf x0 x1).2).1, ())), true))
/-- loop.example/g01210/spec.PairOf -/
def p_spec_PairOf (x0 : (List Int)) (x1 : (List Int)) : Option (((List Int) × ((List Int) × Unit)) × Bool) :=
  (p_spec_l2Die x0).bind (fun r1 => if ((!(!r1)) = true → (p_spec_l2Die x1).isSome = true) then (if ((!r1) || (!((p_spec_l2Die x1).getD false))) = true then some (((List.replicate 6 0), ((List.replicate 6 0), ())), false) else some (((p_spec_l5Pair x0 x1).1, (((p_spec_l5Pair x0 x1).2).1, ())), true)) else none)
/-- loop.example/g01210/spec.l2Pool -/
def p_spec_l2Pool (x0 : (List (List Int))) : Option (Bool) :=
  cnt (fun i2 (s1 : Unit) c3 k16 => (if ((decide (i2 < (x0.length : Int))) && (decide (i2 ≤ 4))) = true then (p_spec_l2Die (x0.getD i2.toNat (List.replicate 6 0))).bind (fun r14 => (if r14 = true then c3 () else some false)) else k16 i2 s1)) (fun i2 (s1 : Unit) => some (p_spec_l1In (x0.length : Int) 1 4)) (Int.toNat ((x0.length : Int) - 0)) 0 ()
/-- loop.example/g01210/spec.DrawOneLike -/
def p_spec_DrawOneLike (fu : Nat) (x0 : (List Int)) : Option ((List (List Int))) :=
  (p_spec_l1Cur_pool fu x0 0 0).bind (fun r1 => (p_spec_l2Pool r1.1).bind (fun r3 => (if r3 = true then (p_spec_l1Cur_one 2 x0 r1.2.1 r1.2.2).bind (fun r5 => (if r5.1 = true then cnt (fun i8 (s7 : Int × Int × (List (List Int))) c9 _ => (p_spec_l1Cur_pick 9 x0 s7.1 s7.2.1).bind (fun r14 => c9 (r14.2.1, r14.2.2, (s7.2.2.set i8.toNat [r14.1, r14.1, r14.1, r14.1, r14.1, r14.1])))) (fun i8 (s7 : Int × Int × (List (List Int))) => some s7.2.2) (Int.toNat ((r1.1.length : Int) - 1)) 1 (r5.2.1, r5.2.2, r1.1) else some r1.1)) else some r1.1)))
/-- loop.example/g01210/impl.areAll[[6]int]$1 -/
def p_impl_areAll_6_int_1 (x0 : (List Int)) : Bool :=
  (!(p_impl_IsDie x0))
/-- slices.IndexFunc[[][6]int,[6]int] -/
def p_slices_IndexFunc_6_int_6_int (x0 : (List (List Int))) : Int :=
  cnt (fun i2 (s1 : Unit) c3 _ => (if (p_impl_areAll_6_int_1 (x0.getD i2.toNat (List.replicate 6 0))) = true then i2 else c3 ())) (fun i2 (s1 : Unit) => (-1)) (Int.toNat ((x0.length : Int) - 0)) 0 ()
/-- slices.ContainsFunc[[][6]int,[6]int] -/
def p_slices_ContainsFunc_6_int_6_int (x0 : (List (List Int))) : Bool :=
  (decide (0 ≤ (p_slices_IndexFunc_6_int_6_int x0)))
/-- loop.example/g01210/impl.areAll[[6]int] -/
def p_impl_areAll_6_int (x0 : (List (List Int))) : Bool :=
  (!(p_slices_ContainsFunc_6_int_6_int x0))
/-- loop.example/g01210/impl.IsPool -/
def p_impl_IsPool (x0 : (List (List Int))) : Bool :=
  ((p_impl_within (x0.length : Int) 1 4) && (p_impl_areAll_6_int x0))
/-- loop.example/g01210/impl.sums -/
def p_impl_sums (x0 : (List (List Int))) : Option ((List Int)) :=
  cnt (fun i2 (s1 : (List Int)) c3 _ => cnt (fun i9 (s8 : (List Int)) c10 _ => (if (s1.getD i9.toNat 0) = 0 then c10 s8 else cnt (fun i19 (s18 : (List Int)) c20 _ => if 0 ≤ (IntKind.wrap .i64 (i9 + ((x0.getD i2.toNat (List.replicate 6 0)).getD i19.toNat 0))) then if (IntKind.wrap .i64 (i9 + ((x0.getD i2.toNat (List.replicate 6 0)).getD i19.toNat 0))) < 121 then c20 (s18.set (IntKind.wrap .i64 (i9 + ((x0.getD i2.toNat (List.replicate 6 0)).getD i19.toNat 0))).toNat (IntKind.wrap .i64 ((s18.getD (IntKind.wrap .i64 (i9 + ((x0.getD i2.toNat (List.replicate 6 0)).getD i19.toNat 0))).toNat 0) + (s1.getD i9.toNat 0)))) else none else none) (fun i19 (s18 : (List Int)) => c10 s18) (Int.toNat (6 - 0)) 0 s8)) (fun i9 (s8 : (List Int)) => c3 s8) (Int.toNat (121 - 0)) 0 (List.replicate 121 0)) (fun i2 (s1 : (List Int)) => some s1) (Int.toNat ((x0.length : Int) - 0)) 0 ((List.replicate 121 0).set 0 1)
/-- loop.example/g01210/impl.power -/
def p_impl_power (fu : Nat) (x0 : Int) : Option (Int) :=
  whl (fun (s1 : Int × Int) c3 => (if s1.2 < x0 then c3 ((IntKind.wrap .i64 (s1.1 * 6)), (IntKind.wrap .i64 (s1.2 + 1))) else some s1.1)) fu (1, 0)
/-- loop.example/g01210/impl.die -/
def p_impl_die (fu : Nat) (x0 : (List Int)) : Option ((List Int)) :=
  cnt (fun i2 (s1 : Int × (List Int)) c3 _ => whl (fun (s8 : Int × Int × (List Int)) c10 => (if s8.2.1 < (x0.getD i2.toNat 0) then if s8.1 < 6 then c10 ((s8.1 + 1), (IntKind.wrap .i64 (s8.2.1 + 1)), (s8.2.2.set s8.1.toNat i2)) else none else c3 (s8.1, s8.2.2))) fu (s1.1, 0, s1.2)) (fun i2 (s1 : Int × (List Int)) => some s1.2) (Int.toNat (31 - 0)) 0 (0, (List.replicate 6 0))
/-- loop.example/g01210/impl.OneLike -/
def p_impl_OneLike (fu : Nat) (x0 : (List (List Int))) : Option ((List Int) × Bool) :=
  (if (p_impl_IsPool x0) = true then (p_impl_sums x0).bind (fun r2 => cnt (fun i4 (s3 : (List Int)) c5 _ => (if (r2.getD i4.toNat 0) = 0 then c5 s3 else if ((!(decide (30 < i4))) = true → (p_impl_power fu (x0.length : Int)).isSome = true) then if ((!(decide (30 < i4))) = true → ((p_impl_power fu (x0.length : Int)).getD 0) ≠ 0) then (if ((decide (30 < i4)) || (!(decide (((IntKind.wrap .i64 ((r2.getD i4.toNat 0) * 6)).tmod ((p_impl_power fu (x0.length : Int)).getD 0)) = 0)))) = true then some ((List.replicate 6 0), false) else (p_impl_power fu (x0.length : Int)).bind (fun r34 => if r34 ≠ 0 then c5 (s3.set i4.toNat (IntKind.wrap .i64 ((IntKind.wrap .i64 ((r2.getD i4.toNat 0) * 6)).tdiv r34))) else none)) else none else none)) (fun i4 (s3 : (List Int)) => (p_impl_die fu s3).bind (fun r36 => some (r36, true))) (Int.toNat (121 - 0)) 0 (List.replicate 31 0)) else some ((List.replicate 6 0), false))
/-- loop.example/g01210/spec.l2Table -/
def p_spec_l2Table (x0 : (List (List Int))) : Option ((List Int)) :=
  cnt (fun i2 (s1 : (List Int)) c3 _ => cnt (fun i9 (s8 : (List Int)) c10 _ => cnt (fun i16 (s15 : (List Int)) c17 _ => (if 0 < (s1.getD i9.toNat 0) then if 0 ≤ (IntKind.wrap .i64 (i9 + ((x0.getD i2.toNat (List.replicate 6 0)).getD i16.toNat 0))) then if (IntKind.wrap .i64 (i9 + ((x0.getD i2.toNat (List.replicate 6 0)).getD i16.toNat 0))) < 121 then c17 (s15.set (IntKind.wrap .i64 (i9 + ((x0.getD i2.toNat (List.replicate 6 0)).getD i16.toNat 0))).toNat (IntKind.wrap .i64 ((s15.getD (IntKind.wrap .i64 (i9 + ((x0.getD i2.toNat (List.replicate 6 0)).getD i16.toNat 0))).toNat 0) + (s1.getD i9.toNat 0)))) else none else none else c17 s15)) (fun i16 (s15 : (List Int)) => c10 s15) (Int.toNat (6 - 0)) 0 s8) (fun i9 (s8 : (List Int)) => c3 s8) (Int.toNat (121 - 0)) 0 (List.replicate 121 0)) (fun i2 (s1 : (List Int)) => some s1) (Int.toNat ((x0.length : Int) - 0)) 0 ((List.replicate 121 0).set 0 1)
/-- loop.example/g01210/spec.l2All -/
def p_spec_l2All (fu : Nat) (x0 : Int) : Option (Int) :=
  whl (fun (s1 : Int × Int) c3 => (if s1.2 < x0 then c3 ((IntKind.wrap .i64 (s1.1 * 6)), (IntKind.wrap .i64 (s1.2 + 1))) else some s1.1)) fu (1, 0)
/-- loop.example/g01210/spec.l5Array -/
def p_spec_l5Array (x0 : (List Int)) : Option ((List Int)) :=
  if 0 < (x0.length : Int) then if 1 < (x0.length : Int) then if 2 < (x0.length : Int) then if 3 < (x0.length : Int) then if 4 < (x0.length : Int) then if 5 < (x0.length : Int) then some [(x0.getD 0 0), (x0.getD 1 0), (x0.getD 2 0), (x0.getD 3 0), (x0.getD 4 0), (x0.getD 5 0)] else none else none else none else none else none else none
/-- loop.example/g01210/spec.OneLike -/
def p_spec_OneLike (fu : Nat) (x0 : (List (List Int))) : Option ((List Int) × Bool) :=
  (p_spec_l2Pool x0).bind (fun r1 => (if r1 = true then (p_spec_l2Table x0).bind (fun r3 => (p_spec_l2All fu (x0.length : Int)).bind (fun r4 => cnt (fun i6 (s5 : (List Int)) c7 _ => if (IntKind.wrap .i64 (r4.tdiv 6)) ≠ 0 then (if ((!(decide (((r3.getD i6.toNat 0).tmod (IntKind.wrap .i64 (r4.tdiv 6))) = 0))) || ((decide (0 < (r3.getD i6.toNat 0))) && (decide (30 < i6)))) = true then some ((List.replicate 6 0), false) else if (IntKind.wrap .i64 (r4.tdiv 6)) ≠ 0 then whl (fun (s40 : Int × (List Int)) c42 => (if 0 < s40.1 then if (s40.2.length : Int) + 1 ≤ 1000000000 then c42 ((IntKind.wrap .i64 (s40.1 - 1)), (s40.2 ++ [i6])) else none else c7 s40.2)) fu ((IntKind.wrap .i64 ((r3.getD i6.toNat 0).tdiv (IntKind.wrap .i64 (r4.tdiv 6)))), s5) else none) else none) (fun i6 (s5 : (List Int)) => (p_spec_l5Array s5).bind (fun r48 => some (r48, true))) (Int.toNat (121 - 0)) 0 [])) else some ((List.replicate 6 0), false)))
/-- loop.example/g01210/spec.DrawPairsLike -/
def p_spec_DrawPairsLike (fu : Nat) (x0 : (List Int)) : Option ((List (List Int))) :=
  (p_spec_l1Cur_two fu x0 0 0).bind (fun r1 => some r1.1)
/-- loop.example/g01210/spec.DrawIsSymmetric -/
def p_spec_DrawIsSymmetric (fu : Nat) (x0 : (List Int)) : Option ((List (List Int))) :=
  (p_spec_DrawPairsLike fu x0).bind (fun r1 => some r1)
/-- loop.example/g01210/impl.bounds -/
def p_impl_bounds (x0 : (List (List Int))) : Int × Int :=
  cnt (fun i2 (s1 : Int × Int) c3 _ => c3 ((IntKind.wrap .i64 (s1.1 + ((x0.getD i2.toNat (List.replicate 6 0)).getD 0 0))), (IntKind.wrap .i64 (s1.2 + ((x0.getD i2.toNat (List.replicate 6 0)).getD 5 0))))) (fun i2 (s1 : Int × Int) => (s1.1, s1.2)) (Int.toNat ((x0.length : Int) - 0)) 0 (0, 0)
/-- loop.example/g01210/impl.IsSymmetric -/
def p_impl_IsSymmetric (fu : Nat) (x0 : (List (List Int))) : Option (Bool × Bool) :=
  (if (p_impl_IsPool x0) = true then (p_impl_sums x0).bind (fun r2 => whl (fun (s3 : Int) c5 => (if s3 ≤ (p_impl_bounds x0).2 then if 0 ≤ s3 then if s3 < 121 then if 0 ≤ (IntKind.wrap .i64 ((IntKind.wrap .i64 ((p_impl_bounds x0).1 + ((p_impl_bounds x0).2))) - s3)) then if (IntKind.wrap .i64 ((IntKind.wrap .i64 ((p_impl_bounds x0).1 + ((p_impl_bounds x0).2))) - s3)) < 121 then (if (r2.getD s3.toNat 0) = (r2.getD (IntKind.wrap .i64 ((IntKind.wrap .i64 ((p_impl_bounds x0).1 + ((p_impl_bounds x0).2))) - s3)).toNat 0) then c5 (s3 + 1) else some (false, true)) else none else none else none else none else some (true, true))) fu ((p_impl_bounds x0).1)) else some (false, false))
/-- loop.example/g01210/spec.BoundsOf -/
def p_spec_BoundsOf (x0 : (List (List Int))) : Option (Int × Int × Bool) :=
  (p_spec_l2Pool x0).bind (fun r1 => (if r1 = true then cnt (fun i4 (s3 : Int × Int) c5 _ => c5 ((IntKind.wrap .i64 (s3.1 + ((x0.getD i4.toNat (List.replicate 6 0)).getD 0 0))), (IntKind.wrap .i64 (s3.2 + ((x0.getD i4.toNat (List.replicate 6 0)).getD 5 0))))) (fun i4 (s3 : Int × Int) => some (s3.1, s3.2, true)) (Int.toNat ((x0.length : Int) - 0)) 0 (0, 0) else some (0, 0, false)))
/-- loop.example/g01210/spec.IsSymmetric -/
def p_spec_IsSymmetric (fu : Nat) (x0 : (List (List Int))) : Option (Bool × Bool) :=
  (p_spec_BoundsOf x0).bind (fun r1 => (if r1.2.2 = true then (p_spec_l2Table x0).bind (fun r3 => whl (fun (s4 : Int) c6 => (if s4 ≤ r1.2.1 then if 0 ≤ s4 then if s4 < 121 then if 0 ≤ (IntKind.wrap .i64 ((IntKind.wrap .i64 (r1.1 + r1.2.1)) - s4)) then if (IntKind.wrap .i64 ((IntKind.wrap .i64 (r1.1 + r1.2.1)) - s4)) < 121 then (if (r3.getD s4.toNat 0) = (r3.getD (IntKind.wrap .i64 ((IntKind.wrap .i64 (r1.1 + r1.2.1)) - s4)).toNat 0) then c6 (s4 + 1) else some (false, true)) else none else none else none else none else some (true, true))) fu r1.1) else some (false, false)))
/-- loop.example/g01210/spec.DrawEvenChance -/
def p_spec_DrawEvenChance (fu : Nat) (x0 : (List Int)) : Option ((List (List Int))) :=
  (p_spec_l1Cur_pool fu x0 0 0).bind (fun r1 => some r1.1)
/-- loop.example/g01210/impl.fraction -/
def p_impl_fraction (fu : Nat) (x0 : Int) (x1 : Int) : Option ((List Int)) :=
  whl (fun (s1 : Int × Int) c3 => (if s1.2 = 0 then if s1.1 ≠ 0 then if s1.1 ≠ 0 then some [(IntKind.wrap .i64 (x0.tdiv s1.1)), (IntKind.wrap .i64 (x1.tdiv s1.1))] else none else none else if s1.2 ≠ 0 then c3 (s1.2, (s1.1.tmod s1.2)) else none)) fu (x0, x1)
/-- loop.example/g01210/impl.EvenChance -/
def p_impl_EvenChance (fu : Nat) (x0 : (List (List Int))) : Option ((List Int) × Bool) :=
  (if (p_impl_IsPool x0) = true then (p_impl_sums x0).bind (fun r2 => cnt (fun i4 (s3 : Int) c5 _ => (if (i4.tmod 2) = 0 then c5 (IntKind.wrap .i64 (s3 + (r2.getD i4.toNat 0))) else c5 s3)) (fun i4 (s3 : Int) => (p_impl_power fu (x0.length : Int)).bind (fun r13 => (p_impl_fraction fu s3 r13).bind (fun r14 => some (r14, true)))) (Int.toNat (121 - 0)) 0 0) else some ((List.replicate 2 0), false))
/-- loop.example/g01210/spec.l1Most -/
def p_spec_l1Most (x0 : Int) (x1 : Int) : Int :=
  (if x1 < x0 then x0 else x1)
/-- loop.example/g01210/spec.l2Cut -/
def p_spec_l2Cut (fu : Nat) (x0 : Int) (x1 : Int) : Option ((List Int)) :=
  whl (fun (s1 : Int × Int) c3 => (if 0 < s1.2 then c3 (s1.2, (s1.1.tmod s1.2)) else if (p_spec_l1Most s1.1 1) ≠ 0 then if (p_spec_l1Most s1.1 1) ≠ 0 then some [(IntKind.wrap .i64 (x0.tdiv (p_spec_l1Most s1.1 1))), (IntKind.wrap .i64 (x1.tdiv (p_spec_l1Most s1.1 1)))] else none else none)) fu (x0, x1)
/-- loop.example/g01210/spec.EvenChance -/
def p_spec_EvenChance (fu : Nat) (x0 : (List (List Int))) : Option ((List Int) × Bool) :=
  (p_spec_l2Pool x0).bind (fun r1 => (if r1 = true then (p_spec_l2Table x0).bind (fun r3 => whl (fun (s4 : Int × Int) c6 => (if s4.2 < 121 then c6 ((IntKind.wrap .i64 (s4.1 + (r3.getD s4.2.toNat 0))), (s4.2 + 2)) else (p_spec_l2All fu (x0.length : Int)).bind (fun r11 => (p_spec_l2Cut fu s4.1 r11).bind (fun r12 => some (r12, true))))) fu (0, 0)) else some ((List.replicate 2 0), false)))
/-- loop.example/g01210/impl.SameSums -/
def p_impl_SameSums (fu : Nat) (x0 : (List (List Int))) (x1 : (List (List Int))) : Option (Bool × Bool) :=
  (if ((!(p_impl_IsPool x0)) || (!(p_impl_IsPool x1))) = true then some (false, false) else (p_impl_sums x0).bind (fun r7 => (p_impl_sums x1).bind (fun r8 => cnt (fun i10 (s9 : Unit) c11 _ => (p_impl_power fu (x1.length : Int)).bind (fun r16 => (p_impl_power fu (x0.length : Int)).bind (fun r17 => (if (IntKind.wrap .i64 ((r7.getD i10.toNat 0) * r16)) = (IntKind.wrap .i64 ((r8.getD i10.toNat 0) * r17)) then c11 () else some (false, true))))) (fun i10 (s9 : Unit) => some (true, true)) (Int.toNat (121 - 0)) 0 ())))
/-- loop.example/g01210/impl.ChanceOfSum -/
def p_impl_ChanceOfSum (fu : Nat) (x0 : (List (List Int))) (x1 : Int) : Option ((List Int) × Bool) :=
  (if ((!(p_impl_IsPool x0)) || (!(p_impl_within x1 0 120))) = true then some ((List.replicate 2 0), false) else (p_impl_sums x0).bind (fun r7 => if 0 ≤ x1 then if x1 < 121 then (p_impl_power fu (x0.length : Int)).bind (fun r10 => (p_impl_fraction fu (r7.getD x1.toNat 0) r10).bind (fun r11 => some (r11, true))) else none else none))
/-- loop.example/g01210/laws.rPlus -/
def p_laws_rPlus (fu : Nat) (x0 : (List Int)) (x1 : (List Int)) : Option ((List Int)) :=
  whl (fun (s1 : Int × Int) c3 => (if 0 < s1.2 then c3 (s1.2, (s1.1.tmod s1.2)) else jn (fun (s8 : Int) => if s8 ≠ 0 then if s8 ≠ 0 then some [(IntKind.wrap .i64 ((IntKind.wrap .i64 ((IntKind.wrap .i64 ((x0.getD 0 0) * (x1.getD 1 0))) + (IntKind.wrap .i64 ((x1.getD 0 0) * (x0.getD 1 0))))).tdiv s8)), (IntKind.wrap .i64 ((IntKind.wrap .i64 ((x0.getD 1 0) * (x1.getD 1 0))).tdiv s8))] else none else none) (fun k9 => (if s1.1 < 1 then k9 1 else k9 s1.1)))) fu ((IntKind.wrap .i64 ((IntKind.wrap .i64 ((x0.getD 0 0) * (x1.getD 1 0))) + (IntKind.wrap .i64 ((x1.getD 0 0) * (x0.getD 1 0))))), (IntKind.wrap .i64 ((x0.getD 1 0) * (x1.getD 1 0))))
/-- loop.example/g01210/impl.total -/
def p_impl_total (x0 : (List Int)) : Int :=
  cnt (fun i2 (s1 : Int) c3 _ => c3 (IntKind.wrap .i64 (s1 + (x0.getD i2.toNat 0)))) (fun i2 (s1 : Int) => s1) (Int.toNat ((x0.length : Int) - 0)) 0 0
/-- loop.example/g01210/impl.SpreadOf -/
def p_impl_SpreadOf (fu : Nat) (x0 : (List (List Int))) : Option ((List Int) × Bool) :=
  (if (p_impl_IsPool x0) = true then cnt (fun i3 (s2 : Int) c4 _ => cnt (fun i10 (s9 : Int) c11 _ => c11 (IntKind.wrap .i64 (s9 + (IntKind.wrap .i64 (((x0.getD i3.toNat (List.replicate 6 0)).getD i10.toNat 0) * ((x0.getD i3.toNat (List.replicate 6 0)).getD i10.toNat 0)))))) (fun i10 (s9 : Int) => c4 (IntKind.wrap .i64 (s2 + (IntKind.wrap .i64 ((IntKind.wrap .i64 (6 * s9)) - (IntKind.wrap .i64 ((p_impl_total (x0.getD i3.toNat (List.replicate 6 0))) * (p_impl_total (x0.getD i3.toNat (List.replicate 6 0)))))))))) (Int.toNat (6 - 0)) 0 0) (fun i3 (s2 : Int) => (p_impl_fraction fu s2 36).bind (fun r16 => some (r16, true))) (Int.toNat ((x0.length : Int) - 0)) 0 0 else some ((List.replicate 2 0), false))
/-- loop.example/g01210/laws.FnPairForms -/
def p_laws_FnPairForms (fu : Nat) (x0 : (List Int)) : Option (Bool) :=
  (if (p_laws_rBig x0) = true then some true else (p_spec_DrawShapeOf fu x0).bind (fun r2 => (p_spec_ShapeOf (r2.1, (r2.2.1, ()))).bind (fun r3 => (if (((!(eqT (.pair (.arr 6 (.int .i64)) (.pair (.arr 6 (.int .i64)) .unit)) ((((p_impl_ShapeOf (r2.1, (r2.2.1, ()))).1).1, ((((p_impl_ShapeOf (r2.1, (r2.2.1, ()))).1).2).1, ())) : ((List Int) × ((List Int) × Unit))) ((r3.1.1, (r3.1.2.1, ())) : ((List Int) × ((List Int) × Unit))))) || (((p_impl_ShapeOf (r2.1, (r2.2.1, ()))).2) != r3.2)) || (((p_impl_ShapeOf (r2.1, (r2.2.1, ()))).2) != (p_impl_IsPair (r2.1, (r2.2.1, ()))))) = true then some false else (p_spec_MirrorPair (r2.1, (r2.2.1, ()))).bind (fun r24 => (if (((!(eqT (.pair (.arr 6 (.int .i64)) (.pair (.arr 6 (.int .i64)) .unit)) ((((p_impl_MirrorPair (r2.1, (r2.2.1, ()))).1).1, ((((p_impl_MirrorPair (r2.1, (r2.2.1, ()))).1).2).1, ())) : ((List Int) × ((List Int) × Unit))) ((r24.1.1, (r24.1.2.1, ())) : ((List Int) × ((List Int) × Unit))))) || (((p_impl_MirrorPair (r2.1, (r2.2.1, ()))).2) != r24.2)) || (((p_impl_MirrorPair (r2.1, (r2.2.1, ()))).2) != ((p_impl_ShapeOf (r2.1, (r2.2.1, ()))).2))) = true then some false else (p_spec_DrawBaseOf x0).bind (fun r42 => (p_spec_BaseOf r42).bind (fun r43 => (if ((!(decide ((p_impl_BaseOf r42).1 = r43.1))) || (((p_impl_BaseOf r42).2) != r43.2)) = true then some false else (p_spec_DrawPairOf x0).bind (fun r50 => (p_spec_PairOf r50.1 r50.2).bind (fun r51 => (if ((((!(eqT (.pair (.arr 6 (.int .i64)) (.pair (.arr 6 (.int .i64)) .unit)) ((((p_impl_PairOf r50.1 r50.2).1).1, ((((p_impl_PairOf r50.1 r50.2).1).2).1, ())) : ((List Int) × ((List Int) × Unit))) ((r51.1.1, (r51.1.2.1, ())) : ((List Int) × ((List Int) × Unit))))) || (((p_impl_PairOf r50.1 r50.2).2) != r51.2)) || (((p_impl_PairOf r50.1 r50.2).2) != ((p_impl_IsDie r50.1) && (p_impl_IsDie r50.2)))) || (!(p_impl_IsPair (((p_impl_PairOf r50.1 r50.2).1).1, ((((p_impl_PairOf r50.1 r50.2).1).2).1, ()))))) = true then some false else (p_spec_DrawOneLike fu x0).bind (fun r105 => (p_impl_OneLike fu r105).bind (fun r107 => (p_spec_OneLike fu r105).bind (fun r108 => (if ((!(decide (r107.1 = r108.1))) || (r107.2 != r108.2)) = true then some false else (p_spec_DrawIsSymmetric fu x0).bind (fun r115 => (p_impl_IsSymmetric fu r115).bind (fun r117 => (p_spec_IsSymmetric fu r115).bind (fun r118 => (if (((r117.1 != r118.1) || (r117.2 != r118.2)) || (r117.2 != (p_impl_IsPool r115))) = true then some false else (p_spec_DrawEvenChance fu x0).bind (fun r139 => (p_impl_EvenChance fu r139).bind (fun r141 => (p_spec_EvenChance fu r139).bind (fun r142 => (if ((!(decide (r141.1 = r142.1))) || (r141.2 != r142.2)) = true then some false else jn (fun (s149 : Unit) => jn (fun (s152 : Unit) => (if ((p_impl_ShapeOf (r2.1, (r2.2.1, ()))).2) = true then (p_impl_SpreadOf fu [r2.1, r2.2.1]).bind (fun r156 => (p_impl_SpreadOf fu [((p_impl_MirrorPair (r2.1, (r2.2.1, ()))).1).1, (((p_impl_MirrorPair (r2.1, (r2.2.1, ()))).1).2).1]).bind (fun r157 => (p_impl_SpreadOf fu [((p_impl_ShapeOf (r2.1, (r2.2.1, ()))).1).1, (((p_impl_ShapeOf (r2.1, (r2.2.1, ()))).1).2).1]).bind (fun r158 => some (((((((r156.2 && r157.2) && r158.2) && ((p_impl_MirrorPair (((p_impl_MirrorPair (r2.1, (r2.2.1, ()))).1).1, ((((p_impl_MirrorPair (r2.1, (r2.2.1, ()))).1).2).1, ()))).2)) && (decide (r156.1 = r157.1))) && (decide (r156.1 = r158.1))) && (eqT (.pair (.arr 6 (.int .i64)) (.pair (.arr 6 (.int .i64)) .unit)) ((((p_impl_MirrorPair (((p_impl_MirrorPair (r2.1, (r2.2.1, ()))).1).1, ((((p_impl_MirrorPair (r2.1, (r2.2.1, ()))).1).2).1, ()))).1).1, ((((p_impl_MirrorPair (((p_impl_MirrorPair (r2.1, (r2.2.1, ()))).1).1, ((((p_impl_MirrorPair (r2.1, (r2.2.1, ()))).1).2).1, ()))).1).2).1, ())) : ((List Int) × ((List Int) × Unit))) ((r2.1, (r2.2.1, ())) : ((List Int) × ((List Int) × Unit))))) && (decide (((((p_impl_ShapeOf (r2.1, (r2.2.1, ()))).1).1).getD 0 0) = 0)))))) else some true)) (fun k153 => (if r141.2 = true then whl (fun (s302 : Int × (List Int)) c304 => (if s302.1 ≤ 120 then (p_impl_ChanceOfSum fu r139 s302.1).bind (fun r309 => (if r309.2 = true then (p_laws_rPlus fu s302.2 r309.1).bind (fun r311 => c304 ((s302.1 + 2), r311)) else some false)) else (if s302.2 = r141.1 then k153 () else some false))) fu (0, [0, 1]) else k153 ()))) (fun k150 => (if r107.2 = true then (p_impl_SameSums fu [r107.1] r105).bind (fun r314 => (if ((!r314.2) || (!r314.1)) = true then some false else k150 ())) else k150 ()))))))))))))))))))))))))))
end Go.GA
