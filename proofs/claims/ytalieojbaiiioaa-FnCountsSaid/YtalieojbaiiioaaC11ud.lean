/- Walks: what the Go functions compute, by the printed lines below; no further conditions. -/
import Derived.Test.YtalieojbaiiioaaGaD
namespace Go.GA
open Go
set_option maxRecDepth 100000
set_option maxHeartbeats 2000000
set_option linter.unusedVariables false
set_option linter.unusedSimpArgs false
/-- loop.example/g01210/laws.vBig -/
def p_laws_vBig (x0 : (List Int)) : Bool :=
  (decide (65536 < (x0.length : Int)))
/-- (*loop.example/g01210/spec.l1Cur).next -/
def p_spec_l1Cur_next (x0 : (List Int)) (x1 : Int) (x2 : Int) : Option (Int × Int × Int) :=
  jn (fun (s1 : Int) => (if (IntKind.wrap .i64 (x1 + 1)) ≤ (x0.length : Int) then some (s1, (IntKind.wrap .i64 (x1 + 1)), (IntKind.wrap .u64 ((IntKind.wrap .u64 ((IntKind.wrap .u64 (x2 * 6364136223846793005)) + (IntKind.wrap .u64 s1))) + 462197))) else some ((IntKind.wrap .i64 (andI .u64 (shrI .u64 (IntKind.wrap .u64 ((IntKind.wrap .u64 ((IntKind.wrap .u64 (x2 * 6364136223846793005)) + (IntKind.wrap .u64 s1))) + 462197)) 40) 255)), (IntKind.wrap .i64 (x1 + 1)), (IntKind.wrap .u64 ((IntKind.wrap .u64 ((IntKind.wrap .u64 (x2 * 6364136223846793005)) + (IntKind.wrap .u64 s1))) + 462197))))) (fun k2 => (if x1 < (x0.length : Int) then if 0 ≤ x1 then k2 (IntKind.wrap .i64 (x0.getD x1.toNat 0)) else none else k2 0))
/-- (*loop.example/g01210/spec.l1Cur).pick -/
def p_spec_l1Cur_pick (x0 : Int) (x1 : (List Int)) (x2 : Int) (x3 : Int) : Option (Int × Int × Int) :=
  (if x0 ≤ 1 then some (0, x2, x3) else (p_spec_l1Cur_next x1 x2 x3).bind (fun r4 => (if 200 < x0 then (p_spec_l1Cur_next x1 r4.2.1 r4.2.2).bind (fun r8 => some (((IntKind.wrap .i64 ((IntKind.wrap .i64 (r4.1 * 256)) + r8.1)).tmod x0), r8.2.1, r8.2.2)) else some ((r4.1.tmod x0), r4.2.1, r4.2.2))))
/-- (*loop.example/g01210/spec.l1Cur).among -/
def p_spec_l1Cur_among (x0 : (List Int)) (x1 : (List Int)) (x2 : Int) (x3 : Int) : Option (Int × Int × Int) :=
  (p_spec_l1Cur_pick (x0.length : Int) x1 x2 x3).bind (fun r1 => if 0 ≤ r1.1 then if r1.1 < (x0.length : Int) then some ((x0.getD r1.1.toNat 0), r1.2.1, r1.2.2) else none else none)
/-- (*loop.example/g01210/spec.l1Cur).face -/
def p_spec_l1Cur_face (x0 : (List Int)) (x1 : Int) (x2 : Int) : Option (Int × Int × Int) :=
  (p_spec_l1Cur_among [1, 2, 3, 4, 5, 6, 6, 0, 8, 9, 4, 3, 30, 12] x0 x1 x2).bind (fun r1 => some (r1.1, r1.2.1, r1.2.2))
/-- (*loop.example/g01210/spec.l1Cur).one -/
def p_spec_l1Cur_one (x0 : Int) (x1 : (List Int)) (x2 : Int) (x3 : Int) : Option (Bool × Int × Int) :=
  (p_spec_l1Cur_pick x0 x1 x2 x3).bind (fun r1 => some ((decide (r1.1 = 0)), r1.2.1, r1.2.2))
/-- loop.example/g01210/spec.l2Sorted -/
def p_spec_l2Sorted (x0 : (List Int)) : (List Int) :=
  cnt (fun i2 (s1 : (List Int)) c3 _ => cnt (fun i9 (s8 : (List Int)) c10 _ => (if (s8.getD (i9 + 1).toNat 0) < (s8.getD i9.toNat 0) then c10 ((s8.set i9.toNat (s8.getD (i9 + 1).toNat 0)).set (i9 + 1).toNat (s8.getD i9.toNat 0)) else c10 s8)) (fun i9 (s8 : (List Int)) => c3 s8) (Int.toNat (5 - 0)) 0 s1) (fun i2 (s1 : (List Int)) => s1) (Int.toNat (6 - 0)) 0 x0
/-- (*loop.example/g01210/spec.l1Cur).die -/
def p_spec_l1Cur_die (x0 : (List Int)) (x1 : Int) (x2 : Int) : Option ((List Int) × Int × Int) :=
  jn (fun (s1 : Int × Int × (List Int)) => (p_spec_l1Cur_pick 50 x0 s1.1 s1.2.1).bind (fun r4 => (if r4.1 = 0 then (p_spec_l1Cur_pick 6 x0 r4.2.1 r4.2.2).bind (fun r8 => (p_spec_l1Cur_among [(-1), 31, 0, 4611686018427387904] x0 r8.2.1 r8.2.2).bind (fun r9 => if 0 ≤ r8.1 then if r8.1 < 6 then some (((p_spec_l2Sorted s1.2.2).set r8.1.toNat r9.1), r9.2.1, r9.2.2) else none else none)) else (if r4.1 = 1 then some (((p_spec_l2Sorted s1.2.2).set 0 30), r4.2.1, r4.2.2) else some ((p_spec_l2Sorted s1.2.2), r4.2.1, r4.2.2))))) (fun k2 => (p_spec_l1Cur_pick 6 x0 x1 x2).bind (fun r15 => (if r15.1 = 0 then some ([1, 2, 3, 4, 5, 6], r15.2.1, r15.2.2) else (if r15.1 = 1 then k2 (r15.2.1, r15.2.2, [1, 2, 2, 3, 3, 4]) else (if r15.1 = 2 then (p_spec_l1Cur_face x0 r15.2.1 r15.2.2).bind (fun r25 => (p_spec_l1Cur_face x0 r25.2.1 r25.2.2).bind (fun r26 => cnt (fun i28 (s27 : Int × Int × (List Int)) c29 _ => (p_spec_l1Cur_one 3 x0 s27.1 s27.2.1).bind (fun r34 => (if r34.1 = true then c29 (r34.2.1, r34.2.2, ((s27.2.2.set i28.toNat r25.1).set i28.toNat r26.1)) else c29 (r34.2.1, r34.2.2, (s27.2.2.set i28.toNat r25.1))))) (fun i28 (s27 : Int × Int × (List Int)) => k2 (s27.1, s27.2.1, s27.2.2)) (Int.toNat (6 - 0)) 0 (r26.2.1, r26.2.2, [1, 2, 3, 4, 5, 6]))) else cnt (fun i37 (s36 : Int × Int × (List Int)) c38 _ => (p_spec_l1Cur_face x0 s36.1 s36.2.1).bind (fun r43 => c38 (r43.2.1, r43.2.2, (s36.2.2.set i37.toNat r43.1)))) (fun i37 (s36 : Int × Int × (List Int)) => k2 (s36.1, s36.2.1, s36.2.2)) (Int.toNat (6 - 0)) 0 (r15.2.1, r15.2.2, [1, 2, 3, 4, 5, 6]))))))
/-- loop.example/g01210/spec.l1Put -/
def p_spec_l1Put (x0 : (List Int)) (x1 : Int) : Option ((List Int)) :=
  cnt (fun i2 (s1 : Unit) c3 k42 => (if ((decide (i2 < (x0.length : Int))) && (decide ((x0.getD i2.toNat 0) < x1))) = true then c3 () else k42 i2 s1)) (fun i2 (s1 : Unit) => (if ((decide (i2 < (x0.length : Int))) && (decide ((x0.getD i2.toNat 0) = x1))) = true then some x0 else if 0 + (i2 - 0) ≤ 1000000000 then if (0 + (i2 - 0)) + 1 ≤ 1000000000 then if ((0 + (i2 - 0)) + 1) + ((x0.length : Int) - i2) ≤ 1000000000 then some ((([] ++ ((x0.drop 0).take (i2 - 0).toNat)) ++ [x1]) ++ ((x0.drop i2.toNat).take ((x0.length : Int) - i2).toNat)) else none else none else none)) (Int.toNat ((x0.length : Int) - 0)) 0 ()
/-- loop.example/g01210/spec.l8Numbers -/
def p_spec_l8Numbers (x0 : (List Int)) : Option ((List Int)) :=
  cnt (fun i2 (s1 : (List Int)) c3 _ => (p_spec_l1Put s1 (x0.getD i2.toNat 0)).bind (fun r8 => c3 r8)) (fun i2 (s1 : (List Int)) => some s1) (Int.toNat (6 - 0)) 0 []
/-- (*loop.example/g01210/spec.l1Cur).counts11 -/
def p_spec_l1Cur_counts11 (fu : Nat) (x0 : (List Int)) (x1 : Int) (x2 : (List Int)) (x3 : Int) (x4 : Int) : Option ((List Int) × Int × Int) :=
  (p_spec_l8Numbers x0).bind (fun r1 => if (r1.length : Int) ≤ 1000000000 then (p_spec_l1Cur_among [3, 5, 2, 6, 1, 0, x1] x2 x3 x4).bind (fun r4 => whl (fun (s5 : Int × Int × Int × (List Int)) c7 => (if 0 < s5.1 then (p_spec_l1Cur_pick (r1.length : Int) x2 s5.2.1 s5.2.2.1).bind (fun r12 => if 0 ≤ r12.1 then if r12.1 < (r1.length : Int) then c7 ((IntKind.wrap .i64 (s5.1 - 1)), r12.2.1, r12.2.2, (s5.2.2.2.set r12.1.toNat (IntKind.wrap .i64 ((s5.2.2.2.getD r12.1.toNat 0) + 1)))) else none else none) else (p_spec_l1Cur_pick 40 x2 s5.2.1 s5.2.2.1).bind (fun r15 => (if r15.1 = 0 then (p_spec_l1Cur_among [(-1), 13, 4611686018427387904] x2 r15.2.1 r15.2.2).bind (fun r19 => if 0 < (r1.length : Int) then some ((s5.2.2.2.set 0 r19.1), r19.2.1, r19.2.2) else none) else (if r15.1 = 1 then if (r1.length : Int) + 1 ≤ 1000000000 then some ((s5.2.2.2 ++ [0]), r15.2.1, r15.2.2) else none else (if r15.1 = 2 then if 0 < (r1.length : Int) then some ((s5.2.2.2.set 0 (IntKind.wrap .i64 ((s5.2.2.2.getD 0 0) + 12))), r15.2.1, r15.2.2) else none else some (s5.2.2.2, r15.2.1, r15.2.2))))))) fu (r4.1, r4.2.1, r4.2.2, (List.replicate (r1.length : Int).toNat 0))) else none)
/-- loop.example/g01210/spec.DrawLikelihoodOf -/
def p_spec_DrawLikelihoodOf (fu : Nat) (x0 : (List Int)) : Option ((List Int) × (List Int)) :=
  (p_spec_l1Cur_die x0 0 0).bind (fun r1 => (p_spec_l1Cur_counts11 fu r1.1 12 x0 r1.2.1 r1.2.2).bind (fun r2 => some (r1.1, r2.1)))
/-- loop.example/g01210/spec.DrawChanceOfCounts -/
def p_spec_DrawChanceOfCounts (fu : Nat) (x0 : (List Int)) : Option ((List Int) × (List Int)) :=
  (p_spec_DrawLikelihoodOf fu x0).bind (fun r1 => some (r1.1, r1.2))
/-- loop.example/g01210/impl.within -/
def p_impl_within (x0 : Int) (x1 : Int) (x2 : Int) : Bool :=
  ((decide (x1 ≤ x0)) && (decide (x0 ≤ x2)))
/-- loop.example/g01210/impl.isFace -/
def p_impl_isFace (x0 : Int) : Bool :=
  (p_impl_within x0 0 30)
/-- loop.example/g01210/impl.areAll[int]$1 -/
def p_impl_areAll_int_1 (x0 : Int) : Bool :=
  (!(p_impl_isFace x0))
/-- slices.IndexFunc[[]int,int] -/
def p_slices_IndexFunc_int_int (x0 : (List Int)) : Int :=
  cnt (fun i2 (s1 : Unit) c3 _ => (if (p_impl_areAll_int_1 (x0.getD i2.toNat 0)) = true then i2 else c3 ())) (fun i2 (s1 : Unit) => (-1)) (Int.toNat ((x0.length : Int) - 0)) 0 ()
/-- slices.ContainsFunc[[]int,int] -/
def p_slices_ContainsFunc_int_int (x0 : (List Int)) : Bool :=
  (decide (0 ≤ (p_slices_IndexFunc_int_int x0)))
/-- loop.example/g01210/impl.areAll[int] -/
def p_impl_areAll_int (x0 : (List Int)) : Bool :=
  (!(p_slices_ContainsFunc_int_int x0))
/-- cmp.isNaN[int] -/
def p_cmp_isNaN_int (x0 : Int) : Bool :=
  (!(decide (x0 = x0)))
/-- cmp.Less[int] -/
def p_cmp_Less_int (x0 : Int) (x1 : Int) : Bool :=
  (((p_cmp_isNaN_int x0) && (!(p_cmp_isNaN_int x1))) || (decide (x0 < x1)))
/-- slices.IsSorted[[]int,int] -/
def p_slices_IsSorted_int_int (x0 : (List Int)) : Bool :=
  cntd (fun i2 (s1 : Unit) c3 _ => (if (p_cmp_Less_int (x0.getD i2.toNat 0) (x0.getD (i2 - 1).toNat 0)) = true then false else c3 ())) (fun i2 (s1 : Unit) => true) (Int.toNat (((x0.length : Int) - 1) - 0)) ((x0.length : Int) - 1) ()
/-- loop.example/g01210/impl.IsDie -/
def p_impl_IsDie (x0 : (List Int)) : Bool :=
  ((p_impl_areAll_int x0) && (p_slices_IsSorted_int_int x0))
/-- slices.Clone[[]int,int] -/
def p_slices_Clone_int_int (x0 : (List Int)) : Option ((List Int)) :=
  if 0 + (x0.length : Int) ≤ 1000000000 then some ([] ++ x0) else none
/-- slices.Compact[[]int,int] -/
def p_slices_Compact_int_int (x0 : (List Int)) : Option ((List Int)) :=
  (if (x0.length : Int) < 2 then some x0 else cnt (fun i5 (s4 : Unit) c6 _ => (if (x0.getD i5.toNat 0) = (x0.getD (i5 - 1).toNat 0) then cnt (fun i15 (s14 : Int × (List Int)) c16 _ => (if (s14.2.getD (i5.toNat + i15.toNat) 0) = (s14.2.getD (i5.toNat + (i15 - 1).toNat) 0) then c16 (s14.1, s14.2) else if s14.1 < (x0.length : Int) then c16 ((s14.1 + 1), (s14.2.set s14.1.toNat (s14.2.getD (i5.toNat + i15.toNat) 0))) else none)) (fun i15 (s14 : Int × (List Int)) => if s14.1 ≤ (x0.length : Int) then some ((s14.2.take s14.1.toNat ++ (List.replicate ((s14.2.length : Int) - s14.1).toNat 0 ++ s14.2.drop (s14.1.toNat + ((s14.2.length : Int) - s14.1).toNat))).take s14.1.toNat) else none) (Int.toNat (((((x0.length : Int) - i5).toNat : Nat) : Int) - 1)) 1 (i5, x0) else c6 ())) (fun i5 (s4 : Unit) => some x0) (Int.toNat ((x0.length : Int) - 1)) 1 ())
/-- loop.example/g01210/impl.numbers -/
def p_impl_numbers (x0 : (List Int)) : Option ((List Int)) :=
  (p_slices_Clone_int_int x0).bind (fun r1 => (p_slices_Compact_int_int r1).bind (fun r3 => some r3))
/-- loop.example/g01210/impl.areCounts$1 -/
def p_impl_areCounts_1 (x0 : Int) : Bool :=
  (p_impl_within x0 0 12)
/-- loop.example/g01210/impl.areAll[int]$1 -/
def p_impl_areAll_int_1v1 (x0 : Int) : Bool :=
  (!(p_impl_areCounts_1 x0))
/-- slices.IndexFunc[[]int,int] -/
def p_slices_IndexFunc_int_intv1 (x0 : (List Int)) : Int :=
  cnt (fun i2 (s1 : Unit) c3 _ => (if (p_impl_areAll_int_1v1 (x0.getD i2.toNat 0)) = true then i2 else c3 ())) (fun i2 (s1 : Unit) => (-1)) (Int.toNat ((x0.length : Int) - 0)) 0 ()
/-- slices.ContainsFunc[[]int,int] -/
def p_slices_ContainsFunc_int_intv1 (x0 : (List Int)) : Bool :=
  (decide (0 ≤ (p_slices_IndexFunc_int_intv1 x0)))
/-- loop.example/g01210/impl.areAll[int] -/
def p_impl_areAll_intv1 (x0 : (List Int)) : Bool :=
  (!(p_slices_ContainsFunc_int_intv1 x0))
/-- loop.example/g01210/impl.total -/
def p_impl_total (x0 : (List Int)) : Int :=
  cnt (fun i2 (s1 : Int) c3 _ => c3 (IntKind.wrap .i64 (s1 + (x0.getD i2.toNat 0)))) (fun i2 (s1 : Int) => s1) (Int.toNat ((x0.length : Int) - 0)) 0 0
/-- loop.example/g01210/impl.areCounts -/
def p_impl_areCounts (x0 : (List Int)) (x1 : (List Int)) : Option (Bool) :=
  (if (p_impl_IsDie x0) = true then (p_impl_numbers x0).bind (fun r2 => (if (x1.length : Int) = (r2.length : Int) then (if (p_impl_areAll_intv1 x1) = true then some (decide ((p_impl_total x1) ≤ 12)) else some false) else some false)) else some false)
/-- loop.example/g01210/impl.truth -/
def p_impl_truth (x0 : Bool) : Int :=
  (if x0 = true then 1 else 0)
/-- loop.example/g01210/impl.weight -/
def p_impl_weight (x0 : (List Int)) (x1 : Int) : Int :=
  cnt (fun i2 (s1 : Int) c3 _ => c3 (IntKind.wrap .i64 (s1 + (p_impl_truth (decide ((x0.getD i2.toNat 0) = x1)))))) (fun i2 (s1 : Int) => s1) (Int.toNat (6 - 0)) 0 0
/-- loop.example/g01210/impl.raised -/
def p_impl_raised (fu : Nat) (x0 : Int) (x1 : Int) : Option (Int) :=
  whl (fun (s1 : Int × Int) c3 => (if s1.2 < x1 then c3 ((IntKind.wrap .i64 (s1.1 * x0)), (IntKind.wrap .i64 (s1.2 + 1))) else some s1.1)) fu (1, 0)
/-- loop.example/g01210/impl.likelihood -/
def p_impl_likelihood (fu : Nat) (x0 : (List Int)) (x1 : (List Int)) : Option (Int) :=
  (p_impl_numbers x0).bind (fun r1 => cnt (fun i4 (s3 : Int) c5 _ => if i4 < (x1.length : Int) then (p_impl_raised fu (p_impl_weight x0 (r1.getD i4.toNat 0)) (x1.getD i4.toNat 0)).bind (fun r11 => c5 (IntKind.wrap .i64 (s3 * r11))) else none) (fun i4 (s3 : Int) => some s3) (Int.toNat ((r1.length : Int) - 0)) 0 1)
/-- loop.example/g01210/impl.power -/
def p_impl_power (fu : Nat) (x0 : Int) : Option (Int) :=
  whl (fun (s1 : Int × Int) c3 => (if s1.2 < x0 then c3 ((IntKind.wrap .i64 (s1.1 * 6)), (IntKind.wrap .i64 (s1.2 + 1))) else some s1.1)) fu (1, 0)
/-- loop.example/g01210/impl.fraction -/
def p_impl_fraction (fu : Nat) (x0 : Int) (x1 : Int) : Option ((List Int)) :=
  whl (fun (s1 : Int × Int) c3 => (if s1.2 = 0 then if s1.1 ≠ 0 then if s1.1 ≠ 0 then some [(IntKind.wrap .i64 (x0.tdiv s1.1)), (IntKind.wrap .i64 (x1.tdiv s1.1))] else none else none else if s1.2 ≠ 0 then c3 (s1.2, (s1.1.tmod s1.2)) else none)) fu (x0, x1)
/-- loop.example/g01210/impl.LikelihoodOf -/
def p_impl_LikelihoodOf (fu : Nat) (x0 : (List Int)) (x1 : (List Int)) : Option ((List Int) × Bool) :=
  (p_impl_areCounts x0 x1).bind (fun r1 => (if r1 = true then (p_impl_likelihood fu x0 x1).bind (fun r3 => (p_impl_power fu (p_impl_total x1)).bind (fun r4 => (p_impl_fraction fu r3 r4).bind (fun r5 => some (r5, true)))) else some ((List.replicate 2 0), false)))
/-- loop.example/g01210/spec.l1In -/
def p_spec_l1In (x0 : Int) (x1 : Int) (x2 : Int) : Bool :=
  ((decide (x1 ≤ x0)) && (decide (x0 ≤ x2)))
/-- loop.example/g01210/spec.l2Die -/
def p_spec_l2Die (x0 : (List Int)) : Option (Bool) :=
  cnt (fun i2 (s1 : Unit) c3 _ => (if ((!(p_spec_l1In (x0.getD i2.toNat 0) 0 30)) || ((decide (0 < i2)) && (decide ((x0.getD i2.toNat 0) < (x0.getD (i2 - 1).toNat 0))))) = true then some false else c3 ())) (fun i2 (s1 : Unit) => some true) (Int.toNat (6 - 0)) 0 ()
/-- loop.example/g01210/spec.l11Counts -/
def p_spec_l11Counts (x0 : (List Int)) (x1 : (List Int)) : Option (Bool) :=
  (p_spec_l2Die x0).bind (fun r1 => (if r1 = true then (p_spec_l8Numbers x0).bind (fun r3 => (if (x1.length : Int) = (r3.length : Int) then cnt (fun i9 (s8 : Int) c10 _ => (if (p_spec_l1In (x1.getD i9.toNat 0) 0 12) = true then c10 (IntKind.wrap .i64 (s8 + (x1.getD i9.toNat 0))) else some false)) (fun i9 (s8 : Int) => some (decide (s8 ≤ 12))) (Int.toNat ((x1.length : Int) - 0)) 0 0 else some false)) else some false))
/-- loop.example/g01210/spec.l8Weight -/
def p_spec_l8Weight (x0 : (List Int)) (x1 : Int) : Int :=
  cnt (fun i2 (s1 : Int) c3 _ => (if (x0.getD i2.toNat 0) = x1 then c3 (IntKind.wrap .i64 (s1 + 1)) else c3 s1)) (fun i2 (s1 : Int) => s1) (Int.toNat (6 - 0)) 0 0
/-- loop.example/g01210/spec.l8Power -/
def p_spec_l8Power (fu : Nat) (x0 : Int) (x1 : Int) : Option (Int) :=
  whl (fun (s1 : Int × Int) c3 => (if s1.2 < x1 then c3 ((IntKind.wrap .i64 (s1.1 * x0)), (IntKind.wrap .i64 (s1.2 + 1))) else some s1.1)) fu (1, 0)
/-- loop.example/g01210/spec.l11Ways -/
def p_spec_l11Ways (fu : Nat) (x0 : (List Int)) (x1 : (List Int)) : Option (Int) :=
  (p_spec_l8Numbers x0).bind (fun r1 => cnt (fun i4 (s3 : Int) c5 _ => if i4 < (r1.length : Int) then (p_spec_l8Power fu (p_spec_l8Weight x0 (r1.getD i4.toNat 0)) (x1.getD i4.toNat 0)).bind (fun r11 => c5 (IntKind.wrap .i64 (s3 * r11))) else none) (fun i4 (s3 : Int) => some s3) (Int.toNat ((x1.length : Int) - 0)) 0 1)
/-- loop.example/g01210/spec.l11Sum -/
def p_spec_l11Sum (x0 : (List Int)) : Int :=
  cnt (fun i2 (s1 : Int) c3 _ => c3 (IntKind.wrap .i64 (s1 + (x0.getD i2.toNat 0)))) (fun i2 (s1 : Int) => s1) (Int.toNat ((x0.length : Int) - 0)) 0 0
/-- loop.example/g01210/spec.l2All -/
def p_spec_l2All (fu : Nat) (x0 : Int) : Option (Int) :=
  whl (fun (s1 : Int × Int) c3 => (if s1.2 < x0 then c3 ((IntKind.wrap .i64 (s1.1 * 6)), (IntKind.wrap .i64 (s1.2 + 1))) else some s1.1)) fu (1, 0)
/-- loop.example/g01210/spec.l1Most -/
def p_spec_l1Most (x0 : Int) (x1 : Int) : Int :=
  (if x1 < x0 then x0 else x1)
/-- loop.example/g01210/spec.l2Cut -/
def p_spec_l2Cut (fu : Nat) (x0 : Int) (x1 : Int) : Option ((List Int)) :=
  whl (fun (s1 : Int × Int) c3 => (if 0 < s1.2 then c3 (s1.2, (s1.1.tmod s1.2)) else if (p_spec_l1Most s1.1 1) ≠ 0 then if (p_spec_l1Most s1.1 1) ≠ 0 then some [(IntKind.wrap .i64 (x0.tdiv (p_spec_l1Most s1.1 1))), (IntKind.wrap .i64 (x1.tdiv (p_spec_l1Most s1.1 1)))] else none else none)) fu (x0, x1)
/-- loop.example/g01210/spec.LikelihoodOf -/
def p_spec_LikelihoodOf (fu : Nat) (x0 : (List Int)) (x1 : (List Int)) : Option ((List Int) × Bool) :=
  (p_spec_l11Counts x0 x1).bind (fun r1 => (if r1 = true then (p_spec_l11Ways fu x0 x1).bind (fun r3 => (p_spec_l2All fu (p_spec_l11Sum x1)).bind (fun r4 => (p_spec_l2Cut fu r3 r4).bind (fun r5 => some (r5, true)))) else some ((List.replicate 2 0), false)))
/-- loop.example/g01210/impl.arrangements -/
def p_impl_arrangements (fu : Nat) (x0 : (List Int)) : Option (Int) :=
  cnt (fun i2 (s1 : Int × Int) c3 _ => whl (fun (s8 : Int × Int × Int) c10 => (if s8.2.2 ≤ (x0.getD i2.toNat 0) then if s8.2.2 ≠ 0 then c10 ((IntKind.wrap .i64 ((IntKind.wrap .i64 (s8.1 * (IntKind.wrap .i64 (s8.2.1 + 1)))).tdiv s8.2.2)), (IntKind.wrap .i64 (s8.2.1 + 1)), (IntKind.wrap .i64 (s8.2.2 + 1))) else none else c3 (s8.1, s8.2.1))) fu (s1.1, s1.2, 1)) (fun i2 (s1 : Int × Int) => some s1.1) (Int.toNat ((x0.length : Int) - 0)) 0 (1, 0)
/-- loop.example/g01210/impl.chance -/
def p_impl_chance (fu : Nat) (x0 : (List Int)) (x1 : (List Int)) : Option (Int) :=
  (p_impl_arrangements fu x1).bind (fun r1 => (p_impl_likelihood fu x0 x1).bind (fun r2 => some (IntKind.wrap .i64 (r1 * r2))))
/-- loop.example/g01210/impl.ChanceOfCounts -/
def p_impl_ChanceOfCounts (fu : Nat) (x0 : (List Int)) (x1 : (List Int)) : Option ((List Int) × Bool) :=
  (p_impl_areCounts x0 x1).bind (fun r1 => (if r1 = true then (p_impl_chance fu x0 x1).bind (fun r3 => (p_impl_power fu (p_impl_total x1)).bind (fun r4 => (p_impl_fraction fu r3 r4).bind (fun r5 => some (r5, true)))) else some ((List.replicate 2 0), false)))
/-- loop.example/g01210/spec.l11Orders -/
def p_spec_l11Orders (fu : Nat) (x0 : (List Int)) : Option (Int) :=
  cnt (fun i2 (s1 : Int × Int) c3 _ => whl (fun (s8 : Int × Int × Int) c10 => (if s8.2.2 ≤ (x0.getD i2.toNat 0) then if s8.2.2 ≠ 0 then c10 ((IntKind.wrap .i64 ((IntKind.wrap .i64 (s8.1 * (IntKind.wrap .i64 (s8.2.1 + 1)))).tdiv s8.2.2)), (IntKind.wrap .i64 (s8.2.1 + 1)), (IntKind.wrap .i64 (s8.2.2 + 1))) else none else c3 (s8.1, s8.2.1))) fu (s1.1, s1.2, 1)) (fun i2 (s1 : Int × Int) => some s1.1) (Int.toNat ((x0.length : Int) - 0)) 0 (1, 0)
/-- loop.example/g01210/spec.l11Chance -/
def p_spec_l11Chance (fu : Nat) (x0 : (List Int)) (x1 : (List Int)) : Option (Int) :=
  (p_spec_l11Ways fu x0 x1).bind (fun r1 => (p_spec_l11Orders fu x1).bind (fun r2 => some (IntKind.wrap .i64 (r1 * r2))))
/-- loop.example/g01210/spec.ChanceOfCounts -/
def p_spec_ChanceOfCounts (fu : Nat) (x0 : (List Int)) (x1 : (List Int)) : Option ((List Int) × Bool) :=
  (p_spec_l11Counts x0 x1).bind (fun r1 => (if r1 = true then (p_spec_l11Chance fu x0 x1).bind (fun r3 => (p_spec_l2All fu (p_spec_l11Sum x1)).bind (fun r4 => (p_spec_l2Cut fu r3 r4).bind (fun r5 => some (r5, true)))) else some ((List.replicate 2 0), false)))
/-- loop.example/g01210/impl.distance -/
def p_impl_distance (x0 : (List Int)) (x1 : (List Int)) : Option (Int) :=
  (p_impl_numbers x0).bind (fun r1 => cnt (fun i4 (s3 : Int) c5 _ => if i4 < (x1.length : Int) then if (p_impl_weight x0 (r1.getD i4.toNat 0)) ≠ 0 then c5 (IntKind.wrap .i64 (s3 + (IntKind.wrap .i64 ((IntKind.wrap .i64 ((IntKind.wrap .i64 ((IntKind.wrap .i64 (6 * (x1.getD i4.toNat 0))) - (IntKind.wrap .i64 ((p_impl_total x1) * (p_impl_weight x0 (r1.getD i4.toNat 0)))))) * (IntKind.wrap .i64 ((IntKind.wrap .i64 (6 * (x1.getD i4.toNat 0))) - (IntKind.wrap .i64 ((p_impl_total x1) * (p_impl_weight x0 (r1.getD i4.toNat 0)))))))) * (IntKind.wrap .i64 ((60 : Int).tdiv (p_impl_weight x0 (r1.getD i4.toNat 0)))))))) else none else none) (fun i4 (s3 : Int) => some s3) (Int.toNat ((r1.length : Int) - 0)) 0 0)
/-- loop.example/g01210/impl.DistanceOf -/
def p_impl_DistanceOf (fu : Nat) (x0 : (List Int)) (x1 : (List Int)) : Option ((List Int) × Bool) :=
  (p_impl_areCounts x0 x1).bind (fun r1 => (if r1 = true then (p_impl_distance x0 x1).bind (fun r3 => (p_impl_fraction fu r3 (IntKind.wrap .i64 (360 * (if 1 > (p_impl_total x1) then 1 else (p_impl_total x1))))).bind (fun r4 => some (r4, true))) else some ((List.replicate 2 0), false)))
/-- loop.example/g01210/spec.l2Plus -/
def p_spec_l2Plus (fu : Nat) (x0 : (List Int)) (x1 : (List Int)) : Option ((List Int)) :=
  (p_spec_l2Cut fu (IntKind.wrap .i64 ((IntKind.wrap .i64 ((x0.getD 0 0) * (x1.getD 1 0))) + (IntKind.wrap .i64 ((x1.getD 0 0) * (x0.getD 1 0))))) (IntKind.wrap .i64 ((x0.getD 1 0) * (x1.getD 1 0)))).bind (fun r1 => some r1)
/-- loop.example/g01210/spec.l11Distance -/
def p_spec_l11Distance (fu : Nat) (x0 : (List Int)) (x1 : (List Int)) : Option ((List Int)) :=
  (p_spec_l8Numbers x0).bind (fun r1 => cnt (fun i5 (s4 : (List Int)) c6 k20 => (if ((decide (i5 < (x1.length : Int))) && (decide (0 < (p_spec_l11Sum x1)))) = true then if i5 < (r1.length : Int) then (p_spec_l2Cut fu (IntKind.wrap .i64 ((IntKind.wrap .i64 ((IntKind.wrap .i64 (6 * (x1.getD i5.toNat 0))) - (IntKind.wrap .i64 ((p_spec_l11Sum x1) * (p_spec_l8Weight x0 (r1.getD i5.toNat 0)))))) * (IntKind.wrap .i64 ((IntKind.wrap .i64 (6 * (x1.getD i5.toNat 0))) - (IntKind.wrap .i64 ((p_spec_l11Sum x1) * (p_spec_l8Weight x0 (r1.getD i5.toNat 0)))))))) (IntKind.wrap .i64 ((IntKind.wrap .i64 (6 * (p_spec_l11Sum x1))) * (p_spec_l8Weight x0 (r1.getD i5.toNat 0))))).bind (fun r18 => (p_spec_l2Plus fu s4 r18).bind (fun r19 => c6 r19)) else none else k20 i5 s4)) (fun i5 (s4 : (List Int)) => some s4) (Int.toNat ((x1.length : Int) - 0)) 0 [0, 1])
/-- loop.example/g01210/spec.DistanceOf -/
def p_spec_DistanceOf (fu : Nat) (x0 : (List Int)) (x1 : (List Int)) : Option ((List Int) × Bool) :=
  (p_spec_l11Counts x0 x1).bind (fun r1 => (if r1 = true then (p_spec_l11Distance fu x0 x1).bind (fun r3 => some (r3, true)) else some ((List.replicate 2 0), false)))
/-- loop.example/g01210/laws.vCut -/
def p_laws_vCut (x0 : (List Int)) (x1 : Int) : Option ((List Int)) :=
  jn (fun (s1 : Int) => if 0 ≤ s1 then if s1 ≤ (x0.length : Int) then if 0 + ((x0.length : Int) - s1) ≤ 1000000000 then if (0 + ((x0.length : Int) - s1)) + 1 ≤ 1000000000 then some (([] ++ (x0.drop s1.toNat)) ++ [(IntKind.wrap .u8 s1)]) else none else none else none else none) (fun k2 => (if (x0.length : Int) < x1 then k2 (x0.length : Int) else k2 x1))
/-- (*loop.example/g01210/spec.l1Cur).rolls11 -/
def p_spec_l1Cur_rolls11 (fu : Nat) (x0 : (List Int)) (x1 : (List Int)) (x2 : Int) (x3 : Int) : Option ((List Int) × Int × Int) :=
  (p_spec_l1Cur_among [3, 4, 2, 1, 0, 6, 12] x1 x2 x3).bind (fun r1 => whl (fun (s2 : Int × Int × Int × (List Int)) c4 => (if 0 < s2.1 then (p_spec_l1Cur_pick 6 x1 s2.2.1 s2.2.2.1).bind (fun r9 => if 0 ≤ r9.1 then if r9.1 < 6 then if (s2.2.2.2.length : Int) + 1 ≤ 1000000000 then c4 ((IntKind.wrap .i64 (s2.1 - 1)), r9.2.1, r9.2.2, (s2.2.2.2 ++ [(x0.getD r9.1.toNat 0)])) else none else none else none) else (p_spec_l1Cur_pick 30 x1 s2.2.1 s2.2.2.1).bind (fun r13 => (if r13.1 = 0 then (p_spec_l1Cur_among [(-1), 31, 7, 4611686018427387904] x1 r13.2.1 r13.2.2).bind (fun r17 => if (s2.2.2.2.length : Int) + 1 ≤ 1000000000 then some ((s2.2.2.2 ++ [r17.1]), r17.2.1, r17.2.2) else none) else (if r13.1 = 1 then whl (fun (s22 : (List Int)) c24 => (if (s22.length : Int) < 13 then c24 (s22 ++ [(x0.getD 0 0)]) else some (s22, r13.2.1, r13.2.2))) fu s2.2.2.2 else some (s2.2.2.2, r13.2.1, r13.2.2)))))) fu (r1.1, r1.2.1, r1.2.2, []))
/-- loop.example/g01210/spec.DrawCountRolls -/
def p_spec_DrawCountRolls (fu : Nat) (x0 : (List Int)) : Option ((List Int) × (List Int)) :=
  (p_spec_l1Cur_die x0 0 0).bind (fun r1 => (p_spec_l1Cur_rolls11 fu r1.1 x0 r1.2.1 r1.2.2).bind (fun r2 => some (r1.1, r2.1)))
/-- slices.Index[[]int,int] -/
def p_slices_Index_int_int (x0 : (List Int)) (x1 : Int) : Int :=
  cnt (fun i2 (s1 : Unit) c3 _ => (if x1 = (x0.getD i2.toNat 0) then i2 else c3 ())) (fun i2 (s1 : Unit) => (-1)) (Int.toNat ((x0.length : Int) - 0)) 0 ()
/-- slices.Contains[[]int,int] -/
def p_slices_Contains_int_int (x0 : (List Int)) (x1 : Int) : Bool :=
  (decide (0 ≤ (p_slices_Index_int_int x0 x1)))
/-- loop.example/g01210/impl.has -/
def p_impl_has (x0 : (List Int)) (x1 : Int) : Bool :=
  (p_slices_Contains_int_int x0 x1)
/-- loop.example/g01210/impl.CountRolls$1 -/
def p_impl_CountRolls_1 (x0 : Int) (x1 : (List Int)) : Bool :=
  (p_impl_has x1 x0)
/-- loop.example/g01210/impl.areAll[int]$1 -/
def p_impl_areAll_int_1v2 (x0 : Int) (x1 : (List Int)) : Bool :=
  (!(p_impl_CountRolls_1 x0 x1))
/-- slices.IndexFunc[[]int,int] -/
def p_slices_IndexFunc_int_intv2 (x0 : (List Int)) (x1 : (List Int)) : Int :=
  cnt (fun i2 (s1 : Unit) c3 _ => (if (p_impl_areAll_int_1v2 (x0.getD i2.toNat 0) x1) = true then i2 else c3 ())) (fun i2 (s1 : Unit) => (-1)) (Int.toNat ((x0.length : Int) - 0)) 0 ()
/-- slices.ContainsFunc[[]int,int] -/
def p_slices_ContainsFunc_int_intv2 (x0 : (List Int)) (x1 : (List Int)) : Bool :=
  (decide (0 ≤ (p_slices_IndexFunc_int_intv2 x0 x1)))
/-- loop.example/g01210/impl.areAll[int] -/
def p_impl_areAll_intv2 (x0 : (List Int)) (x1 : (List Int)) : Bool :=
  (!(p_slices_ContainsFunc_int_intv2 x0 x1))
/-- loop.example/g01210/impl.CountRolls -/
def p_impl_CountRolls (x0 : (List Int)) (x1 : (List Int)) : Option ((List Int) × Bool) :=
  (if (((!(p_impl_IsDie x0)) || (decide (12 < (x1.length : Int)))) || (!(p_impl_areAll_intv2 x1 x0))) = true then some ([], false) else (p_impl_numbers x0).bind (fun r26 => if (r26.length : Int) ≤ 1000000000 then cnt (fun i30 (s29 : (List Int)) c31 _ => if 0 ≤ (p_slices_Index_int_int r26 (x1.getD i30.toNat 0)) then if (p_slices_Index_int_int r26 (x1.getD i30.toNat 0)) < (r26.length : Int) then c31 (s29.set (p_slices_Index_int_int r26 (x1.getD i30.toNat 0)).toNat (IntKind.wrap .i64 ((s29.getD (p_slices_Index_int_int r26 (x1.getD i30.toNat 0)).toNat 0) + 1))) else none else none) (fun i30 (s29 : (List Int)) => some (s29, true)) (Int.toNat ((x1.length : Int) - 0)) 0 (List.replicate (r26.length : Int).toNat 0) else none))
/-- loop.example/g01210/spec.l11Rolls -/
def p_spec_l11Rolls (x0 : (List Int)) : Bool :=
  cnt (fun i2 (s1 : Unit) c3 k15 => (if ((decide (i2 < (x0.length : Int))) && (decide (i2 ≤ 12))) = true then (if (p_spec_l1In (x0.getD i2.toNat 0) 0 30) = true then c3 () else false) else k15 i2 s1)) (fun i2 (s1 : Unit) => (decide ((x0.length : Int) ≤ 12))) (Int.toNat ((x0.length : Int) - 0)) 0 ()
/-- loop.example/g01210/spec.CountRolls -/
def p_spec_CountRolls (x0 : (List Int)) (x1 : (List Int)) : Option ((List Int) × Bool) :=
  (p_spec_l2Die x0).bind (fun r1 => (if ((!r1) || (!(p_spec_l11Rolls x1))) = true then some ([], false) else (p_spec_l8Numbers x0).bind (fun r8 => if (r8.length : Int) ≤ 1000000000 then cnt (fun i12 (s11 : (List Int)) c13 _ => cnt (fun i19 (s18 : Unit) c20 k49 => (if ((decide (i19 < (r8.length : Int))) && (!(decide ((r8.getD i19.toNat 0) = (x1.getD i12.toNat 0))))) = true then c20 () else k49 i19 s18)) (fun i19 (s18 : Unit) => (if i19 = (r8.length : Int) then some ([], false) else if i19 < (r8.length : Int) then c13 (s11.set i19.toNat (IntKind.wrap .i64 ((s11.getD i19.toNat 0) + 1))) else none)) (Int.toNat ((r8.length : Int) - 0)) 0 ()) (fun i12 (s11 : (List Int)) => some (s11, true)) (Int.toNat ((x1.length : Int) - 0)) 0 (List.replicate (r8.length : Int).toNat 0) else none)))
/-- loop.example/g01210/spec.DrawCountVectors -/
def p_spec_DrawCountVectors (x0 : (List Int)) : Option ((List Int) × Int) :=
  (p_spec_l1Cur_die x0 0 0).bind (fun r1 => (p_spec_l1Cur_pick 24 x0 r1.2.1 r1.2.2).bind (fun r2 => if 0 ≤ (IntKind.wrap .i64 (5 + (IntKind.wrap .i64 (r2.1.tdiv 8)))) then if (IntKind.wrap .i64 (5 + (IntKind.wrap .i64 (r2.1.tdiv 8)))) ≤ 8 then (p_spec_l1Cur_among ([2, 3, 1, 4, 0, 8, 9, (-1)].take (IntKind.wrap .i64 (5 + (IntKind.wrap .i64 (r2.1.tdiv 8)))).toNat) x0 r2.2.1 r2.2.2).bind (fun r5 => some (r1.1, r5.1)) else none else none))
/-- loop.example/g01210/spec.DrawFirstMode -/
def p_spec_DrawFirstMode (x0 : (List Int)) : Option ((List Int) × Int) :=
  (p_spec_DrawCountVectors x0).bind (fun r1 => some (r1.1, r1.2))
/-- loop.example/g01210/impl.isTested -/
def p_impl_isTested (x0 : Int) : Bool :=
  (p_impl_within x0 0 8)
/-- loop.example/g01210/impl.vectors -/
def p_impl_vectors : Nat → Int → Int → Option ((List (List Int)))
  | 0, _, _ => none
  | fu + 1, x0, x1 => (if x0 = 1 then some [[x1]] else whl (fun (s4 : Int × (List (List Int))) c6 => (if s4.1 < (IntKind.wrap .i64 (x1 + 1)) then (p_impl_vectors fu (IntKind.wrap .i64 (x0 - 1)) (IntKind.wrap .i64 (x1 - s4.1))).bind (fun r11 => cnt (fun i14 (s13 : (List (List Int))) c15 _ => if 1 + ((r11.getD i14.toNat []).length : Int) ≤ 1000000000 then if (s13.length : Int) + 1 ≤ 1000000000 then c15 (s13 ++ [([s4.1] ++ (r11.getD i14.toNat []))]) else none else none) (fun i14 (s13 : (List (List Int))) => c6 ((IntKind.wrap .i64 (s4.1 + 1)), s13)) (Int.toNat ((r11.length : Int) - 0)) 0 s4.2) else some s4.2)) fu (0, []))
/-- loop.example/g01210/impl.CountVectors -/
def p_impl_CountVectors (fu : Nat) (x0 : (List Int)) (x1 : Int) : Option ((List (List Int)) × Bool) :=
  (if ((!(p_impl_IsDie x0)) || (!(p_impl_isTested x1))) = true then some ([], false) else (p_impl_numbers x0).bind (fun r7 => (p_impl_vectors fu (r7.length : Int) x1).bind (fun r9 => some (r9, true))))
/-- loop.example/g01210/spec.l11Tested -/
def p_spec_l11Tested (x0 : (List Int)) (x1 : Int) : Option (Bool) :=
  (p_spec_l2Die x0).bind (fun r1 => some (r1 && (p_spec_l1In x1 0 8)))
/-- loop.example/g01210/spec.l11Vectors -/
def p_spec_l11Vectors : Nat → Int → Int → Option ((List (List Int)))
  | 0, _, _ => none
  | fu + 1, x0, x1 => (if x0 = 1 then some [[x1]] else whl (fun (s4 : Int × (List (List Int))) c6 => (if s4.1 ≤ x1 then (p_spec_l11Vectors fu (IntKind.wrap .i64 (x0 - 1)) (IntKind.wrap .i64 (x1 - s4.1))).bind (fun r11 => cnt (fun i14 (s13 : (List (List Int))) c15 _ => if 1 + ((r11.getD i14.toNat []).length : Int) ≤ 1000000000 then if (s13.length : Int) + 1 ≤ 1000000000 then c15 (s13 ++ [([s4.1] ++ (r11.getD i14.toNat []))]) else none else none) (fun i14 (s13 : (List (List Int))) => c6 ((IntKind.wrap .i64 (s4.1 + 1)), s13)) (Int.toNat ((r11.length : Int) - 0)) 0 s4.2) else some s4.2)) fu (0, []))
/-- loop.example/g01210/spec.CountVectors -/
def p_spec_CountVectors (fu : Nat) (x0 : (List Int)) (x1 : Int) : Option ((List (List Int)) × Bool) :=
  (p_spec_l11Tested x0 x1).bind (fun r1 => (if r1 = true then (p_spec_l8Numbers x0).bind (fun r3 => (p_spec_l11Vectors fu (r3.length : Int) x1).bind (fun r5 => some (r5, true))) else some ([], false)))
/-- loop.example/g01210/impl.FirstMode -/
def p_impl_FirstMode (fu : Nat) (x0 : (List Int)) (x1 : Int) : Option ((List Int) × Bool) :=
  (if ((!(p_impl_IsDie x0)) || (!(p_impl_isTested x1))) = true then some ([], false) else (p_impl_numbers x0).bind (fun r7 => (p_impl_vectors fu (r7.length : Int) x1).bind (fun r9 => (if 0 < (r9.length : Int) then if ((!true) = true → (p_impl_chance fu x0 (r9.getD 0 [])).isSome = true) then if ((!true) = true → (p_impl_chance fu x0 []).isSome = true) then cnt (fun i24 (s23 : (List Int)) c25 _ => if 0 < (s23.length : Int) then if ((!false) = true → (p_impl_chance fu x0 (r9.getD i24.toNat [])).isSome = true) then if ((!false) = true → (p_impl_chance fu x0 s23).isSome = true) then (if (false || (decide (((p_impl_chance fu x0 s23).getD 0) < ((p_impl_chance fu x0 (r9.getD i24.toNat [])).getD 0)))) = true then c25 (r9.getD i24.toNat []) else c25 s23) else none else none else none) (fun i24 (s23 : (List Int)) => some (s23, true)) (Int.toNat ((r9.length : Int) - (0 + 1))) (0 + 1) (r9.getD 0 []) else none else none else some ([], true)))))
/-- loop.example/g01210/spec.FirstMode -/
def p_spec_FirstMode (fu : Nat) (x0 : (List Int)) (x1 : Int) : Option ((List Int) × Bool) :=
  (p_spec_l11Tested x0 x1).bind (fun r1 => (if r1 = true then (p_spec_l8Numbers x0).bind (fun r3 => (p_spec_l11Vectors fu (r3.length : Int) x1).bind (fun r5 => if 0 < (r5.length : Int) then cnt (fun i9 (s8 : (List Int)) c10 _ => (p_spec_l11Chance fu x0 (r5.getD i9.toNat [])).bind (fun r15 => (p_spec_l11Chance fu x0 s8).bind (fun r16 => (if r16 < r15 then c10 (r5.getD i9.toNat []) else c10 s8)))) (fun i9 (s8 : (List Int)) => some (s8, true)) (Int.toNat ((r5.length : Int) - 1)) 1 (r5.getD 0 []) else none)) else some ([], false)))
/-- loop.example/g01210/impl.MeanDistance -/
def p_impl_MeanDistance (x0 : (List Int)) (x1 : Int) : Option ((List Int) × Bool) :=
  (if ((!(p_impl_IsDie x0)) || (!(p_impl_within x1 1 8))) = true then some ((List.replicate 2 0), false) else (p_impl_numbers x0).bind (fun r7 => some ([((r7.length : Int) - 1), 1], true)))
/-- loop.example/g01210/spec.MeanDistance -/
def p_spec_MeanDistance (x0 : (List Int)) (x1 : Int) : Option ((List Int) × Bool) :=
  (p_spec_l11Tested x0 x1).bind (fun r1 => (if ((!r1) || (decide (x1 = 0))) = true then some ((List.replicate 2 0), false) else (p_spec_l8Numbers x0).bind (fun r8 => some ([((r8.length : Int) - 1), 1], true))))
/-- loop.example/g01210/laws.vInts -/
def p_laws_vInts (x0 : (List Int)) (x1 : (List Int)) : Bool :=
  (if (x0.length : Int) = (x1.length : Int) then cnt (fun i5 (s4 : Unit) c6 _ => (if (x0.getD i5.toNat 0) = (x1.getD i5.toNat 0) then c6 () else false)) (fun i5 (s4 : Unit) => true) (Int.toNat ((x0.length : Int) - 0)) 0 () else false)
/-- loop.example/g01210/laws.vLess -/
def p_laws_vLess (x0 : (List Int)) (x1 : (List Int)) : Bool :=
  (decide ((IntKind.wrap .i64 ((x0.getD 0 0) * (x1.getD 1 0))) < (IntKind.wrap .i64 ((x1.getD 0 0) * (x0.getD 1 0)))))
/-- loop.example/g01210/laws.vSix -/
def p_laws_vSix (fu : Nat) (x0 : Int) : Option (Int) :=
  whl (fun (s1 : Int × Int) c3 => (if s1.2 < x0 then c3 ((IntKind.wrap .i64 (s1.1 * 6)), (IntKind.wrap .i64 (s1.2 + 1))) else some s1.1)) fu (1, 0)
/-- loop.example/g01210/laws.FnCounts -/
def p_laws_FnCounts (fu : Nat) (x0 : (List Int)) : Option (Bool) :=
  (if (p_laws_vBig x0) = true then some true else (p_spec_DrawChanceOfCounts fu x0).bind (fun r2 => (p_impl_LikelihoodOf fu r2.1 r2.2).bind (fun r4 => (p_spec_LikelihoodOf fu r2.1 r2.2).bind (fun r5 => (p_impl_ChanceOfCounts fu r2.1 r2.2).bind (fun r6 => (p_spec_ChanceOfCounts fu r2.1 r2.2).bind (fun r7 => (p_impl_DistanceOf fu r2.1 r2.2).bind (fun r8 => (p_spec_DistanceOf fu r2.1 r2.2).bind (fun r9 => (p_laws_vCut x0 1).bind (fun r10 => (p_spec_DrawCountRolls fu r10).bind (fun r12 => (p_impl_CountRolls r12.1 r12.2).bind (fun r14 => (p_spec_CountRolls r12.1 r12.2).bind (fun r16 => (p_laws_vCut x0 2).bind (fun r18 => (p_spec_DrawFirstMode r18).bind (fun r20 => (p_impl_CountVectors fu r20.1 r20.2).bind (fun r21 => (p_spec_CountVectors fu r20.1 r20.2).bind (fun r23 => (p_impl_FirstMode fu r20.1 r20.2).bind (fun r25 => (p_spec_FirstMode fu r20.1 r20.2).bind (fun r26 => (p_impl_MeanDistance r20.1 r20.2).bind (fun r27 => (p_spec_MeanDistance r20.1 r20.2).bind (fun r28 => (if (((((((((((((((((!(decide (r4.1 = r5.1))) || (r4.2 != r5.2)) || (!(decide (r6.1 = r7.1)))) || (r6.2 != r7.2)) || (!(decide (r8.1 = r9.1)))) || (r8.2 != r9.2)) || (r14.2 != r16.2)) || (!(p_laws_vInts r14.1 r16.1))) || (r21.2 != r23.2)) || (!(decide ((r21.1.length : Int) = (r23.1.length : Int))))) || (r25.2 != r26.2)) || (!(p_laws_vInts r25.1 r26.1))) || (!(decide (r27.1 = r28.1)))) || (r27.2 != r28.2)) || (r4.2 != r6.2)) || (r4.2 != r8.2)) || (r21.2 != r25.2)) = true then some false else (if (r4.2 && (((p_laws_vLess r6.1 r4.1) || (p_laws_vLess [1, 1] r6.1)) || (decide ((r8.1.getD 0 0) < 0)))) = true then some false else jn (fun (s955 : Unit) => (if r21.2 = true then cnt (fun i960 (s959 : Int × Int × Int) c961 _ => (if (p_laws_vInts (r21.1.getD i960.toNat []) (r23.1.getD i960.toNat [])) = true then (p_impl_ChanceOfCounts fu r20.1 (r21.1.getD i960.toNat [])).bind (fun r967 => (p_impl_DistanceOf fu r20.1 (r21.1.getD i960.toNat [])).bind (fun r982 => (if ((!r967.2) || (!r982.2)) = true then some false else (p_laws_vSix fu r20.2).bind (fun r1002 => if (r967.1.getD 1 0) ≠ 0 then jn (fun (s1004 : Int) => (if 0 < r20.2 then if (r982.1.getD 1 0) ≠ 0 then c961 ((IntKind.wrap .i64 (s959.1 + (IntKind.wrap .i64 ((r967.1.getD 0 0) * (IntKind.wrap .i64 (r1002.tdiv (r967.1.getD 1 0))))))), s1004, (IntKind.wrap .i64 (s959.2.2 + (IntKind.wrap .i64 ((IntKind.wrap .i64 ((r967.1.getD 0 0) * (IntKind.wrap .i64 (r1002.tdiv (r967.1.getD 1 0))))) * (IntKind.wrap .i64 ((IntKind.wrap .i64 ((r982.1.getD 0 0) * (IntKind.wrap .i64 (360 * r20.2)))).tdiv (r982.1.getD 1 0)))))))) else none else c961 ((IntKind.wrap .i64 (s959.1 + (IntKind.wrap .i64 ((r967.1.getD 0 0) * (IntKind.wrap .i64 (r1002.tdiv (r967.1.getD 1 0))))))), s1004, s959.2.2))) (fun k1005 => (if s959.2.1 < (IntKind.wrap .i64 ((r967.1.getD 0 0) * (IntKind.wrap .i64 (r1002.tdiv (r967.1.getD 1 0))))) then k1005 (IntKind.wrap .i64 ((r967.1.getD 0 0) * (IntKind.wrap .i64 (r1002.tdiv (r967.1.getD 1 0))))) else k1005 s959.2.1)) else none)))) else some false)) (fun i960 (s959 : Int × Int × Int) => (p_impl_ChanceOfCounts fu r20.1 r25.1).bind (fun r1014 => if (r1014.2 = true → (p_laws_vSix fu r20.2).isSome = true) then if ((r1014.2 && (decide (s959.1 = ((p_laws_vSix fu r20.2).getD 0)))) = true → (p_laws_vSix fu r20.2).isSome = true) then if ((r1014.2 && (decide (s959.1 = ((p_laws_vSix fu r20.2).getD 0)))) = true → (r1014.1.getD 1 0) ≠ 0) then if ((((r1014.2 && (decide (s959.1 = ((p_laws_vSix fu r20.2).getD 0)))) && (decide ((IntKind.wrap .i64 ((r1014.1.getD 0 0) * (IntKind.wrap .i64 (((p_laws_vSix fu r20.2).getD 0).tdiv (r1014.1.getD 1 0))))) = s959.2.1))) && (!(!r27.2))) = true → (p_laws_vSix fu r20.2).isSome = true) then some (((r1014.2 && (decide (s959.1 = ((p_laws_vSix fu r20.2).getD 0)))) && (decide ((IntKind.wrap .i64 ((r1014.1.getD 0 0) * (IntKind.wrap .i64 (((p_laws_vSix fu r20.2).getD 0).tdiv (r1014.1.getD 1 0))))) = s959.2.1))) && ((!r27.2) || (decide ((IntKind.wrap .i64 (s959.2.2 * (r27.1.getD 1 0))) = (IntKind.wrap .i64 ((IntKind.wrap .i64 ((IntKind.wrap .i64 ((r27.1.getD 0 0) * ((p_laws_vSix fu r20.2).getD 0))) * 360)) * r20.2)))))) else none else none else none else none)) (Int.toNat ((r21.1.length : Int) - 0)) 0 (0, 0, 0) else some true)) (fun k956 => (if r14.2 = true then cnt (fun i1210 (s1209 : Int) c1211 _ => c1211 (IntKind.wrap .i64 (s1209 + (r14.1.getD i1210.toNat 0)))) (fun i1210 (s1209 : Int) => (if s1209 = (r12.2.length : Int) then k956 () else some false)) (Int.toNat ((r14.1.length : Int) - 0)) 0 0 else k956 ()))))))))))))))))))))))))
end Go.GA
