/- Walks: what the Go functions compute, by the printed lines below; no further conditions. -/
import Derived.Test.YtedakmknjbjlbaaGaD
namespace Go.GA
open Go
set_option maxRecDepth 100000
set_option maxHeartbeats 2000000
set_option linter.unusedVariables false
set_option linter.unusedSimpArgs false
/-- loop.example/g01210/laws.vBig -/
def p_laws_vBig (x0 : (List Int)) : Bool :=
  (decide (65536 < (x0.length : Int)))
/-- (*loop.example/g01210/spec.l1Cur).next -/
def p_spec_l1Cur_next (x0 : (List Int)) (x1 : Int) (x2 : Int) : Option (Int × Int × Int) :=
  jn (fun (s1 : Int) => (if (IntKind.wrap .i64 (x1 + 1)) ≤ (x0.length : Int) then some (s1, (IntKind.wrap .i64 (x1 + 1)), (IntKind.wrap .u64 ((IntKind.wrap .u64 ((IntKind.wrap .u64 (x2 * 6364136223846793005)) + (IntKind.wrap .u64 s1))) + 462197))) else some ((IntKind.wrap .i64 (andI .u64 (shrI .u64 (IntKind.wrap .u64 ((IntKind.wrap .u64 ((IntKind.wrap .u64 (x2 * 6364136223846793005)) + (IntKind.wrap .u64 s1))) + 462197)) 40) 255)), (IntKind.wrap .i64 (x1 + 1)), (IntKind.wrap .u64 ((IntKind.wrap .u64 ((IntKind.wrap .u64 (x2 * 6364136223846793005)) + (IntKind.wrap .u64 s1))) + 462197))))) (fun k2 => (if x1 < (x0.length : Int) then if 0 ≤ x1 then k2 (IntKind.wrap .i64 (x0.getD x1.toNat 0)) else none else k2 0))
/-- (*loop.example/g01210/spec.l1Cur).pick -/
def p_spec_l1Cur_pick (x0 : Int) (x1 : (List Int)) (x2 : Int) (x3 : Int) : Option (Int × Int × Int) :=
  (if x0 ≤ 1 then some (0, x2, x3) else (p_spec_l1Cur_next x1 x2 x3).bind (fun r4 => (if 200 < x0 then (p_spec_l1Cur_next x1 r4.2.1 r4.2.2).bind (fun r8 => some (((IntKind.wrap .i64 ((IntKind.wrap .i64 (r4.1 * 256)) + r8.1)).tmod x0), r8.2.1, r8.2.2)) else some ((r4.1.tmod x0), r4.2.1, r4.2.2))))
/-- (*loop.example/g01210/spec.l1Cur).among -/
def p_spec_l1Cur_among (x0 : (List Int)) (x1 : (List Int)) (x2 : Int) (x3 : Int) : Option (Int × Int × Int) :=
  (p_spec_l1Cur_pick (x0.length : Int) x1 x2 x3).bind (fun r1 => if 0 ≤ r1.1 then if r1.1 < (x0.length : Int) then some ((x0.getD r1.1.toNat 0), r1.2.1, r1.2.2) else none else none)
/-- (*loop.example/g01210/spec.l1Cur).face -/
def p_spec_l1Cur_face (x0 : (List Int)) (x1 : Int) (x2 : Int) : Option (Int × Int × Int) :=
  (p_spec_l1Cur_among [1, 2, 3, 4, 5, 6, 6, 0, 8, 9, 4, 3, 30, 12] x0 x1 x2).bind (fun r1 => some (r1.1, r1.2.1, r1.2.2))
/-- (*loop.example/g01210/spec.l1Cur).one -/
def p_spec_l1Cur_one (x0 : Int) (x1 : (List Int)) (x2 : Int) (x3 : Int) : Option (Bool × Int × Int) :=
  (p_spec_l1Cur_pick x0 x1 x2 x3).bind (fun r1 => some ((decide (r1.1 = 0)), r1.2.1, r1.2.2))
/-- loop.example/g01210/spec.l2Sorted -/
def p_spec_l2Sorted (x0 : (List Int)) : (List Int) :=
  cnt (fun i2 (s1 : (List Int)) c3 _ => cnt (fun i9 (s8 : (List Int)) c10 _ => (if (s8.getD (i9 + 1).toNat 0) < (s8.getD i9.toNat 0) then c10 ((s8.set i9.toNat (s8.getD (i9 + 1).toNat 0)).set (i9 + 1).toNat (s8.getD i9.toNat 0)) else c10 s8)) (fun i9 (s8 : (List Int)) => c3 s8) (Int.toNat (5 - 0)) 0 s1) (fun i2 (s1 : (List Int)) => s1) (Int.toNat (6 - 0)) 0 x0
/-- (*loop.example/g01210/spec.l1Cur).die -/
def p_spec_l1Cur_die (x0 : (List Int)) (x1 : Int) (x2 : Int) : Option ((List Int) × Int × Int) :=
  jn (fun (s1 : Int × Int × (List Int)) => (p_spec_l1Cur_pick 50 x0 s1.1 s1.2.1).bind (fun r4 => (if r4.1 = 0 then (p_spec_l1Cur_pick 6 x0 r4.2.1 r4.2.2).bind (fun r8 => (p_spec_l1Cur_among [(-1), 31, 0, 4611686018427387904] x0 r8.2.1 r8.2.2).bind (fun r9 => if 0 ≤ r8.1 then if r8.1 < 6 then some (((p_spec_l2Sorted s1.2.2).set r8.1.toNat r9.1), r9.2.1, r9.2.2) else none else none)) else (if r4.1 = 1 then some (((p_spec_l2Sorted s1.2.2).set 0 30), r4.2.1, r4.2.2) else some ((p_spec_l2Sorted s1.2.2), r4.2.1, r4.2.2))))) (fun k2 => (p_spec_l1Cur_pick 6 x0 x1 x2).bind (fun r15 => (if r15.1 = 0 then some ([1, 2, 3, 4, 5, 6], r15.2.1, r15.2.2) else (if r15.1 = 1 then k2 (r15.2.1, r15.2.2, [1, 2, 2, 3, 3, 4]) else (if r15.1 = 2 then (p_spec_l1Cur_face x0 r15.2.1 r15.2.2).bind (fun r25 => (p_spec_l1Cur_face x0 r25.2.1 r25.2.2).bind (fun r26 => cnt (fun i28 (s27 : Int × Int × (List Int)) c29 _ => (p_spec_l1Cur_one 3 x0 s27.1 s27.2.1).bind (fun r34 => (if r34.1 = true then c29 (r34.2.1, r34.2.2, ((s27.2.2.set i28.toNat r25.1).set i28.toNat r26.1)) else c29 (r34.2.1, r34.2.2, (s27.2.2.set i28.toNat r25.1))))) (fun i28 (s27 : Int × Int × (List Int)) => k2 (s27.1, s27.2.1, s27.2.2)) (Int.toNat (6 - 0)) 0 (r26.2.1, r26.2.2, [1, 2, 3, 4, 5, 6]))) else cnt (fun i37 (s36 : Int × Int × (List Int)) c38 _ => (p_spec_l1Cur_face x0 s36.1 s36.2.1).bind (fun r43 => c38 (r43.2.1, r43.2.2, (s36.2.2.set i37.toNat r43.1)))) (fun i37 (s36 : Int × Int × (List Int)) => k2 (s36.1, s36.2.1, s36.2.2)) (Int.toNat (6 - 0)) 0 (r15.2.1, r15.2.2, [1, 2, 3, 4, 5, 6]))))))
/-- loop.example/g01210/spec.l1Put -/
def p_spec_l1Put (x0 : (List Int)) (x1 : Int) : Option ((List Int)) :=
  cnt (fun i2 (s1 : Unit) c3 k42 => (if ((decide (i2 < (x0.length : Int))) && (decide ((x0.getD i2.toNat 0) < x1))) = true then c3 () else k42 i2 s1)) (fun i2 (s1 : Unit) => (if ((decide (i2 < (x0.length : Int))) && (decide ((x0.getD i2.toNat 0) = x1))) = true then some x0 else if 0 + (i2 - 0) ≤ 1000000000 then if (0 + (i2 - 0)) + 1 ≤ 1000000000 then if ((0 + (i2 - 0)) + 1) + ((x0.length : Int) - i2) ≤ 1000000000 then some ((([] ++ ((x0.drop 0).take (i2 - 0).toNat)) ++ [x1]) ++ ((x0.drop i2.toNat).take ((x0.length : Int) - i2).toNat)) else none else none else none)) (Int.toNat ((x0.length : Int) - 0)) 0 ()
/-- loop.example/g01210/spec.l8Numbers -/
def p_spec_l8Numbers (x0 : (List Int)) : Option ((List Int)) :=
  cnt (fun i2 (s1 : (List Int)) c3 _ => (p_spec_l1Put s1 (x0.getD i2.toNat 0)).bind (fun r8 => c3 r8)) (fun i2 (s1 : (List Int)) => some s1) (Int.toNat (6 - 0)) 0 []
/-- (*loop.example/g01210/spec.l1Cur).counts11 -/
def p_spec_l1Cur_counts11 (fu : Nat) (x0 : (List Int)) (x1 : Int) (x2 : (List Int)) (x3 : Int) (x4 : Int) : Option ((List Int) × Int × Int) :=
  (p_spec_l8Numbers x0).bind (fun r1 => if (r1.length : Int) ≤ 1000000000 then (p_spec_l1Cur_among [3, 5, 2, 6, 1, 0, x1] x2 x3 x4).bind (fun r4 => whl (fun (s5 : Int × Int × Int × (List Int)) c7 => (if 0 < s5.1 then (p_spec_l1Cur_pick (r1.length : Int) x2 s5.2.1 s5.2.2.1).bind (fun r12 => if 0 ≤ r12.1 then if r12.1 < (r1.length : Int) then c7 ((IntKind.wrap .i64 (s5.1 - 1)), r12.2.1, r12.2.2, (s5.2.2.2.set r12.1.toNat (IntKind.wrap .i64 ((s5.2.2.2.getD r12.1.toNat 0) + 1)))) else none else none) else (p_spec_l1Cur_pick 40 x2 s5.2.1 s5.2.2.1).bind (fun r15 => (if r15.1 = 0 then (p_spec_l1Cur_among [(-1), 13, 4611686018427387904] x2 r15.2.1 r15.2.2).bind (fun r19 => if 0 < (r1.length : Int) then some ((s5.2.2.2.set 0 r19.1), r19.2.1, r19.2.2) else none) else (if r15.1 = 1 then if (r1.length : Int) + 1 ≤ 1000000000 then some ((s5.2.2.2 ++ [0]), r15.2.1, r15.2.2) else none else (if r15.1 = 2 then if 0 < (r1.length : Int) then some ((s5.2.2.2.set 0 (IntKind.wrap .i64 ((s5.2.2.2.getD 0 0) + 12))), r15.2.1, r15.2.2) else none else some (s5.2.2.2, r15.2.1, r15.2.2))))))) fu (r4.1, r4.2.1, r4.2.2, (List.replicate (r1.length : Int).toNat 0))) else none)
/-- loop.example/g01210/spec.DrawChanceAsFar -/
def p_spec_DrawChanceAsFar (fu : Nat) (x0 : (List Int)) : Option ((List Int) × (List Int)) :=
  (p_spec_l1Cur_die x0 0 0).bind (fun r1 => (p_spec_l1Cur_counts11 fu r1.1 8 x0 r1.2.1 r1.2.2).bind (fun r2 => some (r1.1, r2.1)))
/-- loop.example/g01210/impl.within -/
def p_impl_within (x0 : Int) (x1 : Int) (x2 : Int) : Bool :=
  ((decide (x1 ≤ x0)) && (decide (x0 ≤ x2)))
/-- loop.example/g01210/impl.isFace -/
def p_impl_isFace (x0 : Int) : Bool :=
  (p_impl_within x0 0 30)
/-- loop.example/g01210/impl.areAll[int]$1 -/
def p_impl_areAll_int_1 (x0 : Int) : Bool :=
  (!(p_impl_isFace x0))
/-- slices.IndexFunc[[]int,int] -/
def p_slices_IndexFunc_int_int (x0 : (List Int)) : Int :=
  cnt (fun i2 (s1 : Unit) c3 _ => (if (p_impl_areAll_int_1 (x0.getD i2.toNat 0)) = true then i2 else c3 ())) (fun i2 (s1 : Unit) => (-1)) (Int.toNat ((x0.length : Int) - 0)) 0 ()
/-- slices.ContainsFunc[[]int,int] -/
def p_slices_ContainsFunc_int_int (x0 : (List Int)) : Bool :=
  (decide (0 ≤ (p_slices_IndexFunc_int_int x0)))
/-- loop.example/g01210/impl.areAll[int] -/
def p_impl_areAll_int (x0 : (List Int)) : Bool :=
  (!(p_slices_ContainsFunc_int_int x0))
/-- cmp.isNaN[int] -/
def p_cmp_isNaN_int (x0 : Int) : Bool :=
  (!(decide (x0 = x0)))
/-- cmp.Less[int] -/
def p_cmp_Less_int (x0 : Int) (x1 : Int) : Bool :=
  (((p_cmp_isNaN_int x0) && (!(p_cmp_isNaN_int x1))) || (decide (x0 < x1)))
/-- slices.IsSorted[[]int,int] -/
def p_slices_IsSorted_int_int (x0 : (List Int)) : Bool :=
  cntd (fun i2 (s1 : Unit) c3 _ => (if (p_cmp_Less_int (x0.getD i2.toNat 0) (x0.getD (i2 - 1).toNat 0)) = true then false else c3 ())) (fun i2 (s1 : Unit) => true) (Int.toNat (((x0.length : Int) - 1) - 0)) ((x0.length : Int) - 1) ()
/-- loop.example/g01210/impl.IsDie -/
def p_impl_IsDie (x0 : (List Int)) : Bool :=
  ((p_impl_areAll_int x0) && (p_slices_IsSorted_int_int x0))
/-- slices.Clone[[]int,int] -/
def p_slices_Clone_int_int (x0 : (List Int)) : Option ((List Int)) :=
  if 0 + (x0.length : Int) ≤ 1000000000 then some ([] ++ x0) else none
/-- slices.Compact[[]int,int] -/
def p_slices_Compact_int_int (x0 : (List Int)) : Option ((List Int)) :=
  (if (x0.length : Int) < 2 then some x0 else cnt (fun i5 (s4 : Unit) c6 _ => (if (x0.getD i5.toNat 0) = (x0.getD (i5 - 1).toNat 0) then cnt (fun i15 (s14 : Int × (List Int)) c16 _ => (if (s14.2.getD (i5.toNat + i15.toNat) 0) = (s14.2.getD (i5.toNat + (i15 - 1).toNat) 0) then c16 (s14.1, s14.2) else if s14.1 < (x0.length : Int) then c16 ((s14.1 + 1), (s14.2.set s14.1.toNat (s14.2.getD (i5.toNat + i15.toNat) 0))) else none)) (fun i15 (s14 : Int × (List Int)) => if s14.1 ≤ (x0.length : Int) then some ((s14.2.take s14.1.toNat ++ (List.replicate ((s14.2.length : Int) - s14.1).toNat 0 ++ s14.2.drop (s14.1.toNat + ((s14.2.length : Int) - s14.1).toNat))).take s14.1.toNat) else none) (Int.toNat (((((x0.length : Int) - i5).toNat : Nat) : Int) - 1)) 1 (i5, x0) else c6 ())) (fun i5 (s4 : Unit) => some x0) (Int.toNat ((x0.length : Int) - 1)) 1 ())
/-- loop.example/g01210/impl.numbers -/
def p_impl_numbers (x0 : (List Int)) : Option ((List Int)) :=
  (p_slices_Clone_int_int x0).bind (fun r1 => (p_slices_Compact_int_int r1).bind (fun r3 => some r3))
/-- loop.example/g01210/impl.areCounts$1 -/
def p_impl_areCounts_1 (x0 : Int) : Bool :=
  (p_impl_within x0 0 12)
/-- loop.example/g01210/impl.areAll[int]$1 -/
def p_impl_areAll_int_1v1 (x0 : Int) : Bool :=
  (!(p_impl_areCounts_1 x0))
/-- slices.IndexFunc[[]int,int] -/
def p_slices_IndexFunc_int_intv1 (x0 : (List Int)) : Int :=
  cnt (fun i2 (s1 : Unit) c3 _ => (if (p_impl_areAll_int_1v1 (x0.getD i2.toNat 0)) = true then i2 else c3 ())) (fun i2 (s1 : Unit) => (-1)) (Int.toNat ((x0.length : Int) - 0)) 0 ()
/-- slices.ContainsFunc[[]int,int] -/
def p_slices_ContainsFunc_int_intv1 (x0 : (List Int)) : Bool :=
  (decide (0 ≤ (p_slices_IndexFunc_int_intv1 x0)))
/-- loop.example/g01210/impl.areAll[int] -/
def p_impl_areAll_intv1 (x0 : (List Int)) : Bool :=
  (!(p_slices_ContainsFunc_int_intv1 x0))
/-- loop.example/g01210/impl.total -/
def p_impl_total (x0 : (List Int)) : Int :=
  cnt (fun i2 (s1 : Int) c3 _ => c3 (IntKind.wrap .i64 (s1 + (x0.getD i2.toNat 0)))) (fun i2 (s1 : Int) => s1) (Int.toNat ((x0.length : Int) - 0)) 0 0
/-- loop.example/g01210/impl.areCounts -/
def p_impl_areCounts (x0 : (List Int)) (x1 : (List Int)) : Option (Bool) :=
  (if (p_impl_IsDie x0) = true then (p_impl_numbers x0).bind (fun r2 => (if (x1.length : Int) = (r2.length : Int) then (if (p_impl_areAll_intv1 x1) = true then some (decide ((p_impl_total x1) ≤ 12)) else some false) else some false)) else some false)
/-- loop.example/g01210/impl.isTested -/
def p_impl_isTested (x0 : Int) : Bool :=
  (p_impl_within x0 0 8)
/-- loop.example/g01210/impl.truth -/
def p_impl_truth (x0 : Bool) : Int :=
  (if x0 = true then 1 else 0)
/-- loop.example/g01210/impl.weight -/
def p_impl_weight (x0 : (List Int)) (x1 : Int) : Int :=
  cnt (fun i2 (s1 : Int) c3 _ => c3 (IntKind.wrap .i64 (s1 + (p_impl_truth (decide ((x0.getD i2.toNat 0) = x1)))))) (fun i2 (s1 : Int) => s1) (Int.toNat (6 - 0)) 0 0
/-- loop.example/g01210/impl.distance -/
def p_impl_distance (x0 : (List Int)) (x1 : (List Int)) : Option (Int) :=
  (p_impl_numbers x0).bind (fun r1 => cnt (fun i4 (s3 : Int) c5 _ => if i4 < (x1.length : Int) then if (p_impl_weight x0 (r1.getD i4.toNat 0)) ≠ 0 then c5 (IntKind.wrap .i64 (s3 + (IntKind.wrap .i64 ((IntKind.wrap .i64 ((IntKind.wrap .i64 ((IntKind.wrap .i64 (6 * (x1.getD i4.toNat 0))) - (IntKind.wrap .i64 ((p_impl_total x1) * (p_impl_weight x0 (r1.getD i4.toNat 0)))))) * (IntKind.wrap .i64 ((IntKind.wrap .i64 (6 * (x1.getD i4.toNat 0))) - (IntKind.wrap .i64 ((p_impl_total x1) * (p_impl_weight x0 (r1.getD i4.toNat 0)))))))) * (IntKind.wrap .i64 ((60 : Int).tdiv (p_impl_weight x0 (r1.getD i4.toNat 0)))))))) else none else none) (fun i4 (s3 : Int) => some s3) (Int.toNat ((r1.length : Int) - 0)) 0 0)
/-- loop.example/g01210/impl.vectors -/
def p_impl_vectors : Nat → Int → Int → Option ((List (List Int)))
  | 0, _, _ => none
  | fu + 1, x0, x1 => (if x0 = 1 then some [[x1]] else whl (fun (s4 : Int × (List (List Int))) c6 => (if s4.1 < (IntKind.wrap .i64 (x1 + 1)) then (p_impl_vectors fu (IntKind.wrap .i64 (x0 - 1)) (IntKind.wrap .i64 (x1 - s4.1))).bind (fun r11 => cnt (fun i14 (s13 : (List (List Int))) c15 _ => if 1 + ((r11.getD i14.toNat []).length : Int) ≤ 1000000000 then if (s13.length : Int) + 1 ≤ 1000000000 then c15 (s13 ++ [([s4.1] ++ (r11.getD i14.toNat []))]) else none else none) (fun i14 (s13 : (List (List Int))) => c6 ((IntKind.wrap .i64 (s4.1 + 1)), s13)) (Int.toNat ((r11.length : Int) - 0)) 0 s4.2) else some s4.2)) fu (0, []))
/-- loop.example/g01210/impl.ChanceAsFar$1 -/
def p_impl_ChanceAsFar_1 (x0 : (List Int)) (x1 : (List Int)) (x2 : Int) : Option (Bool) :=
  (p_impl_distance x1 x0).bind (fun r1 => some (decide (x2 ≤ r1)))
/-- loop.example/g01210/impl.arrangements -/
def p_impl_arrangements (fu : Nat) (x0 : (List Int)) : Option (Int) :=
  cnt (fun i2 (s1 : Int × Int) c3 _ => whl (fun (s8 : Int × Int × Int) c10 => (if s8.2.2 ≤ (x0.getD i2.toNat 0) then if s8.2.2 ≠ 0 then c10 ((IntKind.wrap .i64 ((IntKind.wrap .i64 (s8.1 * (IntKind.wrap .i64 (s8.2.1 + 1)))).tdiv s8.2.2)), (IntKind.wrap .i64 (s8.2.1 + 1)), (IntKind.wrap .i64 (s8.2.2 + 1))) else none else c3 (s8.1, s8.2.1))) fu (s1.1, s1.2, 1)) (fun i2 (s1 : Int × Int) => some s1.1) (Int.toNat ((x0.length : Int) - 0)) 0 (1, 0)
/-- loop.example/g01210/impl.raised -/
def p_impl_raised (fu : Nat) (x0 : Int) (x1 : Int) : Option (Int) :=
  whl (fun (s1 : Int × Int) c3 => (if s1.2 < x1 then c3 ((IntKind.wrap .i64 (s1.1 * x0)), (IntKind.wrap .i64 (s1.2 + 1))) else some s1.1)) fu (1, 0)
/-- loop.example/g01210/impl.likelihood -/
def p_impl_likelihood (fu : Nat) (x0 : (List Int)) (x1 : (List Int)) : Option (Int) :=
  (p_impl_numbers x0).bind (fun r1 => cnt (fun i4 (s3 : Int) c5 _ => if i4 < (x1.length : Int) then (p_impl_raised fu (p_impl_weight x0 (r1.getD i4.toNat 0)) (x1.getD i4.toNat 0)).bind (fun r11 => c5 (IntKind.wrap .i64 (s3 * r11))) else none) (fun i4 (s3 : Int) => some s3) (Int.toNat ((r1.length : Int) - 0)) 0 1)
/-- loop.example/g01210/impl.chance -/
def p_impl_chance (fu : Nat) (x0 : (List Int)) (x1 : (List Int)) : Option (Int) :=
  (p_impl_arrangements fu x1).bind (fun r1 => (p_impl_likelihood fu x0 x1).bind (fun r2 => some (IntKind.wrap .i64 (r1 * r2))))
/-- loop.example/g01210/impl.power -/
def p_impl_power (fu : Nat) (x0 : Int) : Option (Int) :=
  whl (fun (s1 : Int × Int) c3 => (if s1.2 < x0 then c3 ((IntKind.wrap .i64 (s1.1 * 6)), (IntKind.wrap .i64 (s1.2 + 1))) else some s1.1)) fu (1, 0)
/-- loop.example/g01210/impl.fraction -/
def p_impl_fraction (fu : Nat) (x0 : Int) (x1 : Int) : Option ((List Int)) :=
  whl (fun (s1 : Int × Int) c3 => (if s1.2 = 0 then if s1.1 ≠ 0 then if s1.1 ≠ 0 then some [(IntKind.wrap .i64 (x0.tdiv s1.1)), (IntKind.wrap .i64 (x1.tdiv s1.1))] else none else none else if s1.2 ≠ 0 then c3 (s1.2, (s1.1.tmod s1.2)) else none)) fu (x0, x1)
/-- loop.example/g01210/impl.chanceOf -/
def p_impl_chanceOf (fu : Nat) (x0 : (List Int)) (x1 : Int) (x2 : (List Int)) (x3 : Int) : Option ((List Int)) :=
  (p_impl_numbers x0).bind (fun r1 => (p_impl_vectors fu (r1.length : Int) x1).bind (fun r3 => cnt (fun i6 (s5 : Int) c7 _ => (p_impl_ChanceAsFar_1 (r3.getD i6.toNat []) x2 x3).bind (fun r12 => (if r12 = true then (p_impl_chance fu x0 (r3.getD i6.toNat [])).bind (fun r14 => c7 (IntKind.wrap .i64 (s5 + r14))) else c7 s5))) (fun i6 (s5 : Int) => (p_impl_power fu x1).bind (fun r15 => (p_impl_fraction fu s5 r15).bind (fun r16 => some r16))) (Int.toNat ((r3.length : Int) - 0)) 0 0))
/-- loop.example/g01210/impl.ChanceAsFar -/
def p_impl_ChanceAsFar (fu : Nat) (x0 : (List Int)) (x1 : (List Int)) : Option ((List Int) × Bool) :=
  (p_impl_areCounts x0 x1).bind (fun r1 => (if ((!r1) || (!(p_impl_isTested (p_impl_total x1)))) = true then some ((List.replicate 2 0), false) else (p_impl_distance x0 x1).bind (fun r9 => (p_impl_chanceOf fu x0 (p_impl_total x1) x0 r9).bind (fun r10 => some (r10, true)))))
/-- loop.example/g01210/spec.l1In -/
def p_spec_l1In (x0 : Int) (x1 : Int) (x2 : Int) : Bool :=
  ((decide (x1 ≤ x0)) && (decide (x0 ≤ x2)))
/-- loop.example/g01210/spec.l2Die -/
def p_spec_l2Die (x0 : (List Int)) : Option (Bool) :=
  cnt (fun i2 (s1 : Unit) c3 _ => (if ((!(p_spec_l1In (x0.getD i2.toNat 0) 0 30)) || ((decide (0 < i2)) && (decide ((x0.getD i2.toNat 0) < (x0.getD (i2 - 1).toNat 0))))) = true then some false else c3 ())) (fun i2 (s1 : Unit) => some true) (Int.toNat (6 - 0)) 0 ()
/-- loop.example/g01210/spec.l11Counts -/
def p_spec_l11Counts (x0 : (List Int)) (x1 : (List Int)) : Option (Bool) :=
  (p_spec_l2Die x0).bind (fun r1 => (if r1 = true then (p_spec_l8Numbers x0).bind (fun r3 => (if (x1.length : Int) = (r3.length : Int) then cnt (fun i9 (s8 : Int) c10 _ => (if (p_spec_l1In (x1.getD i9.toNat 0) 0 12) = true then c10 (IntKind.wrap .i64 (s8 + (x1.getD i9.toNat 0))) else some false)) (fun i9 (s8 : Int) => some (decide (s8 ≤ 12))) (Int.toNat ((x1.length : Int) - 0)) 0 0 else some false)) else some false))
/-- loop.example/g01210/spec.l11Sum -/
def p_spec_l11Sum (x0 : (List Int)) : Int :=
  cnt (fun i2 (s1 : Int) c3 _ => c3 (IntKind.wrap .i64 (s1 + (x0.getD i2.toNat 0)))) (fun i2 (s1 : Int) => s1) (Int.toNat ((x0.length : Int) - 0)) 0 0
/-- loop.example/g01210/spec.l8Weight -/
def p_spec_l8Weight (x0 : (List Int)) (x1 : Int) : Int :=
  cnt (fun i2 (s1 : Int) c3 _ => (if (x0.getD i2.toNat 0) = x1 then c3 (IntKind.wrap .i64 (s1 + 1)) else c3 s1)) (fun i2 (s1 : Int) => s1) (Int.toNat (6 - 0)) 0 0
/-- loop.example/g01210/spec.l1Most -/
def p_spec_l1Most (x0 : Int) (x1 : Int) : Int :=
  (if x1 < x0 then x0 else x1)
/-- loop.example/g01210/spec.l2Cut -/
def p_spec_l2Cut (fu : Nat) (x0 : Int) (x1 : Int) : Option ((List Int)) :=
  whl (fun (s1 : Int × Int) c3 => (if 0 < s1.2 then c3 (s1.2, (s1.1.tmod s1.2)) else if (p_spec_l1Most s1.1 1) ≠ 0 then if (p_spec_l1Most s1.1 1) ≠ 0 then some [(IntKind.wrap .i64 (x0.tdiv (p_spec_l1Most s1.1 1))), (IntKind.wrap .i64 (x1.tdiv (p_spec_l1Most s1.1 1)))] else none else none)) fu (x0, x1)
/-- loop.example/g01210/spec.l2Plus -/
def p_spec_l2Plus (fu : Nat) (x0 : (List Int)) (x1 : (List Int)) : Option ((List Int)) :=
  (p_spec_l2Cut fu (IntKind.wrap .i64 ((IntKind.wrap .i64 ((x0.getD 0 0) * (x1.getD 1 0))) + (IntKind.wrap .i64 ((x1.getD 0 0) * (x0.getD 1 0))))) (IntKind.wrap .i64 ((x0.getD 1 0) * (x1.getD 1 0)))).bind (fun r1 => some r1)
/-- loop.example/g01210/spec.l11Distance -/
def p_spec_l11Distance (fu : Nat) (x0 : (List Int)) (x1 : (List Int)) : Option ((List Int)) :=
  (p_spec_l8Numbers x0).bind (fun r1 => cnt (fun i5 (s4 : (List Int)) c6 k20 => (if ((decide (i5 < (x1.length : Int))) && (decide (0 < (p_spec_l11Sum x1)))) = true then if i5 < (r1.length : Int) then (p_spec_l2Cut fu (IntKind.wrap .i64 ((IntKind.wrap .i64 ((IntKind.wrap .i64 (6 * (x1.getD i5.toNat 0))) - (IntKind.wrap .i64 ((p_spec_l11Sum x1) * (p_spec_l8Weight x0 (r1.getD i5.toNat 0)))))) * (IntKind.wrap .i64 ((IntKind.wrap .i64 (6 * (x1.getD i5.toNat 0))) - (IntKind.wrap .i64 ((p_spec_l11Sum x1) * (p_spec_l8Weight x0 (r1.getD i5.toNat 0)))))))) (IntKind.wrap .i64 ((IntKind.wrap .i64 (6 * (p_spec_l11Sum x1))) * (p_spec_l8Weight x0 (r1.getD i5.toNat 0))))).bind (fun r18 => (p_spec_l2Plus fu s4 r18).bind (fun r19 => c6 r19)) else none else k20 i5 s4)) (fun i5 (s4 : (List Int)) => some s4) (Int.toNat ((x1.length : Int) - 0)) 0 [0, 1])
/-- loop.example/g01210/spec.l11Vectors -/
def p_spec_l11Vectors : Nat → Int → Int → Option ((List (List Int)))
  | 0, _, _ => none
  | fu + 1, x0, x1 => (if x0 = 1 then some [[x1]] else whl (fun (s4 : Int × (List (List Int))) c6 => (if s4.1 ≤ x1 then (p_spec_l11Vectors fu (IntKind.wrap .i64 (x0 - 1)) (IntKind.wrap .i64 (x1 - s4.1))).bind (fun r11 => cnt (fun i14 (s13 : (List (List Int))) c15 _ => if 1 + ((r11.getD i14.toNat []).length : Int) ≤ 1000000000 then if (s13.length : Int) + 1 ≤ 1000000000 then c15 (s13 ++ [([s4.1] ++ (r11.getD i14.toNat []))]) else none else none) (fun i14 (s13 : (List (List Int))) => c6 ((IntKind.wrap .i64 (s4.1 + 1)), s13)) (Int.toNat ((r11.length : Int) - 0)) 0 s4.2) else some s4.2)) fu (0, []))
/-- loop.example/g01210/spec.l2Less -/
def p_spec_l2Less (x0 : (List Int)) (x1 : (List Int)) : Bool :=
  (decide ((IntKind.wrap .i64 ((x0.getD 0 0) * (x1.getD 1 0))) < (IntKind.wrap .i64 ((x1.getD 0 0) * (x0.getD 1 0)))))
/-- loop.example/g01210/spec.l8Power -/
def p_spec_l8Power (fu : Nat) (x0 : Int) (x1 : Int) : Option (Int) :=
  whl (fun (s1 : Int × Int) c3 => (if s1.2 < x1 then c3 ((IntKind.wrap .i64 (s1.1 * x0)), (IntKind.wrap .i64 (s1.2 + 1))) else some s1.1)) fu (1, 0)
/-- loop.example/g01210/spec.l11Ways -/
def p_spec_l11Ways (fu : Nat) (x0 : (List Int)) (x1 : (List Int)) : Option (Int) :=
  (p_spec_l8Numbers x0).bind (fun r1 => cnt (fun i4 (s3 : Int) c5 _ => if i4 < (r1.length : Int) then (p_spec_l8Power fu (p_spec_l8Weight x0 (r1.getD i4.toNat 0)) (x1.getD i4.toNat 0)).bind (fun r11 => c5 (IntKind.wrap .i64 (s3 * r11))) else none) (fun i4 (s3 : Int) => some s3) (Int.toNat ((x1.length : Int) - 0)) 0 1)
/-- loop.example/g01210/spec.l11Orders -/
def p_spec_l11Orders (fu : Nat) (x0 : (List Int)) : Option (Int) :=
  cnt (fun i2 (s1 : Int × Int) c3 _ => whl (fun (s8 : Int × Int × Int) c10 => (if s8.2.2 ≤ (x0.getD i2.toNat 0) then if s8.2.2 ≠ 0 then c10 ((IntKind.wrap .i64 ((IntKind.wrap .i64 (s8.1 * (IntKind.wrap .i64 (s8.2.1 + 1)))).tdiv s8.2.2)), (IntKind.wrap .i64 (s8.2.1 + 1)), (IntKind.wrap .i64 (s8.2.2 + 1))) else none else c3 (s8.1, s8.2.1))) fu (s1.1, s1.2, 1)) (fun i2 (s1 : Int × Int) => some s1.1) (Int.toNat ((x0.length : Int) - 0)) 0 (1, 0)
/-- loop.example/g01210/spec.l11Chance -/
def p_spec_l11Chance (fu : Nat) (x0 : (List Int)) (x1 : (List Int)) : Option (Int) :=
  (p_spec_l11Ways fu x0 x1).bind (fun r1 => (p_spec_l11Orders fu x1).bind (fun r2 => some (IntKind.wrap .i64 (r1 * r2))))
/-- loop.example/g01210/spec.l2All -/
def p_spec_l2All (fu : Nat) (x0 : Int) : Option (Int) :=
  whl (fun (s1 : Int × Int) c3 => (if s1.2 < x0 then c3 ((IntKind.wrap .i64 (s1.1 * 6)), (IntKind.wrap .i64 (s1.2 + 1))) else some s1.1)) fu (1, 0)
/-- loop.example/g01210/spec.ChanceAsFar -/
def p_spec_ChanceAsFar (fu : Nat) (x0 : (List Int)) (x1 : (List Int)) : Option ((List Int) × Bool) :=
  (p_spec_l11Counts x0 x1).bind (fun r1 => (if ((!r1) || (decide (8 < (p_spec_l11Sum x1)))) = true then some ((List.replicate 2 0), false) else (p_spec_l11Distance fu x0 x1).bind (fun r9 => (p_spec_l11Vectors fu (x1.length : Int) (p_spec_l11Sum x1)).bind (fun r10 => cnt (fun i13 (s12 : Int) c14 _ => (p_spec_l11Distance fu x0 (r10.getD i13.toNat [])).bind (fun r19 => (if (p_spec_l2Less r19 r9) = true then c14 s12 else (p_spec_l11Chance fu x0 (r10.getD i13.toNat [])).bind (fun r21 => c14 (IntKind.wrap .i64 (s12 + r21)))))) (fun i13 (s12 : Int) => (p_spec_l2All fu (p_spec_l11Sum x1)).bind (fun r22 => (p_spec_l2Cut fu s12 r22).bind (fun r23 => some (r23, true)))) (Int.toNat ((r10.length : Int) - 0)) 0 0))))
/-- loop.example/g01210/impl.ChanceAsRare$1 -/
def p_impl_ChanceAsRare_1 (fu : Nat) (x0 : (List Int)) (x1 : (List Int)) (x2 : Int) : Option (Bool) :=
  (p_impl_chance fu x1 x0).bind (fun r1 => some (decide (r1 ≤ x2)))
/-- loop.example/g01210/impl.chanceOf -/
def p_impl_chanceOfv1 (fu : Nat) (x0 : (List Int)) (x1 : Int) (x2 : (List Int)) (x3 : Int) : Option ((List Int)) :=
  (p_impl_numbers x0).bind (fun r1 => (p_impl_vectors fu (r1.length : Int) x1).bind (fun r3 => cnt (fun i6 (s5 : Int) c7 _ => (p_impl_ChanceAsRare_1 fu (r3.getD i6.toNat []) x2 x3).bind (fun r12 => (if r12 = true then (p_impl_chance fu x0 (r3.getD i6.toNat [])).bind (fun r14 => c7 (IntKind.wrap .i64 (s5 + r14))) else c7 s5))) (fun i6 (s5 : Int) => (p_impl_power fu x1).bind (fun r15 => (p_impl_fraction fu s5 r15).bind (fun r16 => some r16))) (Int.toNat ((r3.length : Int) - 0)) 0 0))
/-- loop.example/g01210/impl.ChanceAsRare -/
def p_impl_ChanceAsRare (fu : Nat) (x0 : (List Int)) (x1 : (List Int)) : Option ((List Int) × Bool) :=
  (p_impl_areCounts x0 x1).bind (fun r1 => (if ((!r1) || (!(p_impl_isTested (p_impl_total x1)))) = true then some ((List.replicate 2 0), false) else (p_impl_chance fu x0 x1).bind (fun r9 => (p_impl_chanceOfv1 fu x0 (p_impl_total x1) x0 r9).bind (fun r10 => some (r10, true)))))
/-- loop.example/g01210/spec.ChanceAsRare -/
def p_spec_ChanceAsRare (fu : Nat) (x0 : (List Int)) (x1 : (List Int)) : Option ((List Int) × Bool) :=
  (p_spec_l11Counts x0 x1).bind (fun r1 => (if ((!r1) || (decide (8 < (p_spec_l11Sum x1)))) = true then some ((List.replicate 2 0), false) else (p_spec_l11Chance fu x0 x1).bind (fun r9 => (p_spec_l11Vectors fu (x1.length : Int) (p_spec_l11Sum x1)).bind (fun r10 => cnt (fun i13 (s12 : Int) c14 _ => (p_spec_l11Chance fu x0 (r10.getD i13.toNat [])).bind (fun r19 => (if r19 ≤ r9 then c14 (IntKind.wrap .i64 (s12 + r19)) else c14 s12))) (fun i13 (s12 : Int) => (p_spec_l2All fu (p_spec_l11Sum x1)).bind (fun r23 => (p_spec_l2Cut fu s12 r23).bind (fun r24 => some (r24, true)))) (Int.toNat ((r10.length : Int) - 0)) 0 0))))
/-- loop.example/g01210/laws.vCut -/
def p_laws_vCut (x0 : (List Int)) (x1 : Int) : Option ((List Int)) :=
  jn (fun (s1 : Int) => if 0 ≤ s1 then if s1 ≤ (x0.length : Int) then if 0 + ((x0.length : Int) - s1) ≤ 1000000000 then if (0 + ((x0.length : Int) - s1)) + 1 ≤ 1000000000 then some (([] ++ (x0.drop s1.toNat)) ++ [(IntKind.wrap .u8 s1)]) else none else none else none else none) (fun k2 => (if (x0.length : Int) < x1 then k2 (x0.length : Int) else k2 x1))
/-- (*loop.example/g01210/spec.l1Cur).pool -/
def p_spec_l1Cur_pool (fu : Nat) (x0 : (List Int)) (x1 : Int) (x2 : Int) : Option ((List (List Int)) × Int × Int) :=
  (p_spec_l1Cur_among [2, 3, 1, 2, 4] x0 x1 x2).bind (fun r1 => whl (fun (s2 : Int × Int × Int × (List (List Int))) c4 => (if 0 < s2.1 then (p_spec_l1Cur_die x0 s2.2.1 s2.2.2.1).bind (fun r9 => (if 0 < (s2.2.2.2.length : Int) then (p_spec_l1Cur_one 3 x0 r9.2.1 r9.2.2).bind (fun r13 => (if r13.1 = true then if (s2.2.2.2.length : Int) + 1 ≤ 1000000000 then c4 ((IntKind.wrap .i64 (s2.1 - 1)), r13.2.1, r13.2.2, (s2.2.2.2 ++ [(s2.2.2.2.getD 0 (List.replicate 6 0))])) else none else if (s2.2.2.2.length : Int) + 1 ≤ 1000000000 then c4 ((IntKind.wrap .i64 (s2.1 - 1)), r13.2.1, r13.2.2, (s2.2.2.2 ++ [r9.1])) else none)) else c4 ((IntKind.wrap .i64 (s2.1 - 1)), r9.2.1, r9.2.2, (s2.2.2.2 ++ [r9.1])))) else (p_spec_l1Cur_pick 50 x0 s2.2.1 s2.2.2.1).bind (fun r17 => (if r17.1 = 0 then some ([], r17.2.1, r17.2.2) else (if r17.1 = 1 then whl (fun (s24 : (List (List Int))) c26 => (if (s24.length : Int) < 5 then if 0 < (s24.length : Int) then c26 (s24 ++ [(s24.getD 0 (List.replicate 6 0))]) else none else some (s24, r17.2.1, r17.2.2))) fu s2.2.2.2 else some (s2.2.2.2, r17.2.1, r17.2.2)))))) fu (r1.1, r1.2.1, r1.2.2, []))
/-- (*loop.example/g01210/spec.l1Cur).rolls11 -/
def p_spec_l1Cur_rolls11 (fu : Nat) (x0 : (List Int)) (x1 : (List Int)) (x2 : Int) (x3 : Int) : Option ((List Int) × Int × Int) :=
  (p_spec_l1Cur_among [3, 4, 2, 1, 0, 6, 12] x1 x2 x3).bind (fun r1 => whl (fun (s2 : Int × Int × Int × (List Int)) c4 => (if 0 < s2.1 then (p_spec_l1Cur_pick 6 x1 s2.2.1 s2.2.2.1).bind (fun r9 => if 0 ≤ r9.1 then if r9.1 < 6 then if (s2.2.2.2.length : Int) + 1 ≤ 1000000000 then c4 ((IntKind.wrap .i64 (s2.1 - 1)), r9.2.1, r9.2.2, (s2.2.2.2 ++ [(x0.getD r9.1.toNat 0)])) else none else none else none) else (p_spec_l1Cur_pick 30 x1 s2.2.1 s2.2.2.1).bind (fun r13 => (if r13.1 = 0 then (p_spec_l1Cur_among [(-1), 31, 7, 4611686018427387904] x1 r13.2.1 r13.2.2).bind (fun r17 => if (s2.2.2.2.length : Int) + 1 ≤ 1000000000 then some ((s2.2.2.2 ++ [r17.1]), r17.2.1, r17.2.2) else none) else (if r13.1 = 1 then whl (fun (s22 : (List Int)) c24 => (if (s22.length : Int) < 13 then c24 (s22 ++ [(x0.getD 0 0)]) else some (s22, r13.2.1, r13.2.2))) fu s2.2.2.2 else some (s2.2.2.2, r13.2.1, r13.2.2)))))) fu (r1.1, r1.2.1, r1.2.2, []))
/-- loop.example/g01210/spec.DrawWhichDie -/
def p_spec_DrawWhichDie (fu : Nat) (x0 : (List Int)) : Option ((List (List Int)) × (List Int) × (List Int)) :=
  (p_spec_l1Cur_pool fu x0 0 0).bind (fun r1 => cnt (fun i4 (s3 : Int × Int × (List Int) × (List Int)) c5 k31 => (if ((decide (i4 < (r1.1.length : Int))) && (decide (i4 < 5))) = true then (p_spec_l1Cur_among [1, 1, 2, 3, 0, 99] x0 s3.1 s3.2.1).bind (fun r16 => if (s3.2.2.2.length : Int) + 1 ≤ 1000000000 then (p_spec_l1Cur_one 2 x0 r16.2.1 r16.2.2).bind (fun r18 => (if r18.1 = true then c5 (r18.2.1, r18.2.2, (r1.1.getD i4.toNat (List.replicate 6 0)), (s3.2.2.2 ++ [r16.1])) else c5 (r18.2.1, r18.2.2, s3.2.2.1, (s3.2.2.2 ++ [r16.1])))) else none) else k31 i4 s3)) (fun i4 (s3 : Int × Int × (List Int) × (List Int)) => jn (fun (s20 : Int × Int × (List Int)) => (p_spec_l1Cur_rolls11 fu s3.2.2.1 x0 s20.1 s20.2.1).bind (fun r23 => some (r1.1, s20.2.2, r23.1))) (fun k21 => (if 0 < (s3.2.2.2.length : Int) then (p_spec_l1Cur_one 24 x0 s3.1 s3.2.1).bind (fun r28 => (if r28.1 = true then (p_spec_l1Cur_among [(-1), 100] x0 r28.2.1 r28.2.2).bind (fun r30 => k21 (r30.2.1, r30.2.2, (s3.2.2.2.set 0 r30.1))) else k21 (r28.2.1, r28.2.2, s3.2.2.2))) else k21 (s3.1, s3.2.1, s3.2.2.2)))) (Int.toNat ((r1.1.length : Int) - 0)) 0 (r1.2.1, r1.2.2, [1, 2, 3, 4, 5, 6], []))
/-- loop.example/g01210/impl.areAll[[6]int]$1 -/
def p_impl_areAll_6_int_1 (x0 : (List Int)) : Bool :=
  (!(p_impl_IsDie x0))
/-- slices.IndexFunc[[][6]int,[6]int] -/
def p_slices_IndexFunc_6_int_6_int (x0 : (List (List Int))) : Int :=
  cnt (fun i2 (s1 : Unit) c3 _ => (if (p_impl_areAll_6_int_1 (x0.getD i2.toNat (List.replicate 6 0))) = true then i2 else c3 ())) (fun i2 (s1 : Unit) => (-1)) (Int.toNat ((x0.length : Int) - 0)) 0 ()
/-- slices.ContainsFunc[[][6]int,[6]int] -/
def p_slices_ContainsFunc_6_int_6_int (x0 : (List (List Int))) : Bool :=
  (decide (0 ≤ (p_slices_IndexFunc_6_int_6_int x0)))
/-- loop.example/g01210/impl.areAll[[6]int] -/
def p_impl_areAll_6_int (x0 : (List (List Int))) : Bool :=
  (!(p_slices_ContainsFunc_6_int_6_int x0))
/-- loop.example/g01210/impl.IsPool -/
def p_impl_IsPool (x0 : (List (List Int))) : Bool :=
  ((p_impl_within (x0.length : Int) 1 4) && (p_impl_areAll_6_int x0))
/-- loop.example/g01210/impl.WhichDie$1 -/
def p_impl_WhichDie_1 (x0 : Int) : Bool :=
  (p_impl_within x0 0 99)
/-- loop.example/g01210/impl.areAll[int]$1 -/
def p_impl_areAll_int_1v2 (x0 : Int) : Bool :=
  (!(p_impl_WhichDie_1 x0))
/-- slices.IndexFunc[[]int,int] -/
def p_slices_IndexFunc_int_intv2 (x0 : (List Int)) : Int :=
  cnt (fun i2 (s1 : Unit) c3 _ => (if (p_impl_areAll_int_1v2 (x0.getD i2.toNat 0)) = true then i2 else c3 ())) (fun i2 (s1 : Unit) => (-1)) (Int.toNat ((x0.length : Int) - 0)) 0 ()
/-- slices.ContainsFunc[[]int,int] -/
def p_slices_ContainsFunc_int_intv2 (x0 : (List Int)) : Bool :=
  (decide (0 ≤ (p_slices_IndexFunc_int_intv2 x0)))
/-- loop.example/g01210/impl.areAll[int] -/
def p_impl_areAll_intv2 (x0 : (List Int)) : Bool :=
  (!(p_slices_ContainsFunc_int_intv2 x0))
/-- loop.example/g01210/impl.areSeen -/
def p_impl_areSeen (x0 : (List Int)) : Bool :=
  ((decide ((x0.length : Int) ≤ 12)) && (p_impl_areAll_int x0))
/-- loop.example/g01210/impl.faces -/
def p_impl_faces (x0 : (List Int)) (x1 : (List Int)) : Int :=
  cnt (fun i2 (s1 : Int) c3 _ => c3 (IntKind.wrap .i64 (s1 * (p_impl_weight x0 (x1.getD i2.toNat 0))))) (fun i2 (s1 : Int) => s1) (Int.toNat ((x1.length : Int) - 0)) 0 1
/-- loop.example/g01210/impl.WhichDie -/
def p_impl_WhichDie (fu : Nat) (x0 : (List (List Int))) (x1 : (List Int)) (x2 : (List Int)) : Option ((List (List Int)) × Bool) :=
  (if ((((!(p_impl_IsPool x0)) || (!(decide ((x1.length : Int) = (x0.length : Int))))) || (!(p_impl_areAll_intv2 x1))) || (!(p_impl_areSeen x2))) = true then some ([], false) else cnt (fun i45 (s44 : (List Int)) c46 _ => if (s44.length : Int) + 1 ≤ 1000000000 then c46 (s44 ++ [(IntKind.wrap .i64 ((x1.getD i45.toNat 0) * (p_impl_faces (x0.getD i45.toNat (List.replicate 6 0)) x2)))]) else none) (fun i45 (s44 : (List Int)) => (if (p_impl_total s44) = 0 then some ([], false) else whl (fun (s55 : Int × (List (List Int))) c57 => (if s55.1 < (s44.length : Int) then if 0 ≤ s55.1 then (p_impl_fraction fu (s44.getD s55.1.toNat 0) (p_impl_total s44)).bind (fun r63 => if (s55.2.length : Int) + 1 ≤ 1000000000 then c57 ((IntKind.wrap .i64 (s55.1 + 1)), (s55.2 ++ [r63])) else none) else none else some (s55.2, true))) fu (0, []))) (Int.toNat ((x0.length : Int) - 0)) 0 [])
/-- loop.example/g01210/spec.l2Pool -/
def p_spec_l2Pool (x0 : (List (List Int))) : Option (Bool) :=
  cnt (fun i2 (s1 : Unit) c3 k16 => (if ((decide (i2 < (x0.length : Int))) && (decide (i2 ≤ 4))) = true then (p_spec_l2Die (x0.getD i2.toNat (List.replicate 6 0))).bind (fun r14 => (if r14 = true then c3 () else some false)) else k16 i2 s1)) (fun i2 (s1 : Unit) => some (p_spec_l1In (x0.length : Int) 1 4)) (Int.toNat ((x0.length : Int) - 0)) 0 ()
/-- loop.example/g01210/spec.l11Rolls -/
def p_spec_l11Rolls (x0 : (List Int)) : Bool :=
  cnt (fun i2 (s1 : Unit) c3 k15 => (if ((decide (i2 < (x0.length : Int))) && (decide (i2 ≤ 12))) = true then (if (p_spec_l1In (x0.getD i2.toNat 0) 0 30) = true then c3 () else false) else k15 i2 s1)) (fun i2 (s1 : Unit) => (decide ((x0.length : Int) ≤ 12))) (Int.toNat ((x0.length : Int) - 0)) 0 ()
/-- loop.example/g01210/spec.l11Likely -/
def p_spec_l11Likely (x0 : (List Int)) (x1 : (List Int)) : Int :=
  cnt (fun i2 (s1 : Int) c3 _ => c3 (IntKind.wrap .i64 (s1 * (p_spec_l8Weight x0 (x1.getD i2.toNat 0))))) (fun i2 (s1 : Int) => s1) (Int.toNat ((x1.length : Int) - 0)) 0 1
/-- loop.example/g01210/spec.WhichDie -/
def p_spec_WhichDie (fu : Nat) (x0 : (List (List Int))) (x1 : (List Int)) (x2 : (List Int)) : Option ((List (List Int)) × Bool) :=
  (p_spec_l2Pool x0).bind (fun r1 => (if (((!r1) || (!(decide ((x1.length : Int) = (x0.length : Int))))) || (!(p_spec_l11Rolls x2))) = true then some ([], false) else cnt (fun i26 (s25 : Int) c27 _ => (if (p_spec_l1In (x1.getD i26.toNat 0) 0 99) = true then c27 (IntKind.wrap .i64 (s25 + (IntKind.wrap .i64 ((x1.getD i26.toNat 0) * (p_spec_l11Likely (x0.getD i26.toNat (List.replicate 6 0)) x2))))) else some ([], false))) (fun i26 (s25 : Int) => cnt (fun i34 (s33 : (List (List Int))) c35 k48 => (if ((decide (i34 < (x0.length : Int))) && (decide (0 < s25))) = true then (p_spec_l2Cut fu (IntKind.wrap .i64 ((x1.getD i34.toNat 0) * (p_spec_l11Likely (x0.getD i34.toNat (List.replicate 6 0)) x2))) s25).bind (fun r46 => if (s33.length : Int) + 1 ≤ 1000000000 then c35 (s33 ++ [r46]) else none) else k48 i34 s33)) (fun i34 (s33 : (List (List Int))) => some (s33, (decide (0 < s25)))) (Int.toNat ((x0.length : Int) - 0)) 0 []) (Int.toNat ((x0.length : Int) - 0)) 0 0))
/-- loop.example/g01210/spec.DrawMoreLikely -/
def p_spec_DrawMoreLikely (fu : Nat) (x0 : (List Int)) : Option ((List Int) × (List Int) × (List Int)) :=
  (p_spec_l1Cur_die x0 0 0).bind (fun r1 => (p_spec_l1Cur_die x0 r1.2.1 r1.2.2).bind (fun r2 => jn (fun (s3 : Int × Int × (List Int)) => (p_spec_l1Cur_rolls11 fu s3.2.2 x0 s3.1 s3.2.1).bind (fun r6 => some (r1.1, r2.1, r6.1))) (fun k4 => (p_spec_l1Cur_one 2 x0 r2.2.1 r2.2.2).bind (fun r23 => (if r23.1 = true then k4 (r23.2.1, r23.2.2, r2.1) else k4 (r23.2.1, r23.2.2, r1.1))))))
/-- cmp.Compare[int] -/
def p_cmp_Compare_int (x0 : Int) (x1 : Int) : Int :=
  (if (p_cmp_isNaN_int x0) = true then (if (p_cmp_isNaN_int x1) = true then 0 else (-1)) else (if (p_cmp_isNaN_int x1) = true then 1 else (if x0 < x1 then (-1) else (if x1 < x0 then 1 else 0))))
/-- loop.example/g01210/impl.MoreLikely -/
def p_impl_MoreLikely (x0 : (List Int)) (x1 : (List Int)) (x2 : (List Int)) : Int × Bool :=
  (if (((!(p_impl_IsDie x0)) || (!(p_impl_IsDie x1))) || (!(p_impl_areSeen x2))) = true then (0, false) else ((p_cmp_Compare_int (p_impl_faces x0 x2) (p_impl_faces x1 x2)), true))
/-- loop.example/g01210/spec.MoreLikely -/
def p_spec_MoreLikely (x0 : (List Int)) (x1 : (List Int)) (x2 : (List Int)) : Option (Int × Bool) :=
  (p_spec_l2Die x0).bind (fun r1 => if ((!(!r1)) = true → (p_spec_l2Die x1).isSome = true) then (if (((!r1) || (!((p_spec_l2Die x1).getD false))) || (!(p_spec_l11Rolls x2))) = true then some (0, false) else (if (p_spec_l11Likely x1 x2) < (p_spec_l11Likely x0 x2) then some (1, true) else (if (p_spec_l11Likely x0 x2) < (p_spec_l11Likely x1 x2) then some ((-1), true) else some (0, true)))) else none)
/-- loop.example/g01210/spec.DrawCountVectors -/
def p_spec_DrawCountVectors (x0 : (List Int)) : Option ((List Int) × Int) :=
  (p_spec_l1Cur_die x0 0 0).bind (fun r1 => (p_spec_l1Cur_pick 24 x0 r1.2.1 r1.2.2).bind (fun r2 => if 0 ≤ (IntKind.wrap .i64 (5 + (IntKind.wrap .i64 (r2.1.tdiv 8)))) then if (IntKind.wrap .i64 (5 + (IntKind.wrap .i64 (r2.1.tdiv 8)))) ≤ 8 then (p_spec_l1Cur_among ([2, 3, 1, 4, 0, 8, 9, (-1)].take (IntKind.wrap .i64 (5 + (IntKind.wrap .i64 (r2.1.tdiv 8)))).toNat) x0 r2.2.1 r2.2.2).bind (fun r5 => some (r1.1, r5.1)) else none else none))
/-- loop.example/g01210/spec.DrawChanceMissing -/
def p_spec_DrawChanceMissing (x0 : (List Int)) : Option ((List Int) × Int × Int) :=
  (p_spec_DrawCountVectors x0).bind (fun r1 => (p_spec_l1Cur_pick 24 x0 0 0).bind (fun r2 => if 0 ≤ (IntKind.wrap .i64 (6 + (IntKind.wrap .i64 (r2.1.tdiv 11)))) then if (IntKind.wrap .i64 (6 + (IntKind.wrap .i64 (r2.1.tdiv 11)))) ≤ 8 then (p_spec_l1Cur_among ([1, 0, 2, 3, 5, 6, 7, (-1)].take (IntKind.wrap .i64 (6 + (IntKind.wrap .i64 (r2.1.tdiv 11)))).toNat) x0 r2.2.1 r2.2.2).bind (fun r5 => some (r1.1, r1.2, r5.1)) else none else none))
/-- loop.example/g01210/impl.ChanceMissing$1 -/
def p_impl_ChanceMissing_1 (x0 : (List Int)) (x1 : Int) : Bool :=
  cnt (fun i2 (s1 : Int) c3 _ => c3 (IntKind.wrap .i64 (s1 + (p_impl_truth (decide ((x0.getD i2.toNat 0) = 0)))))) (fun i2 (s1 : Int) => (decide (s1 = x1))) (Int.toNat ((x0.length : Int) - 0)) 0 0
/-- loop.example/g01210/impl.chanceOf -/
def p_impl_chanceOfv2 (fu : Nat) (x0 : (List Int)) (x1 : Int) (x2 : Int) : Option ((List Int)) :=
  (p_impl_numbers x0).bind (fun r1 => (p_impl_vectors fu (r1.length : Int) x1).bind (fun r3 => cnt (fun i6 (s5 : Int) c7 _ => (if (p_impl_ChanceMissing_1 (r3.getD i6.toNat []) x2) = true then (p_impl_chance fu x0 (r3.getD i6.toNat [])).bind (fun r13 => c7 (IntKind.wrap .i64 (s5 + r13))) else c7 s5)) (fun i6 (s5 : Int) => (p_impl_power fu x1).bind (fun r14 => (p_impl_fraction fu s5 r14).bind (fun r15 => some r15))) (Int.toNat ((r3.length : Int) - 0)) 0 0))
/-- loop.example/g01210/impl.ChanceMissing -/
def p_impl_ChanceMissing (fu : Nat) (x0 : (List Int)) (x1 : Int) (x2 : Int) : Option ((List Int) × Bool) :=
  (if (((!(p_impl_IsDie x0)) || (!(p_impl_isTested x1))) || (!(p_impl_within x2 0 6))) = true then some ((List.replicate 2 0), false) else (p_impl_chanceOfv2 fu x0 x1 x2).bind (fun r18 => some (r18, true)))
/-- loop.example/g01210/spec.l11Tested -/
def p_spec_l11Tested (x0 : (List Int)) (x1 : Int) : Option (Bool) :=
  (p_spec_l2Die x0).bind (fun r1 => some (r1 && (p_spec_l1In x1 0 8)))
/-- loop.example/g01210/spec.ChanceMissing -/
def p_spec_ChanceMissing (fu : Nat) (x0 : (List Int)) (x1 : Int) (x2 : Int) : Option ((List Int) × Bool) :=
  (p_spec_l11Tested x0 x1).bind (fun r1 => (if ((!r1) || (!(p_spec_l1In x2 0 6))) = true then some ((List.replicate 2 0), false) else (p_spec_l8Numbers x0).bind (fun r8 => (p_spec_l11Vectors fu (r8.length : Int) x1).bind (fun r10 => cnt (fun i13 (s12 : Int) c14 _ => whl (fun (s19 : Int × Int) c21 => (if s19.2 < ((r10.getD i13.toNat []).length : Int) then if 0 ≤ s19.2 then (if ((r10.getD i13.toNat []).getD s19.2.toNat 0) = 0 then c21 ((IntKind.wrap .i64 (s19.1 + 1)), (IntKind.wrap .i64 (s19.2 + 1))) else c21 (s19.1, (IntKind.wrap .i64 (s19.2 + 1)))) else none else (if s19.1 = x2 then (p_spec_l11Chance fu x0 (r10.getD i13.toNat [])).bind (fun r33 => c14 (IntKind.wrap .i64 (s12 + r33))) else c14 s12))) fu (0, 0)) (fun i13 (s12 : Int) => (p_spec_l2All fu x1).bind (fun r34 => (p_spec_l2Cut fu s12 r34).bind (fun r35 => some (r35, true)))) (Int.toNat ((r10.length : Int) - 0)) 0 0))))
/-- loop.example/g01210/laws.vPairs -/
def p_laws_vPairs (x0 : (List (List Int))) (x1 : (List (List Int))) : Bool :=
  (if (x0.length : Int) = (x1.length : Int) then cnt (fun i5 (s4 : Unit) c6 _ => (if (x0.getD i5.toNat (List.replicate 2 0)) = (x1.getD i5.toNat (List.replicate 2 0)) then c6 () else false)) (fun i5 (s4 : Unit) => true) (Int.toNat ((x0.length : Int) - 0)) 0 () else false)
/-- loop.example/g01210/laws.vPlus -/
def p_laws_vPlus (fu : Nat) (x0 : (List Int)) (x1 : (List Int)) : Option ((List Int)) :=
  whl (fun (s1 : Int × Int) c3 => (if 0 < s1.2 then c3 (s1.2, (s1.1.tmod s1.2)) else if s1.1 ≠ 0 then if s1.1 ≠ 0 then if s1.1 ≠ 0 then whl (fun (s11 : Int × Int) c13 => (if 0 < s11.2 then c13 (s11.2, (s11.1.tmod s11.2)) else if s11.1 ≠ 0 then if s11.1 ≠ 0 then some [(IntKind.wrap .i64 ((IntKind.wrap .i64 ((IntKind.wrap .i64 ((x0.getD 0 0) * (IntKind.wrap .i64 ((x1.getD 1 0).tdiv s1.1)))) + (IntKind.wrap .i64 ((x1.getD 0 0) * (IntKind.wrap .i64 ((x0.getD 1 0).tdiv s1.1)))))).tdiv s11.1)), (IntKind.wrap .i64 ((IntKind.wrap .i64 ((IntKind.wrap .i64 ((x0.getD 1 0).tdiv s1.1)) * (x1.getD 1 0))).tdiv s11.1))] else none else none)) fu ((IntKind.wrap .i64 ((IntKind.wrap .i64 ((x0.getD 0 0) * (IntKind.wrap .i64 ((x1.getD 1 0).tdiv s1.1)))) + (IntKind.wrap .i64 ((x1.getD 0 0) * (IntKind.wrap .i64 ((x0.getD 1 0).tdiv s1.1)))))), (IntKind.wrap .i64 ((IntKind.wrap .i64 ((x0.getD 1 0).tdiv s1.1)) * (x1.getD 1 0)))) else none else none else none)) fu ((x0.getD 1 0), (x1.getD 1 0))
/-- loop.example/g01210/impl.isRolls -/
def p_impl_isRolls (x0 : Int) : Bool :=
  (p_impl_within x0 0 12)
/-- loop.example/g01210/impl.isIn -/
def p_impl_isIn (x0 : Int) (x1 : Int) : Option (Bool) :=
  if 0 ≤ x1 then some (decide ((andI .i64 (shrI .i64 x0 x1) 1) = 1)) else none
/-- loop.example/g01210/impl.ChanceAll$1 -/
def p_impl_ChanceAll_1 (fu : Nat) (x0 : Int) (x1 : Int) (x2 : Int) (x3 : Int) : Option (Int) :=
  (p_impl_raised fu (IntKind.wrap .i64 (6 - x0)) x3).bind (fun r1 => some (IntKind.wrap .i64 (x2 + (IntKind.wrap .i64 (x1 * r1)))))
/-- loop.example/g01210/impl.parts -/
def p_impl_parts (fu : Nat) (x0 : (List Int)) (x1 : Int) (x2 : Int) : Option (Int) :=
  (p_impl_numbers x0).bind (fun r1 => whl (fun (s3 : Int × Int) c5 => (if s3.1 < (shlI .i64 1 (r1.length : Int)) then cnt (fun i11 (s10 : Int × Int) c12 _ => (p_impl_isIn s3.1 i11).bind (fun r17 => (if r17 = true then c12 ((IntKind.wrap .i64 (s10.1 + (p_impl_weight x0 (r1.getD i11.toNat 0)))), (IntKind.wrap .i64 (0 - s10.2))) else c12 (s10.1, s10.2)))) (fun i11 (s10 : Int × Int) => (p_impl_ChanceAll_1 fu s10.1 s10.2 s3.2 x2).bind (fun r19 => c5 ((IntKind.wrap .i64 (s3.1 + 1)), r19))) (Int.toNat ((r1.length : Int) - 0)) 0 (0, 1) else some s3.2)) fu (0, x1))
/-- loop.example/g01210/impl.ChanceAll -/
def p_impl_ChanceAll (fu : Nat) (x0 : (List Int)) (x1 : Int) : Option ((List Int) × Bool) :=
  (if ((!(p_impl_IsDie x0)) || (!(p_impl_isRolls x1))) = true then some ((List.replicate 2 0), false) else (p_impl_parts fu x0 0 x1).bind (fun r7 => (p_impl_power fu x1).bind (fun r8 => (p_impl_fraction fu r7 r8).bind (fun r9 => some (r9, true)))))
/-- loop.example/g01210/impl.ChanceOfCounts -/
def p_impl_ChanceOfCounts (fu : Nat) (x0 : (List Int)) (x1 : (List Int)) : Option ((List Int) × Bool) :=
  (p_impl_areCounts x0 x1).bind (fun r1 => (if r1 = true then (p_impl_chance fu x0 x1).bind (fun r3 => (p_impl_power fu (p_impl_total x1)).bind (fun r4 => (p_impl_fraction fu r3 r4).bind (fun r5 => some (r5, true)))) else some ((List.replicate 2 0), false)))
/-- loop.example/g01210/laws.vLess -/
def p_laws_vLess (x0 : (List Int)) (x1 : (List Int)) : Bool :=
  (decide ((IntKind.wrap .i64 ((x0.getD 0 0) * (x1.getD 1 0))) < (IntKind.wrap .i64 ((x1.getD 0 0) * (x0.getD 1 0)))))
/-- loop.example/g01210/laws.FnTests -/
def p_laws_FnTests (fu : Nat) (x0 : (List Int)) : Option (Bool) :=
  (if (p_laws_vBig x0) = true then some true else (p_spec_DrawChanceAsFar fu x0).bind (fun r2 => (p_impl_ChanceAsFar fu r2.1 r2.2).bind (fun r4 => (p_spec_ChanceAsFar fu r2.1 r2.2).bind (fun r5 => (p_impl_ChanceAsRare fu r2.1 r2.2).bind (fun r6 => (p_spec_ChanceAsRare fu r2.1 r2.2).bind (fun r7 => (p_laws_vCut x0 1).bind (fun r8 => (p_spec_DrawWhichDie fu r8).bind (fun r10 => (p_impl_WhichDie fu r10.1 r10.2.1 r10.2.2).bind (fun r14 => (p_spec_WhichDie fu r10.1 r10.2.1 r10.2.2).bind (fun r16 => (p_laws_vCut x0 2).bind (fun r18 => (p_spec_DrawMoreLikely fu r18).bind (fun r20 => (p_spec_MoreLikely r20.1 r20.2.1 r20.2.2).bind (fun r22 => (p_spec_DrawChanceMissing x0).bind (fun r23 => (p_impl_ChanceMissing fu r23.1 r23.2.1 r23.2.2).bind (fun r24 => (p_spec_ChanceMissing fu r23.1 r23.2.1 r23.2.2).bind (fun r25 => (if (((((((((((!(decide (r4.1 = r5.1))) || (r4.2 != r5.2)) || (!(decide (r6.1 = r7.1)))) || (r6.2 != r7.2)) || (r14.2 != r16.2)) || (!(p_laws_vPairs r14.1 r16.1))) || (!(decide ((p_impl_MoreLikely r20.1 r20.2.1 r20.2.2).1 = r22.1)))) || (((p_impl_MoreLikely r20.1 r20.2.1 r20.2.2).2) != r22.2)) || (!(decide (r24.1 = r25.1)))) || (r24.2 != r25.2)) || (r4.2 != r6.2)) = true then some false else jn (fun (s369 : Unit) => jn (fun (s372 : Unit) => jn (fun (s375 : Unit) => (if r4.2 = true then (p_impl_ChanceOfCounts fu r2.1 r2.2).bind (fun r379 => some ((((r379.2 && (!(p_laws_vLess r4.1 r379.1))) && (!(p_laws_vLess r6.1 r379.1))) && (!(p_laws_vLess [1, 1] r4.1))) && (!(p_laws_vLess [1, 1] r6.1)))) else some true)) (fun k376 => (if (r24.2 && (decide (r23.2.2 = 0))) = true then (p_impl_ChanceAll fu r23.1 r23.2.1).bind (fun r450 => (if ((!r450.2) || (!(decide (r450.1 = r24.1)))) = true then some false else k376 ())) else k376 ()))) (fun k373 => (if r14.2 = true then cnt (fun i459 (s458 : (List Int)) c460 _ => (if ((decide (((r14.1.getD i459.toNat (List.replicate 2 0)).getD 1 0) < 1)) || (decide (((r14.1.getD i459.toNat (List.replicate 2 0)).getD 0 0) < 0))) = true then some false else (p_laws_vPlus fu s458 (r14.1.getD i459.toNat (List.replicate 2 0))).bind (fun r482 => c460 r482))) (fun i459 (s458 : (List Int)) => (if ((!(decide ((r14.1.length : Int) = (r10.1.length : Int)))) || (!(decide (s458 = [1, 1])))) = true then some false else k373 ())) (Int.toNat ((r14.1.length : Int) - 0)) 0 [0, 1] else k373 ()))) (fun k370 => (if ((p_impl_MoreLikely r20.1 r20.2.1 r20.2.2).2) = true then (if ((!((p_impl_MoreLikely r20.2.1 r20.1 r20.2.2).2)) || (!(decide ((p_impl_MoreLikely r20.2.1 r20.1 r20.2.2).1 = (IntKind.wrap .i64 (0 - ((p_impl_MoreLikely r20.1 r20.2.1 r20.2.2).1))))))) = true then some false else k370 ()) else k370 ())))))))))))))))))))
end Go.GA
