/- Walks: what the Go functions compute, by the printed lines below; no further conditions. -/
import Derived.Test.YtddljmnmkiofmaaGaD
namespace Go.GA
open Go
set_option maxRecDepth 100000
set_option maxHeartbeats 2000000
set_option linter.unusedVariables false
set_option linter.unusedSimpArgs false
/-- loop.example/g01210/laws.vBig -/
def p_laws_vBig (x0 : (List Int)) : Bool :=
  (decide (65536 < (x0.length : Int)))
/-- (*loop.example/g01210/spec.l1Cur).next -/
def p_spec_l1Cur_next (x0 : (List Int)) (x1 : Int) (x2 : Int) : Option (Int × Int × Int) :=
  jn (fun (s1 : Int) => (if (IntKind.wrap .i64 (x1 + 1)) ≤ (x0.length : Int) then some (s1, (IntKind.wrap .i64 (x1 + 1)), (IntKind.wrap .u64 ((IntKind.wrap .u64 ((IntKind.wrap .u64 (x2 * 6364136223846793005)) + (IntKind.wrap .u64 s1))) + 462197))) else some ((IntKind.wrap .i64 (andI .u64 (shrI .u64 (IntKind.wrap .u64 ((IntKind.wrap .u64 ((IntKind.wrap .u64 (x2 * 6364136223846793005)) + (IntKind.wrap .u64 s1))) + 462197)) 40) 255)), (IntKind.wrap .i64 (x1 + 1)), (IntKind.wrap .u64 ((IntKind.wrap .u64 ((IntKind.wrap .u64 (x2 * 6364136223846793005)) + (IntKind.wrap .u64 s1))) + 462197))))) (fun k2 => (if x1 < (x0.length : Int) then if 0 ≤ x1 then k2 (IntKind.wrap .i64 (x0.getD x1.toNat 0)) else none else k2 0))
/-- (*loop.example/g01210/spec.l1Cur).pick -/
def p_spec_l1Cur_pick (x0 : Int) (x1 : (List Int)) (x2 : Int) (x3 : Int) : Option (Int × Int × Int) :=
  (if x0 ≤ 1 then some (0, x2, x3) else (p_spec_l1Cur_next x1 x2 x3).bind (fun r4 => (if 200 < x0 then (p_spec_l1Cur_next x1 r4.2.1 r4.2.2).bind (fun r8 => some (((IntKind.wrap .i64 ((IntKind.wrap .i64 (r4.1 * 256)) + r8.1)).tmod x0), r8.2.1, r8.2.2)) else some ((r4.1.tmod x0), r4.2.1, r4.2.2))))
/-- (*loop.example/g01210/spec.l1Cur).among -/
def p_spec_l1Cur_among (x0 : (List Int)) (x1 : (List Int)) (x2 : Int) (x3 : Int) : Option (Int × Int × Int) :=
  (p_spec_l1Cur_pick (x0.length : Int) x1 x2 x3).bind (fun r1 => if 0 ≤ r1.1 then if r1.1 < (x0.length : Int) then some ((x0.getD r1.1.toNat 0), r1.2.1, r1.2.2) else none else none)
/-- (*loop.example/g01210/spec.l1Cur).face -/
def p_spec_l1Cur_face (x0 : (List Int)) (x1 : Int) (x2 : Int) : Option (Int × Int × Int) :=
  (p_spec_l1Cur_among [1, 2, 3, 4, 5, 6, 6, 0, 8, 9, 4, 3, 30, 12] x0 x1 x2).bind (fun r1 => some (r1.1, r1.2.1, r1.2.2))
/-- (*loop.example/g01210/spec.l1Cur).one -/
def p_spec_l1Cur_one (x0 : Int) (x1 : (List Int)) (x2 : Int) (x3 : Int) : Option (Bool × Int × Int) :=
  (p_spec_l1Cur_pick x0 x1 x2 x3).bind (fun r1 => some ((decide (r1.1 = 0)), r1.2.1, r1.2.2))
/-- loop.example/g01210/spec.l2Sorted -/
def p_spec_l2Sorted (x0 : (List Int)) : (List Int) :=
  cnt (fun i2 (s1 : (List Int)) c3 _ => cnt (fun i9 (s8 : (List Int)) c10 _ => (if (s8.getD (i9 + 1).toNat 0) < (s8.getD i9.toNat 0) then c10 ((s8.set i9.toNat (s8.getD (i9 + 1).toNat 0)).set (i9 + 1).toNat (s8.getD i9.toNat 0)) else c10 s8)) (fun i9 (s8 : (List Int)) => c3 s8) (Int.toNat (5 - 0)) 0 s1) (fun i2 (s1 : (List Int)) => s1) (Int.toNat (6 - 0)) 0 x0
/-- (*loop.example/g01210/spec.l1Cur).die -/
def p_spec_l1Cur_die (x0 : (List Int)) (x1 : Int) (x2 : Int) : Option ((List Int) × Int × Int) :=
  jn (fun (s1 : Int × Int × (List Int)) => (p_spec_l1Cur_pick 50 x0 s1.1 s1.2.1).bind (fun r4 => (if r4.1 = 0 then (p_spec_l1Cur_pick 6 x0 r4.2.1 r4.2.2).bind (fun r8 => (p_spec_l1Cur_among [(-1), 31, 0, 4611686018427387904] x0 r8.2.1 r8.2.2).bind (fun r9 => if 0 ≤ r8.1 then if r8.1 < 6 then some (((p_spec_l2Sorted s1.2.2).set r8.1.toNat r9.1), r9.2.1, r9.2.2) else none else none)) else (if r4.1 = 1 then some (((p_spec_l2Sorted s1.2.2).set 0 30), r4.2.1, r4.2.2) else some ((p_spec_l2Sorted s1.2.2), r4.2.1, r4.2.2))))) (fun k2 => (p_spec_l1Cur_pick 6 x0 x1 x2).bind (fun r15 => (if r15.1 = 0 then some ([1, 2, 3, 4, 5, 6], r15.2.1, r15.2.2) else (if r15.1 = 1 then k2 (r15.2.1, r15.2.2, [1, 2, 2, 3, 3, 4]) else (if r15.1 = 2 then (p_spec_l1Cur_face x0 r15.2.1 r15.2.2).bind (fun r25 => (p_spec_l1Cur_face x0 r25.2.1 r25.2.2).bind (fun r26 => cnt (fun i28 (s27 : Int × Int × (List Int)) c29 _ => (p_spec_l1Cur_one 3 x0 s27.1 s27.2.1).bind (fun r34 => (if r34.1 = true then c29 (r34.2.1, r34.2.2, ((s27.2.2.set i28.toNat r25.1).set i28.toNat r26.1)) else c29 (r34.2.1, r34.2.2, (s27.2.2.set i28.toNat r25.1))))) (fun i28 (s27 : Int × Int × (List Int)) => k2 (s27.1, s27.2.1, s27.2.2)) (Int.toNat (6 - 0)) 0 (r26.2.1, r26.2.2, [1, 2, 3, 4, 5, 6]))) else cnt (fun i37 (s36 : Int × Int × (List Int)) c38 _ => (p_spec_l1Cur_face x0 s36.1 s36.2.1).bind (fun r43 => c38 (r43.2.1, r43.2.2, (s36.2.2.set i37.toNat r43.1)))) (fun i37 (s36 : Int × Int × (List Int)) => k2 (s36.1, s36.2.1, s36.2.2)) (Int.toNat (6 - 0)) 0 (r15.2.1, r15.2.2, [1, 2, 3, 4, 5, 6]))))))
/-- loop.example/g01210/spec.DrawBurstTable -/
def p_spec_DrawBurstTable (x0 : (List Int)) : Option ((List Int) × Int) :=
  (p_spec_l1Cur_die x0 0 0).bind (fun r1 => (p_spec_l1Cur_pick 24 x0 r1.2.1 r1.2.2).bind (fun r2 => if 0 ≤ (IntKind.wrap .i64 (4 + (IntKind.wrap .i64 (r2.1.tdiv 11)))) then if (IntKind.wrap .i64 (4 + (IntKind.wrap .i64 (r2.1.tdiv 11)))) ≤ 6 then (p_spec_l1Cur_among ([1, 2, 3, 0, 4, (-1)].take (IntKind.wrap .i64 (4 + (IntKind.wrap .i64 (r2.1.tdiv 11)))).toNat) x0 r2.2.1 r2.2.2).bind (fun r5 => some (r1.1, r5.1)) else none else none))
/-- loop.example/g01210/impl.within -/
def p_impl_within (x0 : Int) (x1 : Int) (x2 : Int) : Bool :=
  ((decide (x1 ≤ x0)) && (decide (x0 ≤ x2)))
/-- loop.example/g01210/impl.isFace -/
def p_impl_isFace (x0 : Int) : Bool :=
  (p_impl_within x0 0 30)
/-- loop.example/g01210/impl.areAll[int]$1 -/
def p_impl_areAll_int_1 (x0 : Int) : Bool :=
  (!(p_impl_isFace x0))
/-- slices.IndexFunc[[]int,int] -/
def p_slices_IndexFunc_int_int (x0 : (List Int)) : Int :=
  cnt (fun i2 (s1 : Unit) c3 _ => (if (p_impl_areAll_int_1 (x0.getD i2.toNat 0)) = true then i2 else c3 ())) (fun i2 (s1 : Unit) => (-1)) (Int.toNat ((x0.length : Int) - 0)) 0 ()
/-- slices.ContainsFunc[[]int,int] -/
def p_slices_ContainsFunc_int_int (x0 : (List Int)) : Bool :=
  (decide (0 ≤ (p_slices_IndexFunc_int_int x0)))
/-- loop.example/g01210/impl.areAll[int] -/
def p_impl_areAll_int (x0 : (List Int)) : Bool :=
  (!(p_slices_ContainsFunc_int_int x0))
/-- cmp.isNaN[int] -/
def p_cmp_isNaN_int (x0 : Int) : Bool :=
  (!(decide (x0 = x0)))
/-- cmp.Less[int] -/
def p_cmp_Less_int (x0 : Int) (x1 : Int) : Bool :=
  (((p_cmp_isNaN_int x0) && (!(p_cmp_isNaN_int x1))) || (decide (x0 < x1)))
/-- slices.IsSorted[[]int,int] -/
def p_slices_IsSorted_int_int (x0 : (List Int)) : Bool :=
  cntd (fun i2 (s1 : Unit) c3 _ => (if (p_cmp_Less_int (x0.getD i2.toNat 0) (x0.getD (i2 - 1).toNat 0)) = true then false else c3 ())) (fun i2 (s1 : Unit) => true) (Int.toNat (((x0.length : Int) - 1) - 0)) ((x0.length : Int) - 1) ()
/-- loop.example/g01210/impl.IsDie -/
def p_impl_IsDie (x0 : (List Int)) : Bool :=
  ((p_impl_areAll_int x0) && (p_slices_IsSorted_int_int x0))
/-- loop.example/g01210/impl.power -/
def p_impl_power (fu : Nat) (x0 : Int) : Option (Int) :=
  whl (fun (s1 : Int × Int) c3 => (if s1.2 < x0 then c3 ((IntKind.wrap .i64 (s1.1 * 6)), (IntKind.wrap .i64 (s1.2 + 1))) else some s1.1)) fu (1, 0)
/-- loop.example/g01210/impl.BurstTable$1 -/
def p_impl_BurstTable_1 : Nat → Int → Int → (List Int) → (List Int) → Option ((List Int))
  | 0, _, _, _, _ => none
  | fu + 1, x0, x1, x2, x3 => cnt (fun i2 (s1 : (List Int)) c3 _ => (if ((decide ((x2.getD i2.toNat 0) = (x2.getD 5 0))) && (decide (0 < x1))) = true then (p_impl_BurstTable_1 fu (IntKind.wrap .i64 (x0 + (x2.getD i2.toNat 0))) (IntKind.wrap .i64 (x1 - 1)) x2 s1).bind (fun r17 => c3 r17) else if 0 ≤ (IntKind.wrap .i64 (x0 + (x2.getD i2.toNat 0))) then if (IntKind.wrap .i64 (x0 + (x2.getD i2.toNat 0))) < 121 then (p_impl_power fu x1).bind (fun r20 => c3 (s1.set (IntKind.wrap .i64 (x0 + (x2.getD i2.toNat 0))).toNat (IntKind.wrap .i64 ((s1.getD (IntKind.wrap .i64 (x0 + (x2.getD i2.toNat 0))).toNat 0) + r20)))) else none else none)) (fun i2 (s1 : (List Int)) => some s1) (Int.toNat (6 - 0)) 0 x3
/-- loop.example/g01210/impl.BurstTable -/
def p_impl_BurstTable (fu : Nat) (x0 : (List Int)) (x1 : Int) : Option ((List Int) × Bool) :=
  (if ((!(p_impl_IsDie x0)) || (!(p_impl_within x1 0 3))) = true then some ((List.replicate 121 0), false) else (p_impl_BurstTable_1 fu 0 x1 x0 (List.replicate 121 0)).bind (fun r7 => some (r7, true)))
/-- loop.example/g01210/spec.l1In -/
def p_spec_l1In (x0 : Int) (x1 : Int) (x2 : Int) : Bool :=
  ((decide (x1 ≤ x0)) && (decide (x0 ≤ x2)))
/-- loop.example/g01210/spec.l2Die -/
def p_spec_l2Die (x0 : (List Int)) : Option (Bool) :=
  cnt (fun i2 (s1 : Unit) c3 _ => (if ((!(p_spec_l1In (x0.getD i2.toNat 0) 0 30)) || ((decide (0 < i2)) && (decide ((x0.getD i2.toNat 0) < (x0.getD (i2 - 1).toNat 0))))) = true then some false else c3 ())) (fun i2 (s1 : Unit) => some true) (Int.toNat (6 - 0)) 0 ()
/-- loop.example/g01210/spec.l2All -/
def p_spec_l2All (fu : Nat) (x0 : Int) : Option (Int) :=
  whl (fun (s1 : Int × Int) c3 => (if s1.2 < x0 then c3 ((IntKind.wrap .i64 (s1.1 * 6)), (IntKind.wrap .i64 (s1.2 + 1))) else some s1.1)) fu (1, 0)
/-- loop.example/g01210/spec.BurstTable -/
def p_spec_BurstTable (fu : Nat) (x0 : (List Int)) (x1 : Int) : Option ((List Int) × Bool) :=
  (p_spec_l2Die x0).bind (fun r1 => (if ((!r1) || (!(p_spec_l1In x1 0 3))) = true then some ((List.replicate 121 0), false) else whl (fun (s8 : Int × (List Int) × (List Int)) c10 => (if s8.1 ≤ x1 then cnt (fun i16 (s15 : (List Int) × (List Int)) c17 _ => cnt (fun i23 (s22 : (List Int) × (List Int)) c24 _ => (if (s8.2.1.getD i16.toNat 0) = 0 then c24 (s22.1, s22.2) else (if ((decide ((x0.getD i23.toNat 0) = (x0.getD 5 0))) && (decide (s8.1 < x1))) = true then if 0 ≤ (IntKind.wrap .i64 (i16 + (x0.getD i23.toNat 0))) then if (IntKind.wrap .i64 (i16 + (x0.getD i23.toNat 0))) < 121 then c24 (s22.1, (s22.2.set (IntKind.wrap .i64 (i16 + (x0.getD i23.toNat 0))).toNat (IntKind.wrap .i64 ((s22.2.getD (IntKind.wrap .i64 (i16 + (x0.getD i23.toNat 0))).toNat 0) + (s8.2.1.getD i16.toNat 0))))) else none else none else if 0 ≤ (IntKind.wrap .i64 (i16 + (x0.getD i23.toNat 0))) then if (IntKind.wrap .i64 (i16 + (x0.getD i23.toNat 0))) < 121 then (p_spec_l2All fu (IntKind.wrap .i64 (x1 - s8.1))).bind (fun r47 => c24 ((s22.1.set (IntKind.wrap .i64 (i16 + (x0.getD i23.toNat 0))).toNat (IntKind.wrap .i64 ((s22.1.getD (IntKind.wrap .i64 (i16 + (x0.getD i23.toNat 0))).toNat 0) + (IntKind.wrap .i64 ((s8.2.1.getD i16.toNat 0) * r47))))), s22.2)) else none else none))) (fun i23 (s22 : (List Int) × (List Int)) => c17 (s22.1, s22.2)) (Int.toNat (6 - 0)) 0 (s15.1, s15.2)) (fun i16 (s15 : (List Int) × (List Int)) => c10 ((IntKind.wrap .i64 (s8.1 + 1)), s15.2, s15.1)) (Int.toNat (121 - 0)) 0 (s8.2.2, (List.replicate 121 0)) else some (s8.2.2, true))) fu (0, ((List.replicate 121 0).set 0 1), (List.replicate 121 0))))
/-- loop.example/g01210/impl.total -/
def p_impl_total (x0 : (List Int)) : Int :=
  cnt (fun i2 (s1 : Int) c3 _ => c3 (IntKind.wrap .i64 (s1 + (x0.getD i2.toNat 0)))) (fun i2 (s1 : Int) => s1) (Int.toNat ((x0.length : Int) - 0)) 0 0
/-- loop.example/g01210/impl.truth -/
def p_impl_truth (x0 : Bool) : Int :=
  (if x0 = true then 1 else 0)
/-- loop.example/g01210/impl.weight -/
def p_impl_weight (x0 : (List Int)) (x1 : Int) : Int :=
  cnt (fun i2 (s1 : Int) c3 _ => c3 (IntKind.wrap .i64 (s1 + (p_impl_truth (decide ((x0.getD i2.toNat 0) = x1)))))) (fun i2 (s1 : Int) => s1) (Int.toNat (6 - 0)) 0 0
/-- loop.example/g01210/impl.fraction -/
def p_impl_fraction (fu : Nat) (x0 : Int) (x1 : Int) : Option ((List Int)) :=
  whl (fun (s1 : Int × Int) c3 => (if s1.2 = 0 then if s1.1 ≠ 0 then if s1.1 ≠ 0 then some [(IntKind.wrap .i64 (x0.tdiv s1.1)), (IntKind.wrap .i64 (x1.tdiv s1.1))] else none else none else if s1.2 ≠ 0 then c3 (s1.2, (s1.1.tmod s1.2)) else none)) fu (x0, x1)
/-- loop.example/g01210/impl.BurstMean -/
def p_impl_BurstMean (fu : Nat) (x0 : (List Int)) : Option ((List Int) × Bool) :=
  (if ((!(p_impl_IsDie x0)) || (decide ((x0.getD 0 0) = (x0.getD 5 0)))) = true then some ((List.replicate 2 0), false) else (p_impl_fraction fu (p_impl_total x0) (IntKind.wrap .i64 (6 - (p_impl_weight x0 (x0.getD 5 0))))).bind (fun r10 => some (r10, true)))
/-- loop.example/g01210/spec.l8Weight -/
def p_spec_l8Weight (x0 : (List Int)) (x1 : Int) : Int :=
  cnt (fun i2 (s1 : Int) c3 _ => (if (x0.getD i2.toNat 0) = x1 then c3 (IntKind.wrap .i64 (s1 + 1)) else c3 s1)) (fun i2 (s1 : Int) => s1) (Int.toNat (6 - 0)) 0 0
/-- loop.example/g01210/spec.l1Most -/
def p_spec_l1Most (x0 : Int) (x1 : Int) : Int :=
  (if x1 < x0 then x0 else x1)
/-- loop.example/g01210/spec.l2Cut -/
def p_spec_l2Cut (fu : Nat) (x0 : Int) (x1 : Int) : Option ((List Int)) :=
  whl (fun (s1 : Int × Int) c3 => (if 0 < s1.2 then c3 (s1.2, (s1.1.tmod s1.2)) else if (p_spec_l1Most s1.1 1) ≠ 0 then if (p_spec_l1Most s1.1 1) ≠ 0 then some [(IntKind.wrap .i64 (x0.tdiv (p_spec_l1Most s1.1 1))), (IntKind.wrap .i64 (x1.tdiv (p_spec_l1Most s1.1 1)))] else none else none)) fu (x0, x1)
/-- loop.example/g01210/spec.BurstMean -/
def p_spec_BurstMean (fu : Nat) (x0 : (List Int)) : Option ((List Int) × Bool) :=
  (p_spec_l2Die x0).bind (fun r1 => (if ((!r1) || (decide ((x0.getD 0 0) = (x0.getD 5 0)))) = true then some ((List.replicate 2 0), false) else cnt (fun i12 (s11 : Int) c13 _ => c13 (IntKind.wrap .i64 (s11 + (x0.getD i12.toNat 0)))) (fun i12 (s11 : Int) => (p_spec_l2Cut fu s11 (IntKind.wrap .i64 (6 - (p_spec_l8Weight x0 (x0.getD 5 0))))).bind (fun r18 => some (r18, true))) (Int.toNat (6 - 0)) 0 0))
/-- loop.example/g01210/laws.vCut -/
def p_laws_vCut (x0 : (List Int)) (x1 : Int) : Option ((List Int)) :=
  jn (fun (s1 : Int) => if 0 ≤ s1 then if s1 ≤ (x0.length : Int) then if 0 + ((x0.length : Int) - s1) ≤ 1000000000 then if (0 + ((x0.length : Int) - s1)) + 1 ≤ 1000000000 then some (([] ++ (x0.drop s1.toNat)) ++ [(IntKind.wrap .u8 s1)]) else none else none else none else none) (fun k2 => (if (x0.length : Int) < x1 then k2 (x0.length : Int) else k2 x1))
/-- loop.example/g01210/spec.DrawMeanWait -/
def p_spec_DrawMeanWait (x0 : (List Int)) : Option ((List Int) × Int) :=
  (p_spec_l1Cur_die x0 0 0).bind (fun r1 => (p_spec_l1Cur_pick 24 x0 r1.2.1 r1.2.2).bind (fun r2 => if 0 ≤ (IntKind.wrap .i64 (3 + (IntKind.wrap .i64 (r2.1.tdiv 6)))) then if (IntKind.wrap .i64 (3 + (IntKind.wrap .i64 (r2.1.tdiv 6)))) ≤ 6 then (p_spec_l1Cur_among ([(r1.1.getD 0 0), (r1.1.getD 5 0), (r1.1.getD 2 0), 7, (-1), 4611686018427387904].take (IntKind.wrap .i64 (3 + (IntKind.wrap .i64 (r2.1.tdiv 6)))).toNat) x0 r2.2.1 r2.2.2).bind (fun r5 => some (r1.1, r5.1)) else none else none))
/-- (*loop.example/g01210/spec.l1Cur).rolls8 -/
def p_spec_l1Cur_rolls8 (x0 : (List Int)) (x1 : Int) (x2 : Int) : Option (Int × Int × Int) :=
  (p_spec_l1Cur_pick 24 x0 x1 x2).bind (fun r1 => if 0 ≤ (IntKind.wrap .i64 (7 + (IntKind.wrap .i64 (r1.1.tdiv 11)))) then if (IntKind.wrap .i64 (7 + (IntKind.wrap .i64 (r1.1.tdiv 11)))) ≤ 9 then (p_spec_l1Cur_among ([3, 2, 5, 1, 8, 12, 0, 13, (-1)].take (IntKind.wrap .i64 (7 + (IntKind.wrap .i64 (r1.1.tdiv 11)))).toNat) x0 r1.2.1 r1.2.2).bind (fun r4 => some (r4.1, r4.2.1, r4.2.2)) else none else none)
/-- loop.example/g01210/spec.DrawChanceWithin -/
def p_spec_DrawChanceWithin (x0 : (List Int)) : Option ((List Int) × Int × Int) :=
  (p_spec_DrawMeanWait x0).bind (fun r1 => (p_spec_l1Cur_rolls8 x0 0 0).bind (fun r2 => some (r1.1, r1.2, r2.1)))
/-- loop.example/g01210/impl.isRolls -/
def p_impl_isRolls (x0 : Int) : Bool :=
  (p_impl_within x0 0 12)
/-- loop.example/g01210/impl.raised -/
def p_impl_raised (fu : Nat) (x0 : Int) (x1 : Int) : Option (Int) :=
  whl (fun (s1 : Int × Int) c3 => (if s1.2 < x1 then c3 ((IntKind.wrap .i64 (s1.1 * x0)), (IntKind.wrap .i64 (s1.2 + 1))) else some s1.1)) fu (1, 0)
/-- loop.example/g01210/impl.ChanceWithin -/
def p_impl_ChanceWithin (fu : Nat) (x0 : (List Int)) (x1 : Int) (x2 : Int) : Option ((List Int) × Bool) :=
  (if ((!(p_impl_IsDie x0)) || (!(p_impl_isRolls x2))) = true then some ((List.replicate 2 0), false) else (p_impl_power fu x2).bind (fun r7 => (p_impl_raised fu (IntKind.wrap .i64 (6 - (p_impl_weight x0 x1))) x2).bind (fun r8 => (p_impl_power fu x2).bind (fun r9 => (p_impl_fraction fu (IntKind.wrap .i64 (r7 - r8)) r9).bind (fun r10 => some (r10, true))))))
/-- loop.example/g01210/spec.l8Rolls -/
def p_spec_l8Rolls (x0 : (List Int)) (x1 : Int) : Option (Bool) :=
  (p_spec_l2Die x0).bind (fun r1 => some (r1 && (p_spec_l1In x1 0 12)))
/-- loop.example/g01210/spec.l8Power -/
def p_spec_l8Power (fu : Nat) (x0 : Int) (x1 : Int) : Option (Int) :=
  whl (fun (s1 : Int × Int) c3 => (if s1.2 < x1 then c3 ((IntKind.wrap .i64 (s1.1 * x0)), (IntKind.wrap .i64 (s1.2 + 1))) else some s1.1)) fu (1, 0)
/-- loop.example/g01210/spec.ChanceWithin -/
def p_spec_ChanceWithin (fu : Nat) (x0 : (List Int)) (x1 : Int) (x2 : Int) : Option ((List Int) × Bool) :=
  (p_spec_l8Rolls x0 x2).bind (fun r1 => (if r1 = true then (p_spec_l2All fu x2).bind (fun r3 => (p_spec_l8Power fu (IntKind.wrap .i64 (6 - (p_spec_l8Weight x0 x1))) x2).bind (fun r4 => (p_spec_l2All fu x2).bind (fun r5 => (p_spec_l2Cut fu (IntKind.wrap .i64 (r3 - r4)) r5).bind (fun r6 => some (r6, true))))) else some ((List.replicate 2 0), false)))
/-- slices.Index[[]int,int] -/
def p_slices_Index_int_int (x0 : (List Int)) (x1 : Int) : Int :=
  cnt (fun i2 (s1 : Unit) c3 _ => (if x1 = (x0.getD i2.toNat 0) then i2 else c3 ())) (fun i2 (s1 : Unit) => (-1)) (Int.toNat ((x0.length : Int) - 0)) 0 ()
/-- slices.Contains[[]int,int] -/
def p_slices_Contains_int_int (x0 : (List Int)) (x1 : Int) : Bool :=
  (decide (0 ≤ (p_slices_Index_int_int x0 x1)))
/-- loop.example/g01210/impl.has -/
def p_impl_has (x0 : (List Int)) (x1 : Int) : Bool :=
  (p_slices_Contains_int_int x0 x1)
/-- loop.example/g01210/impl.MeanWait -/
def p_impl_MeanWait (fu : Nat) (x0 : (List Int)) (x1 : Int) : Option ((List Int) × Bool) :=
  (if ((!(p_impl_IsDie x0)) || (!(p_impl_has x0 x1))) = true then some ((List.replicate 2 0), false) else (p_impl_fraction fu 6 (p_impl_weight x0 x1)).bind (fun r8 => some (r8, true)))
/-- loop.example/g01210/spec.MeanWait -/
def p_spec_MeanWait (fu : Nat) (x0 : (List Int)) (x1 : Int) : Option ((List Int) × Bool) :=
  (p_spec_l2Die x0).bind (fun r1 => (if ((!r1) || (decide ((p_spec_l8Weight x0 x1) = 0))) = true then some ((List.replicate 2 0), false) else (p_spec_l2Cut fu 6 (p_spec_l8Weight x0 x1)).bind (fun r10 => some (r10, true))))
/-- loop.example/g01210/spec.DrawChanceAll -/
def p_spec_DrawChanceAll (x0 : (List Int)) : Option ((List Int) × Int) :=
  (p_spec_l1Cur_die x0 0 0).bind (fun r1 => (p_spec_l1Cur_rolls8 x0 r1.2.1 r1.2.2).bind (fun r2 => some (r1.1, r2.1)))
/-- slices.Clone[[]int,int] -/
def p_slices_Clone_int_int (x0 : (List Int)) : Option ((List Int)) :=
  if 0 + (x0.length : Int) ≤ 1000000000 then some ([] ++ x0) else none
/-- slices.Compact[[]int,int] -/
def p_slices_Compact_int_int (x0 : (List Int)) : Option ((List Int)) :=
  (if (x0.length : Int) < 2 then some x0 else cnt (fun i5 (s4 : Unit) c6 _ => (if (x0.getD i5.toNat 0) = (x0.getD (i5 - 1).toNat 0) then cnt (fun i15 (s14 : Int × (List Int)) c16 _ => (if (s14.2.getD (i5.toNat + i15.toNat) 0) = (s14.2.getD (i5.toNat + (i15 - 1).toNat) 0) then c16 (s14.1, s14.2) else if s14.1 < (x0.length : Int) then c16 ((s14.1 + 1), (s14.2.set s14.1.toNat (s14.2.getD (i5.toNat + i15.toNat) 0))) else none)) (fun i15 (s14 : Int × (List Int)) => if s14.1 ≤ (x0.length : Int) then some ((s14.2.take s14.1.toNat ++ (List.replicate ((s14.2.length : Int) - s14.1).toNat 0 ++ s14.2.drop (s14.1.toNat + ((s14.2.length : Int) - s14.1).toNat))).take s14.1.toNat) else none) (Int.toNat (((((x0.length : Int) - i5).toNat : Nat) : Int) - 1)) 1 (i5, x0) else c6 ())) (fun i5 (s4 : Unit) => some x0) (Int.toNat ((x0.length : Int) - 1)) 1 ())
/-- loop.example/g01210/impl.numbers -/
def p_impl_numbers (x0 : (List Int)) : Option ((List Int)) :=
  (p_slices_Clone_int_int x0).bind (fun r1 => (p_slices_Compact_int_int r1).bind (fun r3 => some r3))
/-- loop.example/g01210/impl.isIn -/
def p_impl_isIn (x0 : Int) (x1 : Int) : Option (Bool) :=
  if 0 ≤ x1 then some (decide ((andI .i64 (shrI .i64 x0 x1) 1) = 1)) else none
/-- loop.example/g01210/impl.ChanceAll$1 -/
def p_impl_ChanceAll_1 (fu : Nat) (x0 : Int) (x1 : Int) (x2 : Int) (x3 : Int) : Option (Int) :=
  (p_impl_raised fu (IntKind.wrap .i64 (6 - x0)) x3).bind (fun r1 => some (IntKind.wrap .i64 (x2 + (IntKind.wrap .i64 (x1 * r1)))))
/-- loop.example/g01210/impl.parts -/
def p_impl_parts (fu : Nat) (x0 : (List Int)) (x1 : Int) (x2 : Int) : Option (Int) :=
  (p_impl_numbers x0).bind (fun r1 => whl (fun (s3 : Int × Int) c5 => (if s3.1 < (shlI .i64 1 (r1.length : Int)) then cnt (fun i11 (s10 : Int × Int) c12 _ => (p_impl_isIn s3.1 i11).bind (fun r17 => (if r17 = true then c12 ((IntKind.wrap .i64 (s10.1 + (p_impl_weight x0 (r1.getD i11.toNat 0)))), (IntKind.wrap .i64 (0 - s10.2))) else c12 (s10.1, s10.2)))) (fun i11 (s10 : Int × Int) => (p_impl_ChanceAll_1 fu s10.1 s10.2 s3.2 x2).bind (fun r19 => c5 ((IntKind.wrap .i64 (s3.1 + 1)), r19))) (Int.toNat ((r1.length : Int) - 0)) 0 (0, 1) else some s3.2)) fu (0, x1))
/-- loop.example/g01210/impl.ChanceAll -/
def p_impl_ChanceAll (fu : Nat) (x0 : (List Int)) (x1 : Int) : Option ((List Int) × Bool) :=
  (if ((!(p_impl_IsDie x0)) || (!(p_impl_isRolls x1))) = true then some ((List.replicate 2 0), false) else (p_impl_parts fu x0 0 x1).bind (fun r7 => (p_impl_power fu x1).bind (fun r8 => (p_impl_fraction fu r7 r8).bind (fun r9 => some (r9, true)))))
/-- loop.example/g01210/spec.l1Put -/
def p_spec_l1Put (x0 : (List Int)) (x1 : Int) : Option ((List Int)) :=
  cnt (fun i2 (s1 : Unit) c3 k42 => (if ((decide (i2 < (x0.length : Int))) && (decide ((x0.getD i2.toNat 0) < x1))) = true then c3 () else k42 i2 s1)) (fun i2 (s1 : Unit) => (if ((decide (i2 < (x0.length : Int))) && (decide ((x0.getD i2.toNat 0) = x1))) = true then some x0 else if 0 + (i2 - 0) ≤ 1000000000 then if (0 + (i2 - 0)) + 1 ≤ 1000000000 then if ((0 + (i2 - 0)) + 1) + ((x0.length : Int) - i2) ≤ 1000000000 then some ((([] ++ ((x0.drop 0).take (i2 - 0).toNat)) ++ [x1]) ++ ((x0.drop i2.toNat).take ((x0.length : Int) - i2).toNat)) else none else none else none)) (Int.toNat ((x0.length : Int) - 0)) 0 ()
/-- loop.example/g01210/spec.l8Numbers -/
def p_spec_l8Numbers (x0 : (List Int)) : Option ((List Int)) :=
  cnt (fun i2 (s1 : (List Int)) c3 _ => (p_spec_l1Put s1 (x0.getD i2.toNat 0)).bind (fun r8 => c3 r8)) (fun i2 (s1 : (List Int)) => some s1) (Int.toNat (6 - 0)) 0 []
/-- loop.example/g01210/spec.l8Sets -/
def p_spec_l8Sets (fu : Nat) (x0 : (List Int)) : Option ((List Int)) :=
  (p_spec_l8Numbers x0).bind (fun r1 => whl (fun (s3 : Int × (List Int)) c5 => (if s3.1 < (shlI .i64 1 (r1.length : Int)) then cnt (fun i11 (s10 : Int) c12 _ => (if (andI .i64 (shrI .i64 s3.1 i11) 1) = 1 then c12 (IntKind.wrap .i64 (s10 + (p_spec_l8Weight x0 (r1.getD i11.toNat 0)))) else c12 s10)) (fun i11 (s10 : Int) => if (s3.2.length : Int) + 1 ≤ 1000000000 then c5 ((IntKind.wrap .i64 (s3.1 + 1)), (s3.2 ++ [s10])) else none) (Int.toNat ((r1.length : Int) - 0)) 0 0 else some s3.2)) fu (0, []))
/-- loop.example/g01210/spec.l8Sign -/
def p_spec_l8Sign (fu : Nat) (x0 : Int) : Option (Int) :=
  whl (fun (s1 : Int × Int) c3 => (if 0 < s1.1 then (if (s1.1.tmod 2) = 1 then c3 ((IntKind.wrap .i64 (s1.1.tdiv 2)), (IntKind.wrap .i64 (0 - s1.2))) else c3 ((IntKind.wrap .i64 (s1.1.tdiv 2)), s1.2)) else some s1.2)) fu (x0, 1)
/-- loop.example/g01210/spec.ChanceAll -/
def p_spec_ChanceAll (fu : Nat) (x0 : (List Int)) (x1 : Int) : Option ((List Int) × Bool) :=
  (p_spec_l8Rolls x0 x1).bind (fun r1 => (if r1 = true then (p_spec_l8Sets fu x0).bind (fun r3 => cnt (fun i6 (s5 : Int) c7 _ => (p_spec_l8Sign fu i6).bind (fun r12 => (p_spec_l8Power fu (IntKind.wrap .i64 (6 - (r3.getD i6.toNat 0))) x1).bind (fun r13 => c7 (IntKind.wrap .i64 (s5 + (IntKind.wrap .i64 (r12 * r13))))))) (fun i6 (s5 : Int) => (p_spec_l2All fu x1).bind (fun r14 => (p_spec_l2Cut fu s5 r14).bind (fun r15 => some (r15, true)))) (Int.toNat ((r3.length : Int) - 0)) 0 0) else some ((List.replicate 2 0), false)))
/-- loop.example/g01210/impl.MeanAll$1 -/
def p_impl_MeanAll_1 (x0 : Int) (x1 : Int) (x2 : Int) : Int :=
  (if 0 < x0 then (IntKind.wrap .i64 (x2 - (IntKind.wrap .i64 ((IntKind.wrap .i64 (x1 * 6)) * (IntKind.wrap .i64 ((60 : Int).tdiv x0)))))) else x2)
/-- loop.example/g01210/impl.parts -/
def p_impl_partsv1 (fu : Nat) (x0 : (List Int)) (x1 : Int) : Option (Int) :=
  (p_impl_numbers x0).bind (fun r1 => whl (fun (s3 : Int × Int) c5 => (if s3.1 < (shlI .i64 1 (r1.length : Int)) then cnt (fun i11 (s10 : Int × Int) c12 _ => (p_impl_isIn s3.1 i11).bind (fun r17 => (if r17 = true then c12 ((IntKind.wrap .i64 (s10.1 + (p_impl_weight x0 (r1.getD i11.toNat 0)))), (IntKind.wrap .i64 (0 - s10.2))) else c12 (s10.1, s10.2)))) (fun i11 (s10 : Int × Int) => c5 ((IntKind.wrap .i64 (s3.1 + 1)), (p_impl_MeanAll_1 s10.1 s10.2 s3.2))) (Int.toNat ((r1.length : Int) - 0)) 0 (0, 1) else some s3.2)) fu (0, x1))
/-- loop.example/g01210/impl.MeanAll -/
def p_impl_MeanAll (fu : Nat) (x0 : (List Int)) : Option ((List Int) × Bool) :=
  (if (p_impl_IsDie x0) = true then (p_impl_partsv1 fu x0 0).bind (fun r2 => (p_impl_fraction fu r2 60).bind (fun r3 => some (r3, true))) else some ((List.replicate 2 0), false))
/-- loop.example/g01210/spec.MeanAll -/
def p_spec_MeanAll (fu : Nat) (x0 : (List Int)) : Option ((List Int) × Bool) :=
  (p_spec_l2Die x0).bind (fun r1 => (if r1 = true then (p_spec_l8Sets fu x0).bind (fun r3 => cnt (fun i6 (s5 : Int) c7 _ => (p_spec_l8Sign fu i6).bind (fun r12 => if (r3.getD i6.toNat 0) ≠ 0 then c7 (IntKind.wrap .i64 (s5 - (IntKind.wrap .i64 ((IntKind.wrap .i64 (r12 * 360)).tdiv (r3.getD i6.toNat 0))))) else none)) (fun i6 (s5 : Int) => (p_spec_l2Cut fu s5 60).bind (fun r14 => some (r14, true))) (Int.toNat ((r3.length : Int) - 1)) 1 0) else some ((List.replicate 2 0), false)))
/-- loop.example/g01210/laws.vSix -/
def p_laws_vSix (fu : Nat) (x0 : Int) : Option (Int) :=
  whl (fun (s1 : Int × Int) c3 => (if s1.2 < x0 then c3 ((IntKind.wrap .i64 (s1.1 * 6)), (IntKind.wrap .i64 (s1.2 + 1))) else some s1.1)) fu (1, 0)
/-- loop.example/g01210/impl.areAll[[6]int]$1 -/
def p_impl_areAll_6_int_1 (x0 : (List Int)) : Bool :=
  (!(p_impl_IsDie x0))
/-- slices.IndexFunc[[][6]int,[6]int] -/
def p_slices_IndexFunc_6_int_6_int (x0 : (List (List Int))) : Int :=
  cnt (fun i2 (s1 : Unit) c3 _ => (if (p_impl_areAll_6_int_1 (x0.getD i2.toNat (List.replicate 6 0))) = true then i2 else c3 ())) (fun i2 (s1 : Unit) => (-1)) (Int.toNat ((x0.length : Int) - 0)) 0 ()
/-- slices.ContainsFunc[[][6]int,[6]int] -/
def p_slices_ContainsFunc_6_int_6_int (x0 : (List (List Int))) : Bool :=
  (decide (0 ≤ (p_slices_IndexFunc_6_int_6_int x0)))
/-- loop.example/g01210/impl.areAll[[6]int] -/
def p_impl_areAll_6_int (x0 : (List (List Int))) : Bool :=
  (!(p_slices_ContainsFunc_6_int_6_int x0))
/-- loop.example/g01210/impl.IsPool -/
def p_impl_IsPool (x0 : (List (List Int))) : Bool :=
  ((p_impl_within (x0.length : Int) 1 4) && (p_impl_areAll_6_int x0))
/-- loop.example/g01210/impl.sums -/
def p_impl_sums (x0 : (List (List Int))) : Option ((List Int)) :=
  cnt (fun i2 (s1 : (List Int)) c3 _ => cnt (fun i9 (s8 : (List Int)) c10 _ => (if (s1.getD i9.toNat 0) = 0 then c10 s8 else cnt (fun i19 (s18 : (List Int)) c20 _ => if 0 ≤ (IntKind.wrap .i64 (i9 + ((x0.getD i2.toNat (List.replicate 6 0)).getD i19.toNat 0))) then if (IntKind.wrap .i64 (i9 + ((x0.getD i2.toNat (List.replicate 6 0)).getD i19.toNat 0))) < 121 then c20 (s18.set (IntKind.wrap .i64 (i9 + ((x0.getD i2.toNat (List.replicate 6 0)).getD i19.toNat 0))).toNat (IntKind.wrap .i64 ((s18.getD (IntKind.wrap .i64 (i9 + ((x0.getD i2.toNat (List.replicate 6 0)).getD i19.toNat 0))).toNat 0) + (s1.getD i9.toNat 0)))) else none else none) (fun i19 (s18 : (List Int)) => c10 s18) (Int.toNat (6 - 0)) 0 s8)) (fun i9 (s8 : (List Int)) => c3 s8) (Int.toNat (121 - 0)) 0 (List.replicate 121 0)) (fun i2 (s1 : (List Int)) => some s1) (Int.toNat ((x0.length : Int) - 0)) 0 ((List.replicate 121 0).set 0 1)
/-- loop.example/g01210/impl.SumTable -/
def p_impl_SumTable (x0 : (List (List Int))) : Option ((List Int) × Bool) :=
  (if (p_impl_IsPool x0) = true then (p_impl_sums x0).bind (fun r2 => some (r2, true)) else some ((List.replicate 121 0), false))
/-- loop.example/g01210/laws.vLess -/
def p_laws_vLess (x0 : (List Int)) (x1 : (List Int)) : Bool :=
  (decide ((IntKind.wrap .i64 ((x0.getD 0 0) * (x1.getD 1 0))) < (IntKind.wrap .i64 ((x1.getD 0 0) * (x0.getD 1 0)))))
/-- loop.example/g01210/impl.isPhrase$1 -/
def p_impl_isPhrase_1 (x0 : Int) (x1 : (List Int)) : Bool :=
  (p_impl_has x1 x0)
/-- loop.example/g01210/impl.areAll[int]$1 -/
def p_impl_areAll_int_1v1 (x0 : Int) (x1 : (List Int)) : Bool :=
  (!(p_impl_isPhrase_1 x0 x1))
/-- slices.IndexFunc[[]int,int] -/
def p_slices_IndexFunc_int_intv1 (x0 : (List Int)) (x1 : (List Int)) : Int :=
  cnt (fun i2 (s1 : Unit) c3 _ => (if (p_impl_areAll_int_1v1 (x0.getD i2.toNat 0) x1) = true then i2 else c3 ())) (fun i2 (s1 : Unit) => (-1)) (Int.toNat ((x0.length : Int) - 0)) 0 ()
/-- slices.ContainsFunc[[]int,int] -/
def p_slices_ContainsFunc_int_intv1 (x0 : (List Int)) (x1 : (List Int)) : Bool :=
  (decide (0 ≤ (p_slices_IndexFunc_int_intv1 x0 x1)))
/-- loop.example/g01210/impl.areAll[int] -/
def p_impl_areAll_intv1 (x0 : (List Int)) (x1 : (List Int)) : Bool :=
  (!(p_slices_ContainsFunc_int_intv1 x0 x1))
/-- loop.example/g01210/impl.isPhrase -/
def p_impl_isPhrase (x0 : (List Int)) (x1 : (List Int)) : Bool :=
  ((p_impl_within (x1.length : Int) 1 6) && (p_impl_areAll_intv1 x1 x0))
/-- slices.Equal[[]int,int] -/
def p_slices_Equal_int_int (x0 : (List Int)) (x1 : (List Int)) : Bool :=
  (if (x0.length : Int) = (x1.length : Int) then cnt (fun i5 (s4 : Unit) c6 _ => (if (x0.getD i5.toNat 0) = (x1.getD i5.toNat 0) then c6 () else false)) (fun i5 (s4 : Unit) => true) (Int.toNat ((x0.length : Int) - 0)) 0 () else false)
/-- loop.example/g01210/impl.longest -/
def p_impl_longest (x0 : (List Int)) (x1 : (List Int)) : Int :=
  cntd (fun i2 (s1 : Unit) c3 _ => (if (p_slices_Equal_int_int (x0.drop ((x0.length : Int) - i2).toNat) (x1.take i2.toNat)) = true then i2 else c3 ())) (fun i2 (s1 : Unit) => 0) (Int.toNat ((if (x1.length : Int) < (x0.length : Int) then (x1.length : Int) else (x0.length : Int)) - 0)) (if (x1.length : Int) < (x0.length : Int) then (x1.length : Int) else (x0.length : Int)) ()
/-- loop.example/g01210/impl.PhraseWithin -/
def p_impl_PhraseWithin (fu : Nat) (x0 : (List Int)) (x1 : (List Int)) (x2 : Int) : Option ((List Int) × Bool) :=
  (if (((!(p_impl_IsDie x0)) || (!(p_impl_isPhrase x0 x1))) || (!(p_impl_isRolls x2))) = true then some ((List.replicate 2 0), false) else if 0 ≤ (IntKind.wrap .i64 ((x1.length : Int) + 1)) then if (IntKind.wrap .i64 ((x1.length : Int) + 1)) ≤ 1000000000 then if 0 < (IntKind.wrap .i64 ((x1.length : Int) + 1)) then whl (fun (s22 : Int × (List Int)) c24 => (if s22.1 < x2 then if (x1.length : Int) < (IntKind.wrap .i64 ((x1.length : Int) + 1)) then cnt (fun i31 (s30 : (List Int)) c32 _ => cnt (fun i38 (s37 : (List Int)) c39 _ => (p_slices_Clone_int_int (x1.take i31.toNat)).bind (fun r44 => if (r44.length : Int) + 1 ≤ 1000000000 then if 0 ≤ (p_impl_longest (r44 ++ [(x0.getD i38.toNat 0)]) x1) then if (p_impl_longest (r44 ++ [(x0.getD i38.toNat 0)]) x1) < (IntKind.wrap .i64 ((x1.length : Int) + 1)) then c39 (s37.set (p_impl_longest (r44 ++ [(x0.getD i38.toNat 0)]) x1).toNat (IntKind.wrap .i64 ((s37.getD (p_impl_longest (r44 ++ [(x0.getD i38.toNat 0)]) x1).toNat 0) + ((s22.2.take (x1.length : Int).toNat).getD i31.toNat 0)))) else none else none else none)) (fun i38 (s37 : (List Int)) => c32 s37) (Int.toNat (6 - 0)) 0 s30) (fun i31 (s30 : (List Int)) => c24 ((IntKind.wrap .i64 (s22.1 + 1)), s30)) (Int.toNat ((x1.length : Int) - 0)) 0 ((List.replicate (IntKind.wrap .i64 ((x1.length : Int) + 1)).toNat 0).set (x1.length : Int).toNat (IntKind.wrap .i64 ((s22.2.getD (x1.length : Int).toNat 0) * 6))) else none else if (x1.length : Int) < (IntKind.wrap .i64 ((x1.length : Int) + 1)) then (p_impl_power fu x2).bind (fun r50 => (p_impl_fraction fu (s22.2.getD (x1.length : Int).toNat 0) r50).bind (fun r51 => some (r51, true))) else none)) fu (0, ((List.replicate (IntKind.wrap .i64 ((x1.length : Int) + 1)).toNat 0).set 0 1)) else none else none else none)
/-- loop.example/g01210/impl.faces -/
def p_impl_faces (x0 : (List Int)) (x1 : (List Int)) : Int :=
  cnt (fun i2 (s1 : Int) c3 _ => c3 (IntKind.wrap .i64 (s1 * (p_impl_weight x0 (x1.getD i2.toNat 0))))) (fun i2 (s1 : Int) => s1) (Int.toNat ((x1.length : Int) - 0)) 0 1
/-- loop.example/g01210/impl.overlap -/
def p_impl_overlap (fu : Nat) (x0 : (List Int)) (x1 : (List Int)) (x2 : (List Int)) : Option (Int) :=
  whl (fun (s1 : Int × Int) c3 => (if s1.2 ≤ (if (x2.length : Int) < (x1.length : Int) then (x2.length : Int) else (x1.length : Int)) then if 0 ≤ (IntKind.wrap .i64 ((x1.length : Int) - s1.2)) then if (IntKind.wrap .i64 ((x1.length : Int) - s1.2)) ≤ (x1.length : Int) then if 0 ≤ s1.2 then (if (p_slices_Equal_int_int (x1.drop (IntKind.wrap .i64 ((x1.length : Int) - s1.2)).toNat) (x2.take s1.2.toNat)) = true then (p_impl_power fu s1.2).bind (fun r12 => c3 ((IntKind.wrap .i64 (s1.1 + (IntKind.wrap .i64 (r12 * (p_impl_faces x0 (x2.drop s1.2.toNat)))))), (IntKind.wrap .i64 (s1.2 + 1)))) else c3 (s1.1, (IntKind.wrap .i64 (s1.2 + 1)))) else none else none else none else some s1.1)) fu (0, 1)
/-- loop.example/g01210/impl.PhraseOverlap -/
def p_impl_PhraseOverlap (fu : Nat) (x0 : (List Int)) (x1 : (List Int)) (x2 : (List Int)) : Option ((List Int) × Bool) :=
  (if (((!(p_impl_IsDie x0)) || (!(p_impl_isPhrase x0 x1))) || (!(p_impl_isPhrase x0 x2))) = true then some ((List.replicate 2 0), false) else (p_impl_overlap fu x0 x1 x2).bind (fun r22 => (p_impl_fraction fu r22 (p_impl_faces x0 x2)).bind (fun r23 => some (r23, true))))
/-- loop.example/g01210/impl.PhraseWait -/
def p_impl_PhraseWait (fu : Nat) (x0 : (List Int)) (x1 : (List Int)) : Option ((List Int) × Bool) :=
  (p_impl_PhraseOverlap fu x0 x1 x1).bind (fun r1 => some (r1.1, r1.2))
/-- loop.example/g01210/impl.CountFaces -/
def p_impl_CountFaces (x0 : (List Int)) : Option ((List Int) × Bool) :=
  (if (p_impl_IsDie x0) = true then cnt (fun i3 (s2 : (List Int)) c4 _ => if 0 ≤ (x0.getD i3.toNat 0) then if (x0.getD i3.toNat 0) < 31 then c4 (s2.set (x0.getD i3.toNat 0).toNat (IntKind.wrap .i64 ((s2.getD (x0.getD i3.toNat 0).toNat 0) + 1))) else none else none) (fun i3 (s2 : (List Int)) => some (s2, true)) (Int.toNat (6 - 0)) 0 (List.replicate 31 0) else some ((List.replicate 31 0), false))
/-- loop.example/g01210/laws.FnBursts -/
def p_laws_FnBursts (fu : Nat) (x0 : (List Int)) : Option (Bool) :=
  (if (p_laws_vBig x0) = true then some true else (p_spec_DrawBurstTable x0).bind (fun r2 => (p_impl_BurstTable fu r2.1 r2.2).bind (fun r3 => (p_spec_BurstTable fu r2.1 r2.2).bind (fun r4 => (p_impl_BurstMean fu r2.1).bind (fun r5 => (p_spec_BurstMean fu r2.1).bind (fun r6 => (p_laws_vCut x0 1).bind (fun r7 => (p_spec_DrawChanceWithin r7).bind (fun r9 => (p_impl_ChanceWithin fu r9.1 r9.2.1 r9.2.2).bind (fun r10 => (p_spec_ChanceWithin fu r9.1 r9.2.1 r9.2.2).bind (fun r11 => (p_impl_MeanWait fu r9.1 r9.2.1).bind (fun r12 => (p_spec_MeanWait fu r9.1 r9.2.1).bind (fun r13 => (p_laws_vCut x0 2).bind (fun r14 => (p_spec_DrawChanceAll r14).bind (fun r16 => (p_impl_ChanceAll fu r16.1 r16.2).bind (fun r17 => (p_spec_ChanceAll fu r16.1 r16.2).bind (fun r18 => (p_impl_MeanAll fu r16.1).bind (fun r19 => (p_spec_MeanAll fu r16.1).bind (fun r20 => (if (((((((((((((!(decide (r3.1 = r4.1))) || (r3.2 != r4.2)) || (!(decide (r5.1 = r6.1)))) || (r5.2 != r6.2)) || (!(decide (r10.1 = r11.1)))) || (r10.2 != r11.2)) || (!(decide (r12.1 = r13.1)))) || (r12.2 != r13.2)) || (!(decide (r17.1 = r18.1)))) || (r17.2 != r18.2)) || (!(decide (r19.1 = r20.1)))) || (r19.2 != r20.2)) || (r17.2 && (!r19.2))) = true then some false else jn (fun (s528 : Unit) => jn (fun (s531 : Unit) => jn (fun (s534 : Unit) => (if r19.2 = true then (p_impl_CountFaces r16.1).bind (fun r538 => cnt (fun i540 (s539 : Int) c541 _ => (if 0 < (r538.1.getD i540.toNat 0) then c541 (IntKind.wrap .i64 (s539 + 1)) else c541 s539)) (fun i540 (s539 : Int) => some (r538.2 && (!(p_laws_vLess r19.1 [s539, 1])))) (Int.toNat (31 - 0)) 0 0) else some true)) (fun k535 => (if (r17.2 && (decide (r16.2 < 12))) = true then (p_impl_ChanceAll fu r16.1 (IntKind.wrap .i64 (r16.2 + 1))).bind (fun r560 => (if ((!r560.2) || (p_laws_vLess r560.1 r17.1)) = true then some false else k535 ())) else k535 ()))) (fun k532 => (if r10.2 = true then (if (((p_laws_vLess [1, 1] r10.1) || ((r12.2 && (decide (0 < r9.2.2))) && (decide ((r10.1.getD 0 0) = 0)))) || ((!r12.2) && (decide (0 < (r10.1.getD 0 0))))) = true then some false else (if r12.2 = true then (p_impl_PhraseWithin fu r9.1 [r9.2.1] r9.2.2).bind (fun r630 => (p_impl_PhraseWait fu r9.1 [r9.2.1]).bind (fun r631 => (if ((((!r630.2) || (!r631.2)) || (!(decide (r630.1 = r10.1)))) || (!(decide (r631.1 = r12.1)))) = true then some false else k532 ()))) else k532 ())) else k532 ()))) (fun k529 => (if r3.2 = true then cnt (fun i667 (s666 : Int × Int) c668 _ => c668 ((IntKind.wrap .i64 (s666.1 + (r3.1.getD i667.toNat 0))), (IntKind.wrap .i64 (s666.2 + (IntKind.wrap .i64 (i667 * (r3.1.getD i667.toNat 0))))))) (fun i667 (s666 : Int × Int) => (p_laws_vSix fu (IntKind.wrap .i64 (r2.2 + 1))).bind (fun r673 => (if ((!(decide (s666.1 = r673))) || (r5.2 && (decide ((IntKind.wrap .i64 ((r5.1.getD 0 0) * s666.1)) < (IntKind.wrap .i64 (s666.2 * (r5.1.getD 1 0))))))) = true then some false else (if r2.2 = 0 then (p_impl_SumTable [r2.1]).bind (fun r723 => (if ((!r723.2) || (!(decide (r723.1 = r3.1)))) = true then some false else k529 ())) else k529 ())))) (Int.toNat (121 - 0)) 0 (0, 0) else k529 ())))))))))))))))))))))
end Go.GA
