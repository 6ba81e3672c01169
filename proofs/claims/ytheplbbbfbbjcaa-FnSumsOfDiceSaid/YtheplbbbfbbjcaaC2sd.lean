/- Walks: what the Go functions compute, by the printed lines below; no further conditions. -/
import Derived.Test.YtheplbbbfbbjcaaGaD
namespace Go.GA
open Go
set_option maxRecDepth 100000
set_option maxHeartbeats 2000000
set_option linter.unusedVariables false
set_option linter.unusedSimpArgs false
/-- loop.example/g01210/laws.vBig -/
def p_laws_vBig (x0 : (List Int)) : Bool :=
  (decide (65536 < (x0.length : Int)))
/-- (*loop.example/g01210/spec.l1Cur).next -/
def p_spec_l1Cur_next (x0 : (List Int)) (x1 : Int) (x2 : Int) : Option (Int × Int × Int) :=
  jn (fun (s1 : Int) => (if (IntKind.wrap .i64 (x1 + 1)) ≤ (x0.length : Int) then some (s1, (IntKind.wrap .i64 (x1 + 1)), (IntKind.wrap .u64 ((IntKind.wrap .u64 ((IntKind.wrap .u64 (x2 * 6364136223846793005)) + (IntKind.wrap .u64 s1))) + 462197))) else some ((IntKind.wrap .i64 (andI .u64 (shrI .u64 (IntKind.wrap .u64 ((IntKind.wrap .u64 ((IntKind.wrap .u64 (x2 * 6364136223846793005)) + (IntKind.wrap .u64 s1))) + 462197)) 40) 255)), (IntKind.wrap .i64 (x1 + 1)), (IntKind.wrap .u64 ((IntKind.wrap .u64 ((IntKind.wrap .u64 (x2 * 6364136223846793005)) + (IntKind.wrap .u64 s1))) + 462197))))) (fun k2 => (if x1 < (x0.length : Int) then if 0 ≤ x1 then k2 (IntKind.wrap .i64 (x0.getD x1.toNat 0)) else none else k2 0))
/-- (*loop.example/g01210/spec.l1Cur).pick -/
def p_spec_l1Cur_pick (x0 : Int) (x1 : (List Int)) (x2 : Int) (x3 : Int) : Option (Int × Int × Int) :=
  (if x0 ≤ 1 then some (0, x2, x3) else (p_spec_l1Cur_next x1 x2 x3).bind (fun r4 => (if 200 < x0 then (p_spec_l1Cur_next x1 r4.2.1 r4.2.2).bind (fun r8 => some (((IntKind.wrap .i64 ((IntKind.wrap .i64 (r4.1 * 256)) + r8.1)).tmod x0), r8.2.1, r8.2.2)) else some ((r4.1.tmod x0), r4.2.1, r4.2.2))))
/-- (*loop.example/g01210/spec.l1Cur).among -/
def p_spec_l1Cur_among (x0 : (List Int)) (x1 : (List Int)) (x2 : Int) (x3 : Int) : Option (Int × Int × Int) :=
  (p_spec_l1Cur_pick (x0.length : Int) x1 x2 x3).bind (fun r1 => if 0 ≤ r1.1 then if r1.1 < (x0.length : Int) then some ((x0.getD r1.1.toNat 0), r1.2.1, r1.2.2) else none else none)
/-- (*loop.example/g01210/spec.l1Cur).face -/
def p_spec_l1Cur_face (x0 : (List Int)) (x1 : Int) (x2 : Int) : Option (Int × Int × Int) :=
  (p_spec_l1Cur_among [1, 2, 3, 4, 5, 6, 6, 0, 8, 9, 4, 3, 30, 12] x0 x1 x2).bind (fun r1 => some (r1.1, r1.2.1, r1.2.2))
/-- (*loop.example/g01210/spec.l1Cur).one -/
def p_spec_l1Cur_one (x0 : Int) (x1 : (List Int)) (x2 : Int) (x3 : Int) : Option (Bool × Int × Int) :=
  (p_spec_l1Cur_pick x0 x1 x2 x3).bind (fun r1 => some ((decide (r1.1 = 0)), r1.2.1, r1.2.2))
/-- loop.example/g01210/spec.l2Sorted -/
def p_spec_l2Sorted (x0 : (List Int)) : (List Int) :=
  cnt (fun i2 (s1 : (List Int)) c3 _ => cnt (fun i9 (s8 : (List Int)) c10 _ => (if (s8.getD (i9 + 1).toNat 0) < (s8.getD i9.toNat 0) then c10 ((s8.set i9.toNat (s8.getD (i9 + 1).toNat 0)).set (i9 + 1).toNat (s8.getD i9.toNat 0)) else c10 s8)) (fun i9 (s8 : (List Int)) => c3 s8) (Int.toNat (5 - 0)) 0 s1) (fun i2 (s1 : (List Int)) => s1) (Int.toNat (6 - 0)) 0 x0
/-- (*loop.example/g01210/spec.l1Cur).die -/
def p_spec_l1Cur_die (x0 : (List Int)) (x1 : Int) (x2 : Int) : Option ((List Int) × Int × Int) :=
  jn (fun (s1 : Int × Int × (List Int)) => (p_spec_l1Cur_pick 50 x0 s1.1 s1.2.1).bind (fun r4 => (if r4.1 = 0 then (p_spec_l1Cur_pick 6 x0 r4.2.1 r4.2.2).bind (fun r8 => (p_spec_l1Cur_among [(-1), 31, 0, 4611686018427387904] x0 r8.2.1 r8.2.2).bind (fun r9 => if 0 ≤ r8.1 then if r8.1 < 6 then some (((p_spec_l2Sorted s1.2.2).set r8.1.toNat r9.1), r9.2.1, r9.2.2) else none else none)) else (if r4.1 = 1 then some (((p_spec_l2Sorted s1.2.2).set 0 30), r4.2.1, r4.2.2) else some ((p_spec_l2Sorted s1.2.2), r4.2.1, r4.2.2))))) (fun k2 => (p_spec_l1Cur_pick 6 x0 x1 x2).bind (fun r15 => (if r15.1 = 0 then some ([1, 2, 3, 4, 5, 6], r15.2.1, r15.2.2) else (if r15.1 = 1 then k2 (r15.2.1, r15.2.2, [1, 2, 2, 3, 3, 4]) else (if r15.1 = 2 then (p_spec_l1Cur_face x0 r15.2.1 r15.2.2).bind (fun r25 => (p_spec_l1Cur_face x0 r25.2.1 r25.2.2).bind (fun r26 => cnt (fun i28 (s27 : Int × Int × (List Int)) c29 _ => (p_spec_l1Cur_one 3 x0 s27.1 s27.2.1).bind (fun r34 => (if r34.1 = true then c29 (r34.2.1, r34.2.2, ((s27.2.2.set i28.toNat r25.1).set i28.toNat r26.1)) else c29 (r34.2.1, r34.2.2, (s27.2.2.set i28.toNat r25.1))))) (fun i28 (s27 : Int × Int × (List Int)) => k2 (s27.1, s27.2.1, s27.2.2)) (Int.toNat (6 - 0)) 0 (r26.2.1, r26.2.2, [1, 2, 3, 4, 5, 6]))) else cnt (fun i37 (s36 : Int × Int × (List Int)) c38 _ => (p_spec_l1Cur_face x0 s36.1 s36.2.1).bind (fun r43 => c38 (r43.2.1, r43.2.2, (s36.2.2.set i37.toNat r43.1)))) (fun i37 (s36 : Int × Int × (List Int)) => k2 (s36.1, s36.2.1, s36.2.2)) (Int.toNat (6 - 0)) 0 (r15.2.1, r15.2.2, [1, 2, 3, 4, 5, 6]))))))
/-- (*loop.example/g01210/spec.l1Cur).pool -/
def p_spec_l1Cur_pool (fu : Nat) (x0 : (List Int)) (x1 : Int) (x2 : Int) : Option ((List (List Int)) × Int × Int) :=
  (p_spec_l1Cur_among [2, 3, 1, 2, 4] x0 x1 x2).bind (fun r1 => whl (fun (s2 : Int × Int × Int × (List (List Int))) c4 => (if 0 < s2.1 then (p_spec_l1Cur_die x0 s2.2.1 s2.2.2.1).bind (fun r9 => (if 0 < (s2.2.2.2.length : Int) then (p_spec_l1Cur_one 3 x0 r9.2.1 r9.2.2).bind (fun r13 => (if r13.1 = true then if (s2.2.2.2.length : Int) + 1 ≤ 1000000000 then c4 ((IntKind.wrap .i64 (s2.1 - 1)), r13.2.1, r13.2.2, (s2.2.2.2 ++ [(s2.2.2.2.getD 0 (List.replicate 6 0))])) else none else if (s2.2.2.2.length : Int) + 1 ≤ 1000000000 then c4 ((IntKind.wrap .i64 (s2.1 - 1)), r13.2.1, r13.2.2, (s2.2.2.2 ++ [r9.1])) else none)) else c4 ((IntKind.wrap .i64 (s2.1 - 1)), r9.2.1, r9.2.2, (s2.2.2.2 ++ [r9.1])))) else (p_spec_l1Cur_pick 50 x0 s2.2.1 s2.2.2.1).bind (fun r17 => (if r17.1 = 0 then some ([], r17.2.1, r17.2.2) else (if r17.1 = 1 then whl (fun (s24 : (List (List Int))) c26 => (if (s24.length : Int) < 5 then if 0 < (s24.length : Int) then c26 (s24 ++ [(s24.getD 0 (List.replicate 6 0))]) else none else some (s24, r17.2.1, r17.2.2))) fu s2.2.2.2 else some (s2.2.2.2, r17.2.1, r17.2.2)))))) fu (r1.1, r1.2.1, r1.2.2, []))
/-- loop.example/g01210/spec.l1In -/
def p_spec_l1In (x0 : Int) (x1 : Int) (x2 : Int) : Bool :=
  ((decide (x1 ≤ x0)) && (decide (x0 ≤ x2)))
/-- loop.example/g01210/spec.l2Die -/
def p_spec_l2Die (x0 : (List Int)) : Option (Bool) :=
  cnt (fun i2 (s1 : Unit) c3 _ => (if ((!(p_spec_l1In (x0.getD i2.toNat 0) 0 30)) || ((decide (0 < i2)) && (decide ((x0.getD i2.toNat 0) < (x0.getD (i2 - 1).toNat 0))))) = true then some false else c3 ())) (fun i2 (s1 : Unit) => some true) (Int.toNat (6 - 0)) 0 ()
/-- loop.example/g01210/spec.l2Pool -/
def p_spec_l2Pool (x0 : (List (List Int))) : Option (Bool) :=
  cnt (fun i2 (s1 : Unit) c3 k16 => (if ((decide (i2 < (x0.length : Int))) && (decide (i2 ≤ 4))) = true then (p_spec_l2Die (x0.getD i2.toNat (List.replicate 6 0))).bind (fun r14 => (if r14 = true then c3 () else some false)) else k16 i2 s1)) (fun i2 (s1 : Unit) => some (p_spec_l1In (x0.length : Int) 1 4)) (Int.toNat ((x0.length : Int) - 0)) 0 ()
/-- loop.example/g01210/spec.l2All -/
def p_spec_l2All (fu : Nat) (x0 : Int) : Option (Int) :=
  whl (fun (s1 : Int × Int) c3 => (if s1.2 < x0 then c3 ((IntKind.wrap .i64 (s1.1 * 6)), (IntKind.wrap .i64 (s1.2 + 1))) else some s1.1)) fu (1, 0)
/-- loop.example/g01210/spec.l2Roll -/
def p_spec_l2Roll (fu : Nat) (x0 : (List (List Int))) (x1 : Int) : Option ((List Int)) :=
  if (x0.length : Int) ≤ 1000000000 then whl (fun (s2 : Int × Int × (List Int)) c4 => (if 0 ≤ s2.2.1 then if 0 ≤ (s2.1.tmod 6) then if (s2.1.tmod 6) < 6 then c4 ((IntKind.wrap .i64 (s2.1.tdiv 6)), (s2.2.1 - 1), (s2.2.2.set s2.2.1.toNat ((x0.getD s2.2.1.toNat (List.replicate 6 0)).getD (s2.1.tmod 6).toNat 0))) else none else none else some s2.2.2)) fu (x1, ((x0.length : Int) - 1), (List.replicate (x0.length : Int).toNat 0)) else none
/-- (*loop.example/g01210/spec.l1Cur).sum -/
def p_spec_l1Cur_sum (fu : Nat) (x0 : (List (List Int))) (x1 : (List Int)) (x2 : Int) (x3 : Int) : Option (Int × Int × Int) :=
  (p_spec_l2Pool x0).bind (fun r1 => (if r1 = true then (p_spec_l1Cur_one 6 x1 x2 x3).bind (fun r3 => (if r3.1 = true then (p_spec_l1Cur_among [7, 10, 0, 120, 121, (-1), 4611686018427387904] x1 r3.2.1 r3.2.2).bind (fun r16 => some (r16.1, r16.2.1, r16.2.2)) else (p_spec_l2All fu (x0.length : Int)).bind (fun r5 => (p_spec_l1Cur_pick r5 x1 r3.2.1 r3.2.2).bind (fun r6 => (p_spec_l2Roll fu x0 r6.1).bind (fun r7 => cnt (fun i10 (s9 : Int) c11 _ => c11 (IntKind.wrap .i64 (s9 + (r7.getD i10.toNat 0)))) (fun i10 (s9 : Int) => some (s9, r6.2.1, r6.2.2)) (Int.toNat ((r7.length : Int) - 0)) 0 0))))) else (p_spec_l1Cur_among [7, 10, 0, 120, 121, (-1), 4611686018427387904] x1 x2 x3).bind (fun r17 => some (r17.1, r17.2.1, r17.2.2))))
/-- loop.example/g01210/spec.DrawChanceOfSum -/
def p_spec_DrawChanceOfSum (fu : Nat) (x0 : (List Int)) : Option ((List (List Int)) × Int) :=
  (p_spec_l1Cur_pool fu x0 0 0).bind (fun r1 => (p_spec_l1Cur_sum fu r1.1 x0 r1.2.1 r1.2.2).bind (fun r3 => some (r1.1, r3.1)))
/-- loop.example/g01210/impl.within -/
def p_impl_within (x0 : Int) (x1 : Int) (x2 : Int) : Bool :=
  ((decide (x1 ≤ x0)) && (decide (x0 ≤ x2)))
/-- loop.example/g01210/impl.isFace -/
def p_impl_isFace (x0 : Int) : Bool :=
  (p_impl_within x0 0 30)
/-- loop.example/g01210/impl.areAll[int]$1 -/
def p_impl_areAll_int_1 (x0 : Int) : Bool :=
  (!(p_impl_isFace x0))
/-- slices.IndexFunc[[]int,int] -/
def p_slices_IndexFunc_int_int (x0 : (List Int)) : Int :=
  cnt (fun i2 (s1 : Unit) c3 _ => (if (p_impl_areAll_int_1 (x0.getD i2.toNat 0)) = true then i2 else c3 ())) (fun i2 (s1 : Unit) => (-1)) (Int.toNat ((x0.length : Int) - 0)) 0 ()
/-- slices.ContainsFunc[[]int,int] -/
def p_slices_ContainsFunc_int_int (x0 : (List Int)) : Bool :=
  (decide (0 ≤ (p_slices_IndexFunc_int_int x0)))
/-- loop.example/g01210/impl.areAll[int] -/
def p_impl_areAll_int (x0 : (List Int)) : Bool :=
  (!(p_slices_ContainsFunc_int_int x0))
/-- cmp.isNaN[int] -/
def p_cmp_isNaN_int (x0 : Int) : Bool :=
  (!(decide (x0 = x0)))
/-- cmp.Less[int] -/
def p_cmp_Less_int (x0 : Int) (x1 : Int) : Bool :=
  (((p_cmp_isNaN_int x0) && (!(p_cmp_isNaN_int x1))) || (decide (x0 < x1)))
/-- slices.IsSorted[[]int,int] -/
def p_slices_IsSorted_int_int (x0 : (List Int)) : Bool :=
  cntd (fun i2 (s1 : Unit) c3 _ => (if (p_cmp_Less_int (x0.getD i2.toNat 0) (x0.getD (i2 - 1).toNat 0)) = true then false else c3 ())) (fun i2 (s1 : Unit) => true) (Int.toNat (((x0.length : Int) - 1) - 0)) ((x0.length : Int) - 1) ()
/-- loop.example/g01210/impl.IsDie -/
def p_impl_IsDie (x0 : (List Int)) : Bool :=
  ((p_impl_areAll_int x0) && (p_slices_IsSorted_int_int x0))
/-- loop.example/g01210/impl.areAll[[6]int]$1 -/
def p_impl_areAll_6_int_1 (x0 : (List Int)) : Bool :=
  (!(p_impl_IsDie x0))
/-- slices.IndexFunc[[][6]int,[6]int] -/
def p_slices_IndexFunc_6_int_6_int (x0 : (List (List Int))) : Int :=
  cnt (fun i2 (s1 : Unit) c3 _ => (if (p_impl_areAll_6_int_1 (x0.getD i2.toNat (List.replicate 6 0))) = true then i2 else c3 ())) (fun i2 (s1 : Unit) => (-1)) (Int.toNat ((x0.length : Int) - 0)) 0 ()
/-- slices.ContainsFunc[[][6]int,[6]int] -/
def p_slices_ContainsFunc_6_int_6_int (x0 : (List (List Int))) : Bool :=
  (decide (0 ≤ (p_slices_IndexFunc_6_int_6_int x0)))
/-- loop.example/g01210/impl.areAll[[6]int] -/
def p_impl_areAll_6_int (x0 : (List (List Int))) : Bool :=
  (!(p_slices_ContainsFunc_6_int_6_int x0))
/-- loop.example/g01210/impl.IsPool -/
def p_impl_IsPool (x0 : (List (List Int))) : Bool :=
  ((p_impl_within (x0.length : Int) 1 4) && (p_impl_areAll_6_int x0))
/-- loop.example/g01210/impl.sums -/
def p_impl_sums (x0 : (List (List Int))) : Option ((List Int)) :=
  cnt (fun i2 (s1 : (List Int)) c3 _ => cnt (fun i9 (s8 : (List Int)) c10 _ => (if (s1.getD i9.toNat 0) = 0 then c10 s8 else cnt (fun i19 (s18 : (List Int)) c20 _ => if 0 ≤ (IntKind.wrap .i64 (i9 + ((x0.getD i2.toNat (List.replicate 6 0)).getD i19.toNat 0))) then if (IntKind.wrap .i64 (i9 + ((x0.getD i2.toNat (List.replicate 6 0)).getD i19.toNat 0))) < 121 then c20 (s18.set (IntKind.wrap .i64 (i9 + ((x0.getD i2.toNat (List.replicate 6 0)).getD i19.toNat 0))).toNat (IntKind.wrap .i64 ((s18.getD (IntKind.wrap .i64 (i9 + ((x0.getD i2.toNat (List.replicate 6 0)).getD i19.toNat 0))).toNat 0) + (s1.getD i9.toNat 0)))) else none else none) (fun i19 (s18 : (List Int)) => c10 s18) (Int.toNat (6 - 0)) 0 s8)) (fun i9 (s8 : (List Int)) => c3 s8) (Int.toNat (121 - 0)) 0 (List.replicate 121 0)) (fun i2 (s1 : (List Int)) => some s1) (Int.toNat ((x0.length : Int) - 0)) 0 ((List.replicate 121 0).set 0 1)
/-- loop.example/g01210/impl.SumTable -/
def p_impl_SumTable (x0 : (List (List Int))) : Option ((List Int) × Bool) :=
  (if (p_impl_IsPool x0) = true then (p_impl_sums x0).bind (fun r2 => some (r2, true)) else some ((List.replicate 121 0), false))
/-- loop.example/g01210/spec.l2Table -/
def p_spec_l2Table (x0 : (List (List Int))) : Option ((List Int)) :=
  cnt (fun i2 (s1 : (List Int)) c3 _ => cnt (fun i9 (s8 : (List Int)) c10 _ => cnt (fun i16 (s15 : (List Int)) c17 _ => (if 0 < (s1.getD i9.toNat 0) then if 0 ≤ (IntKind.wrap .i64 (i9 + ((x0.getD i2.toNat (List.replicate 6 0)).getD i16.toNat 0))) then if (IntKind.wrap .i64 (i9 + ((x0.getD i2.toNat (List.replicate 6 0)).getD i16.toNat 0))) < 121 then c17 (s15.set (IntKind.wrap .i64 (i9 + ((x0.getD i2.toNat (List.replicate 6 0)).getD i16.toNat 0))).toNat (IntKind.wrap .i64 ((s15.getD (IntKind.wrap .i64 (i9 + ((x0.getD i2.toNat (List.replicate 6 0)).getD i16.toNat 0))).toNat 0) + (s1.getD i9.toNat 0)))) else none else none else c17 s15)) (fun i16 (s15 : (List Int)) => c10 s15) (Int.toNat (6 - 0)) 0 s8) (fun i9 (s8 : (List Int)) => c3 s8) (Int.toNat (121 - 0)) 0 (List.replicate 121 0)) (fun i2 (s1 : (List Int)) => some s1) (Int.toNat ((x0.length : Int) - 0)) 0 ((List.replicate 121 0).set 0 1)
/-- loop.example/g01210/spec.SumTable -/
def p_spec_SumTable (x0 : (List (List Int))) : Option ((List Int) × Bool) :=
  (p_spec_l2Pool x0).bind (fun r1 => (if r1 = true then (p_spec_l2Table x0).bind (fun r3 => some (r3, true)) else some ((List.replicate 121 0), false)))
/-- loop.example/g01210/impl.power -/
def p_impl_power (fu : Nat) (x0 : Int) : Option (Int) :=
  whl (fun (s1 : Int × Int) c3 => (if s1.2 < x0 then c3 ((IntKind.wrap .i64 (s1.1 * 6)), (IntKind.wrap .i64 (s1.2 + 1))) else some s1.1)) fu (1, 0)
/-- loop.example/g01210/impl.fraction -/
def p_impl_fraction (fu : Nat) (x0 : Int) (x1 : Int) : Option ((List Int)) :=
  whl (fun (s1 : Int × Int) c3 => (if s1.2 = 0 then if s1.1 ≠ 0 then if s1.1 ≠ 0 then some [(IntKind.wrap .i64 (x0.tdiv s1.1)), (IntKind.wrap .i64 (x1.tdiv s1.1))] else none else none else if s1.2 ≠ 0 then c3 (s1.2, (s1.1.tmod s1.2)) else none)) fu (x0, x1)
/-- loop.example/g01210/impl.ChanceOfSum -/
def p_impl_ChanceOfSum (fu : Nat) (x0 : (List (List Int))) (x1 : Int) : Option ((List Int) × Bool) :=
  (if ((!(p_impl_IsPool x0)) || (!(p_impl_within x1 0 120))) = true then some ((List.replicate 2 0), false) else (p_impl_sums x0).bind (fun r7 => if 0 ≤ x1 then if x1 < 121 then (p_impl_power fu (x0.length : Int)).bind (fun r10 => (p_impl_fraction fu (r7.getD x1.toNat 0) r10).bind (fun r11 => some (r11, true))) else none else none))
/-- loop.example/g01210/spec.l2Sum -/
def p_spec_l2Sum (x0 : (List (List Int))) (x1 : Int) : Option (Bool) :=
  (p_spec_l2Pool x0).bind (fun r1 => some (r1 && (p_spec_l1In x1 0 120)))
/-- loop.example/g01210/spec.l1Most -/
def p_spec_l1Most (x0 : Int) (x1 : Int) : Int :=
  (if x1 < x0 then x0 else x1)
/-- loop.example/g01210/spec.l2Cut -/
def p_spec_l2Cut (fu : Nat) (x0 : Int) (x1 : Int) : Option ((List Int)) :=
  whl (fun (s1 : Int × Int) c3 => (if 0 < s1.2 then c3 (s1.2, (s1.1.tmod s1.2)) else if (p_spec_l1Most s1.1 1) ≠ 0 then if (p_spec_l1Most s1.1 1) ≠ 0 then some [(IntKind.wrap .i64 (x0.tdiv (p_spec_l1Most s1.1 1))), (IntKind.wrap .i64 (x1.tdiv (p_spec_l1Most s1.1 1)))] else none else none)) fu (x0, x1)
/-- loop.example/g01210/spec.ChanceOfSum -/
def p_spec_ChanceOfSum (fu : Nat) (x0 : (List (List Int))) (x1 : Int) : Option ((List Int) × Bool) :=
  (p_spec_l2Sum x0 x1).bind (fun r1 => (if r1 = true then (p_spec_l2Table x0).bind (fun r3 => if 0 ≤ x1 then if x1 < 121 then (p_spec_l2All fu (x0.length : Int)).bind (fun r6 => (p_spec_l2Cut fu (r3.getD x1.toNat 0) r6).bind (fun r7 => some (r7, true))) else none else none) else some ((List.replicate 2 0), false)))
/-- loop.example/g01210/impl.total -/
def p_impl_total (x0 : (List Int)) : Int :=
  cnt (fun i2 (s1 : Int) c3 _ => c3 (IntKind.wrap .i64 (s1 + (x0.getD i2.toNat 0)))) (fun i2 (s1 : Int) => s1) (Int.toNat ((x0.length : Int) - 0)) 0 0
/-- loop.example/g01210/impl.ChanceAtLeast -/
def p_impl_ChanceAtLeast (fu : Nat) (x0 : (List (List Int))) (x1 : Int) : Option ((List Int) × Bool) :=
  (if ((!(p_impl_IsPool x0)) || (!(p_impl_within x1 0 120))) = true then some ((List.replicate 2 0), false) else (p_impl_sums x0).bind (fun r7 => if 0 ≤ x1 then if x1 ≤ 121 then (p_impl_power fu (x0.length : Int)).bind (fun r10 => (p_impl_fraction fu (p_impl_total ((r7.drop x1.toNat).take (121 - x1).toNat)) r10).bind (fun r11 => some (r11, true))) else none else none))
/-- loop.example/g01210/spec.ChanceAtLeast -/
def p_spec_ChanceAtLeast (fu : Nat) (x0 : (List (List Int))) (x1 : Int) : Option ((List Int) × Bool) :=
  (p_spec_l2Sum x0 x1).bind (fun r1 => (if r1 = true then (p_spec_l2Table x0).bind (fun r3 => cnt (fun i5 (s4 : Int) c6 _ => if 0 ≤ i5 then c6 (IntKind.wrap .i64 (s4 + (r3.getD i5.toNat 0))) else none) (fun i5 (s4 : Int) => (p_spec_l2All fu (x0.length : Int)).bind (fun r12 => (p_spec_l2Cut fu s4 r12).bind (fun r13 => some (r13, true)))) (Int.toNat (121 - x1)) x1 0) else some ((List.replicate 2 0), false)))
/-- loop.example/g01210/impl.MeanOf -/
def p_impl_MeanOf (fu : Nat) (x0 : (List (List Int))) : Option ((List Int) × Bool) :=
  (if (p_impl_IsPool x0) = true then cnt (fun i3 (s2 : Int) c4 _ => c4 (IntKind.wrap .i64 (s2 + (p_impl_total (x0.getD i3.toNat (List.replicate 6 0)))))) (fun i3 (s2 : Int) => (p_impl_fraction fu s2 6).bind (fun r9 => some (r9, true))) (Int.toNat ((x0.length : Int) - 0)) 0 0 else some ((List.replicate 2 0), false))
/-- loop.example/g01210/spec.MeanOf -/
def p_spec_MeanOf (fu : Nat) (x0 : (List (List Int))) : Option ((List Int) × Bool) :=
  (p_spec_l2Pool x0).bind (fun r1 => (if r1 = true then cnt (fun i4 (s3 : Int) c5 _ => cnt (fun i11 (s10 : Int) c12 _ => c12 (IntKind.wrap .i64 (s10 + ((x0.getD i4.toNat (List.replicate 6 0)).getD i11.toNat 0)))) (fun i11 (s10 : Int) => c5 s10) (Int.toNat (6 - 0)) 0 s3) (fun i4 (s3 : Int) => (p_spec_l2Cut fu s3 6).bind (fun r17 => some (r17, true))) (Int.toNat ((x0.length : Int) - 0)) 0 0 else some ((List.replicate 2 0), false)))
/-- loop.example/g01210/impl.SpreadOf -/
def p_impl_SpreadOf (fu : Nat) (x0 : (List (List Int))) : Option ((List Int) × Bool) :=
  (if (p_impl_IsPool x0) = true then cnt (fun i3 (s2 : Int) c4 _ => cnt (fun i10 (s9 : Int) c11 _ => c11 (IntKind.wrap .i64 (s9 + (IntKind.wrap .i64 (((x0.getD i3.toNat (List.replicate 6 0)).getD i10.toNat 0) * ((x0.getD i3.toNat (List.replicate 6 0)).getD i10.toNat 0)))))) (fun i10 (s9 : Int) => c4 (IntKind.wrap .i64 (s2 + (IntKind.wrap .i64 ((IntKind.wrap .i64 (6 * s9)) - (IntKind.wrap .i64 ((p_impl_total (x0.getD i3.toNat (List.replicate 6 0))) * (p_impl_total (x0.getD i3.toNat (List.replicate 6 0)))))))))) (Int.toNat (6 - 0)) 0 0) (fun i3 (s2 : Int) => (p_impl_fraction fu s2 36).bind (fun r16 => some (r16, true))) (Int.toNat ((x0.length : Int) - 0)) 0 0 else some ((List.replicate 2 0), false))
/-- loop.example/g01210/spec.SpreadOf -/
def p_spec_SpreadOf (fu : Nat) (x0 : (List (List Int))) : Option ((List Int) × Bool) :=
  (p_spec_l2Pool x0).bind (fun r1 => (if r1 = true then cnt (fun i4 (s3 : Int) c5 _ => cnt (fun i11 (s10 : Int × Int) c12 _ => c12 ((IntKind.wrap .i64 (s10.1 + ((x0.getD i4.toNat (List.replicate 6 0)).getD i11.toNat 0))), (IntKind.wrap .i64 (s10.2 + (IntKind.wrap .i64 (((x0.getD i4.toNat (List.replicate 6 0)).getD i11.toNat 0) * ((x0.getD i4.toNat (List.replicate 6 0)).getD i11.toNat 0))))))) (fun i11 (s10 : Int × Int) => c5 (IntKind.wrap .i64 ((IntKind.wrap .i64 (s3 + (IntKind.wrap .i64 (6 * s10.2)))) - (IntKind.wrap .i64 (s10.1 * s10.1))))) (Int.toNat (6 - 0)) 0 (0, 0)) (fun i4 (s3 : Int) => (p_spec_l2Cut fu s3 36).bind (fun r17 => some (r17, true))) (Int.toNat ((x0.length : Int) - 0)) 0 0 else some ((List.replicate 2 0), false)))
/-- loop.example/g01210/impl.bounds -/
def p_impl_bounds (x0 : (List (List Int))) : Int × Int :=
  cnt (fun i2 (s1 : Int × Int) c3 _ => c3 ((IntKind.wrap .i64 (s1.1 + ((x0.getD i2.toNat (List.replicate 6 0)).getD 0 0))), (IntKind.wrap .i64 (s1.2 + ((x0.getD i2.toNat (List.replicate 6 0)).getD 5 0))))) (fun i2 (s1 : Int × Int) => (s1.1, s1.2)) (Int.toNat ((x0.length : Int) - 0)) 0 (0, 0)
/-- loop.example/g01210/impl.BoundsOf -/
def p_impl_BoundsOf (x0 : (List (List Int))) : Int × Int × Bool :=
  (if (p_impl_IsPool x0) = true then ((p_impl_bounds x0).1, (p_impl_bounds x0).2, true) else (0, 0, false))
/-- loop.example/g01210/spec.BoundsOf -/
def p_spec_BoundsOf (x0 : (List (List Int))) : Option (Int × Int × Bool) :=
  (p_spec_l2Pool x0).bind (fun r1 => (if r1 = true then cnt (fun i4 (s3 : Int × Int) c5 _ => c5 ((IntKind.wrap .i64 (s3.1 + ((x0.getD i4.toNat (List.replicate 6 0)).getD 0 0))), (IntKind.wrap .i64 (s3.2 + ((x0.getD i4.toNat (List.replicate 6 0)).getD 5 0))))) (fun i4 (s3 : Int × Int) => some (s3.1, s3.2, true)) (Int.toNat ((x0.length : Int) - 0)) 0 (0, 0) else some (0, 0, false)))
/-- slices.Max[[]int,int] -/
def p_slices_Max_int_int (x0 : (List Int)) : Option (Int) :=
  (if (x0.length : Int) < 1 then none else cnt (fun i5 (s4 : Int) c6 _ => c6 (if (x0.getD i5.toNat 0) > s4 then (x0.getD i5.toNat 0) else s4)) (fun i5 (s4 : Int) => some s4) (Int.toNat ((x0.length : Int) - 1)) 1 (x0.getD 0 0))
/-- loop.example/g01210/impl.TopSums -/
def p_impl_TopSums (x0 : (List (List Int))) : Option ((List Int) × Int × Bool) :=
  (if (p_impl_IsPool x0) = true then (p_impl_sums x0).bind (fun r2 => (p_slices_Max_int_int r2).bind (fun r3 => cnt (fun i5 (s4 : (List Int)) c6 _ => (if (r2.getD i5.toNat 0) = r3 then if (s4.length : Int) + 1 ≤ 1000000000 then c6 (s4 ++ [i5]) else none else c6 s4)) (fun i5 (s4 : (List Int)) => some (s4, r3, true)) (Int.toNat (121 - 0)) 0 [])) else some ([], 0, false))
/-- loop.example/g01210/spec.TopSums -/
def p_spec_TopSums (x0 : (List (List Int))) : Option ((List Int) × Int × Bool) :=
  (p_spec_l2Pool x0).bind (fun r1 => (if r1 = true then (p_spec_l2Table x0).bind (fun r3 => cnt (fun i5 (s4 : Int × (List Int)) c6 _ => jn (fun (s11 : Int × (List Int)) => (if ((decide ((r3.getD i5.toNat 0) = s11.1)) && (decide (0 < s11.1))) = true then if (s11.2.length : Int) + 1 ≤ 1000000000 then c6 (s11.1, (s11.2 ++ [i5])) else none else c6 (s11.1, s11.2))) (fun k12 => (if s4.1 < (r3.getD i5.toNat 0) then k12 ((r3.getD i5.toNat 0), []) else k12 (s4.1, s4.2)))) (fun i5 (s4 : Int × (List Int)) => some (s4.2, s4.1, true)) (Int.toNat (121 - 0)) 0 (0, [])) else some ([], 0, false)))
/-- loop.example/g01210/laws.vInts -/
def p_laws_vInts (x0 : (List Int)) (x1 : (List Int)) : Bool :=
  (if (x0.length : Int) = (x1.length : Int) then cnt (fun i5 (s4 : Unit) c6 _ => (if (x0.getD i5.toNat 0) = (x1.getD i5.toNat 0) then c6 () else false)) (fun i5 (s4 : Unit) => true) (Int.toNat ((x0.length : Int) - 0)) 0 () else false)
/-- loop.example/g01210/spec.IsPool -/
def p_spec_IsPool (x0 : (List (List Int))) : Option (Bool) :=
  (p_spec_l2Pool x0).bind (fun r1 => some r1)
/-- loop.example/g01210/laws.vHas -/
def p_laws_vHas (x0 : (List Int)) (x1 : Int) : Bool :=
  cnt (fun i2 (s1 : Unit) c3 _ => (if (x0.getD i2.toNat 0) = x1 then true else c3 ())) (fun i2 (s1 : Unit) => false) (Int.toNat ((x0.length : Int) - 0)) 0 ()
/-- loop.example/g01210/laws.vSix -/
def p_laws_vSix (fu : Nat) (x0 : Int) : Option (Int) :=
  whl (fun (s1 : Int × Int) c3 => (if s1.2 < x0 then c3 ((IntKind.wrap .i64 (s1.1 * 6)), (IntKind.wrap .i64 (s1.2 + 1))) else some s1.1)) fu (1, 0)
/-- loop.example/g01210/laws.FnSumsOfDice -/
def p_laws_FnSumsOfDice (fu : Nat) (x0 : (List Int)) : Option (Bool) :=
  (if (p_laws_vBig x0) = true then some true else (p_spec_DrawChanceOfSum fu x0).bind (fun r2 => (p_impl_SumTable r2.1).bind (fun r3 => (p_spec_SumTable r2.1).bind (fun r4 => (p_impl_ChanceOfSum fu r2.1 r2.2).bind (fun r5 => (p_spec_ChanceOfSum fu r2.1 r2.2).bind (fun r6 => (p_impl_ChanceAtLeast fu r2.1 r2.2).bind (fun r7 => (p_spec_ChanceAtLeast fu r2.1 r2.2).bind (fun r8 => (p_impl_MeanOf fu r2.1).bind (fun r9 => (p_spec_MeanOf fu r2.1).bind (fun r10 => (p_impl_SpreadOf fu r2.1).bind (fun r11 => (p_spec_SpreadOf fu r2.1).bind (fun r12 => (p_spec_BoundsOf r2.1).bind (fun r13 => (p_impl_TopSums r2.1).bind (fun r14 => (p_spec_TopSums r2.1).bind (fun r16 => if ((!((((((((((((((((!(decide (r3.1 = r4.1))) || (r3.2 != r4.2)) || (!(decide (r5.1 = r6.1)))) || (r5.2 != r6.2)) || (!(decide (r7.1 = r8.1)))) || (r7.2 != r8.2)) || (!(decide (r9.1 = r10.1)))) || (r9.2 != r10.2)) || (!(decide (r11.1 = r12.1)))) || (r11.2 != r12.2)) || (!(decide ((p_impl_BoundsOf r2.1).1 = r13.1)))) || (!(decide ((p_impl_BoundsOf r2.1).2.1 = r13.2.1)))) || (((p_impl_BoundsOf r2.1).2.2) != r13.2.2)) || (!(p_laws_vInts r14.1 r16.1))) || (!(decide (r14.2.1 = r16.2.1)))) || (r14.2.2 != r16.2.2))) = true → (p_spec_IsPool r2.1).isSome = true) then (if (((((((((((((((((((((((!(decide (r3.1 = r4.1))) || (r3.2 != r4.2)) || (!(decide (r5.1 = r6.1)))) || (r5.2 != r6.2)) || (!(decide (r7.1 = r8.1)))) || (r7.2 != r8.2)) || (!(decide (r9.1 = r10.1)))) || (r9.2 != r10.2)) || (!(decide (r11.1 = r12.1)))) || (r11.2 != r12.2)) || (!(decide ((p_impl_BoundsOf r2.1).1 = r13.1)))) || (!(decide ((p_impl_BoundsOf r2.1).2.1 = r13.2.1)))) || (((p_impl_BoundsOf r2.1).2.2) != r13.2.2)) || (!(p_laws_vInts r14.1 r16.1))) || (!(decide (r14.2.1 = r16.2.1)))) || (r14.2.2 != r16.2.2)) || ((p_impl_IsPool r2.1) != ((p_spec_IsPool r2.1).getD false))) || (r3.2 != (p_impl_IsPool r2.1))) || (r3.2 != r9.2)) || (r3.2 != r11.2)) || (r3.2 != ((p_impl_BoundsOf r2.1).2.2))) || (r3.2 != r14.2.2)) || (r5.2 != r7.2)) = true then some false else (if r3.2 = true then cnt (fun i1745 (s1744 : Int × Int × Int × Int) c1746 _ => jn (fun (s1751 : Int) => (if (((decide (0 < (r3.1.getD i1745.toNat 0))) && ((decide (i1745 < (p_impl_BoundsOf r2.1).1)) || (decide ((p_impl_BoundsOf r2.1).2.1 < i1745)))) || ((p_laws_vHas r14.1 i1745) != (decide ((r3.1.getD i1745.toNat 0) = r14.2.1)))) = true then some false else c1746 ((IntKind.wrap .i64 (s1744.1 + (r3.1.getD i1745.toNat 0))), (IntKind.wrap .i64 (s1744.2.1 + (IntKind.wrap .i64 (i1745 * (r3.1.getD i1745.toNat 0))))), (IntKind.wrap .i64 (s1744.2.2.1 + (IntKind.wrap .i64 ((IntKind.wrap .i64 (i1745 * i1745)) * (r3.1.getD i1745.toNat 0))))), s1751))) (fun k1752 => (if s1744.2.2.2 < (r3.1.getD i1745.toNat 0) then k1752 (r3.1.getD i1745.toNat 0) else k1752 s1744.2.2.2))) (fun i1745 (s1744 : Int × Int × Int × Int) => (p_laws_vSix fu (r2.1.length : Int)).bind (fun r1794 => if ((!(!(decide (s1744.1 = r1794)))) = true → 0 ≤ (p_impl_BoundsOf r2.1).1) then if ((!(!(decide (s1744.1 = r1794)))) = true → (p_impl_BoundsOf r2.1).1 < 121) then if ((!((!(decide (s1744.1 = r1794))) || (decide ((r3.1.getD ((p_impl_BoundsOf r2.1).1).toNat 0) < 1)))) = true → 0 ≤ (p_impl_BoundsOf r2.1).2.1) then if ((!((!(decide (s1744.1 = r1794))) || (decide ((r3.1.getD ((p_impl_BoundsOf r2.1).1).toNat 0) < 1)))) = true → (p_impl_BoundsOf r2.1).2.1 < 121) then (if ((((((!(decide (s1744.1 = r1794))) || (decide ((r3.1.getD ((p_impl_BoundsOf r2.1).1).toNat 0) < 1))) || (decide ((r3.1.getD ((p_impl_BoundsOf r2.1).2.1).toNat 0) < 1))) || (!(decide (s1744.2.2.2 = r14.2.1)))) || (!(decide ((IntKind.wrap .i64 (s1744.2.1 * (r9.1.getD 1 0))) = (IntKind.wrap .i64 ((r9.1.getD 0 0) * s1744.1)))))) || (!(decide ((IntKind.wrap .i64 ((IntKind.wrap .i64 ((IntKind.wrap .i64 (s1744.2.2.1 * s1744.1)) - (IntKind.wrap .i64 (s1744.2.1 * s1744.2.1)))) * (r11.1.getD 1 0))) = (IntKind.wrap .i64 ((IntKind.wrap .i64 ((r11.1.getD 0 0) * s1744.1)) * s1744.1)))))) = true then some false else (if r5.2 = true then jn (fun (s2214 : (List Int)) => if 0 ≤ r2.2 then if r2.2 < 121 then (if ((!(decide ((IntKind.wrap .i64 ((r5.1.getD 0 0) * s1744.1)) = (IntKind.wrap .i64 ((r3.1.getD r2.2.toNat 0) * (r5.1.getD 1 0)))))) || (!(decide ((IntKind.wrap .i64 ((IntKind.wrap .i64 ((r7.1.getD 0 0) * (s2214.getD 1 0))) * (r5.1.getD 1 0))) = (IntKind.wrap .i64 ((IntKind.wrap .i64 ((IntKind.wrap .i64 ((s2214.getD 0 0) * (r5.1.getD 1 0))) + (IntKind.wrap .i64 ((r5.1.getD 0 0) * (s2214.getD 1 0))))) * (r7.1.getD 1 0))))))) = true then some false else some true) else none else none) (fun k2215 => (if r2.2 < 120 then (p_impl_ChanceAtLeast fu r2.1 (IntKind.wrap .i64 (r2.2 + 1))).bind (fun r2273 => k2215 r2273.1) else k2215 [0, 1])) else some true)) else none else none else none else none)) (Int.toNat (121 - 0)) 0 (0, 0, 0, 0) else some true)) else none)))))))))))))))
end Go.GA
