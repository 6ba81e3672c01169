/- Walks: what the Go functions compute, by the printed lines below; no further conditions. -/
import Derived.Test.YtddljmnmkiofmaaGaD
namespace Go.GA
open Go
set_option maxRecDepth 100000
set_option maxHeartbeats 2000000
set_option linter.unusedVariables false
set_option linter.unusedSimpArgs false
/-- loop.example/g01210/laws.vBig -/
def p_laws_vBig (x0 : (List Int)) : Bool :=
  (decide (65536 < (x0.length : Int)))
/-- (*loop.example/g01210/spec.l1Cur).next -/
def p_spec_l1Cur_next (x0 : (List Int)) (x1 : Int) (x2 : Int) : Option (Int × Int × Int) :=
  jn (fun (s1 : Int) => (if (IntKind.wrap .i64 (x1 + 1)) ≤ (x0.length : Int) then some (s1, (IntKind.wrap .i64 (x1 + 1)), (IntKind.wrap .u64 ((IntKind.wrap .u64 ((IntKind.wrap .u64 (x2 * 6364136223846793005)) + (IntKind.wrap .u64 s1))) + 462197))) else some ((IntKind.wrap .i64 (andI .u64 (shrI .u64 (IntKind.wrap .u64 ((IntKind.wrap .u64 ((IntKind.wrap .u64 (x2 * 6364136223846793005)) + (IntKind.wrap .u64 s1))) + 462197)) 40) 255)), (IntKind.wrap .i64 (x1 + 1)), (IntKind.wrap .u64 ((IntKind.wrap .u64 ((IntKind.wrap .u64 (x2 * 6364136223846793005)) + (IntKind.wrap .u64 s1))) + 462197))))) (fun k2 => (if x1 < (x0.length : Int) then if 0 ≤ x1 then k2 (IntKind.wrap .i64 (x0.getD x1.toNat 0)) else none else k2 0))
/-- (*loop.example/g01210/spec.l1Cur).pick -/
def p_spec_l1Cur_pick (x0 : Int) (x1 : (List Int)) (x2 : Int) (x3 : Int) : Option (Int × Int × Int) :=
  (if x0 ≤ 1 then some (0, x2, x3) else (p_spec_l1Cur_next x1 x2 x3).bind (fun r4 => (if 200 < x0 then (p_spec_l1Cur_next x1 r4.2.1 r4.2.2).bind (fun r8 => some (((IntKind.wrap .i64 ((IntKind.wrap .i64 (r4.1 * 256)) + r8.1)).tmod x0), r8.2.1, r8.2.2)) else some ((r4.1.tmod x0), r4.2.1, r4.2.2))))
/-- (*loop.example/g01210/spec.l1Cur).among -/
def p_spec_l1Cur_among (x0 : (List Int)) (x1 : (List Int)) (x2 : Int) (x3 : Int) : Option (Int × Int × Int) :=
  (p_spec_l1Cur_pick (x0.length : Int) x1 x2 x3).bind (fun r1 => if 0 ≤ r1.1 then if r1.1 < (x0.length : Int) then some ((x0.getD r1.1.toNat 0), r1.2.1, r1.2.2) else none else none)
/-- (*loop.example/g01210/spec.l1Cur).face -/
def p_spec_l1Cur_face (x0 : (List Int)) (x1 : Int) (x2 : Int) : Option (Int × Int × Int) :=
  (p_spec_l1Cur_among [1, 2, 3, 4, 5, 6, 6, 0, 8, 9, 4, 3, 30, 12] x0 x1 x2).bind (fun r1 => some (r1.1, r1.2.1, r1.2.2))
/-- (*loop.example/g01210/spec.l1Cur).one -/
def p_spec_l1Cur_one (x0 : Int) (x1 : (List Int)) (x2 : Int) (x3 : Int) : Option (Bool × Int × Int) :=
  (p_spec_l1Cur_pick x0 x1 x2 x3).bind (fun r1 => some ((decide (r1.1 = 0)), r1.2.1, r1.2.2))
/-- loop.example/g01210/spec.l2Sorted -/
def p_spec_l2Sorted (x0 : (List Int)) : (List Int) :=
  cnt (fun i2 (s1 : (List Int)) c3 _ => cnt (fun i9 (s8 : (List Int)) c10 _ => (if (s8.getD (i9 + 1).toNat 0) < (s8.getD i9.toNat 0) then c10 ((s8.set i9.toNat (s8.getD (i9 + 1).toNat 0)).set (i9 + 1).toNat (s8.getD i9.toNat 0)) else c10 s8)) (fun i9 (s8 : (List Int)) => c3 s8) (Int.toNat (5 - 0)) 0 s1) (fun i2 (s1 : (List Int)) => s1) (Int.toNat (6 - 0)) 0 x0
/-- (*loop.example/g01210/spec.l1Cur).die -/
def p_spec_l1Cur_die (x0 : (List Int)) (x1 : Int) (x2 : Int) : Option ((List Int) × Int × Int) :=
  jn (fun (s1 : Int × Int × (List Int)) => (p_spec_l1Cur_pick 50 x0 s1.1 s1.2.1).bind (fun r4 => (if r4.1 = 0 then (p_spec_l1Cur_pick 6 x0 r4.2.1 r4.2.2).bind (fun r8 => (p_spec_l1Cur_among [(-1), 31, 0, 4611686018427387904] x0 r8.2.1 r8.2.2).bind (fun r9 => if 0 ≤ r8.1 then if r8.1 < 6 then some (((p_spec_l2Sorted s1.2.2).set r8.1.toNat r9.1), r9.2.1, r9.2.2) else none else none)) else (if r4.1 = 1 then some (((p_spec_l2Sorted s1.2.2).set 0 30), r4.2.1, r4.2.2) else some ((p_spec_l2Sorted s1.2.2), r4.2.1, r4.2.2))))) (fun k2 => (p_spec_l1Cur_pick 6 x0 x1 x2).bind (fun r15 => (if r15.1 = 0 then some ([1, 2, 3, 4, 5, 6], r15.2.1, r15.2.2) else (if r15.1 = 1 then k2 (r15.2.1, r15.2.2, [1, 2, 2, 3, 3, 4]) else (if r15.1 = 2 then (p_spec_l1Cur_face x0 r15.2.1 r15.2.2).bind (fun r25 => (p_spec_l1Cur_face x0 r25.2.1 r25.2.2).bind (fun r26 => cnt (fun i28 (s27 : Int × Int × (List Int)) c29 _ => (p_spec_l1Cur_one 3 x0 s27.1 s27.2.1).bind (fun r34 => (if r34.1 = true then c29 (r34.2.1, r34.2.2, ((s27.2.2.set i28.toNat r25.1).set i28.toNat r26.1)) else c29 (r34.2.1, r34.2.2, (s27.2.2.set i28.toNat r25.1))))) (fun i28 (s27 : Int × Int × (List Int)) => k2 (s27.1, s27.2.1, s27.2.2)) (Int.toNat (6 - 0)) 0 (r26.2.1, r26.2.2, [1, 2, 3, 4, 5, 6]))) else cnt (fun i37 (s36 : Int × Int × (List Int)) c38 _ => (p_spec_l1Cur_face x0 s36.1 s36.2.1).bind (fun r43 => c38 (r43.2.1, r43.2.2, (s36.2.2.set i37.toNat r43.1)))) (fun i37 (s36 : Int × Int × (List Int)) => k2 (s36.1, s36.2.1, s36.2.2)) (Int.toNat (6 - 0)) 0 (r15.2.1, r15.2.2, [1, 2, 3, 4, 5, 6]))))))
/-- (*loop.example/g01210/spec.l1Cur).pool -/
def p_spec_l1Cur_pool (fu : Nat) (x0 : (List Int)) (x1 : Int) (x2 : Int) : Option ((List (List Int)) × Int × Int) :=
  (p_spec_l1Cur_among [2, 3, 1, 2, 4] x0 x1 x2).bind (fun r1 => whl (fun (s2 : Int × Int × Int × (List (List Int))) c4 => (if 0 < s2.1 then (p_spec_l1Cur_die x0 s2.2.1 s2.2.2.1).bind (fun r9 => (if 0 < (s2.2.2.2.length : Int) then (p_spec_l1Cur_one 3 x0 r9.2.1 r9.2.2).bind (fun r13 => (if r13.1 = true then if (s2.2.2.2.length : Int) + 1 ≤ 1000000000 then c4 ((IntKind.wrap .i64 (s2.1 - 1)), r13.2.1, r13.2.2, (s2.2.2.2 ++ [(s2.2.2.2.getD 0 (List.replicate 6 0))])) else none else if (s2.2.2.2.length : Int) + 1 ≤ 1000000000 then c4 ((IntKind.wrap .i64 (s2.1 - 1)), r13.2.1, r13.2.2, (s2.2.2.2 ++ [r9.1])) else none)) else c4 ((IntKind.wrap .i64 (s2.1 - 1)), r9.2.1, r9.2.2, (s2.2.2.2 ++ [r9.1])))) else (p_spec_l1Cur_pick 50 x0 s2.2.1 s2.2.2.1).bind (fun r17 => (if r17.1 = 0 then some ([], r17.2.1, r17.2.2) else (if r17.1 = 1 then whl (fun (s24 : (List (List Int))) c26 => (if (s24.length : Int) < 5 then if 0 < (s24.length : Int) then c26 (s24 ++ [(s24.getD 0 (List.replicate 6 0))]) else none else some (s24, r17.2.1, r17.2.2))) fu s2.2.2.2 else some (s2.2.2.2, r17.2.1, r17.2.2)))))) fu (r1.1, r1.2.1, r1.2.2, []))
/-- loop.example/g01210/spec.l1Least -/
def p_spec_l1Least (x0 : Int) (x1 : Int) : Int :=
  (if x0 < x1 then x0 else x1)
/-- loop.example/g01210/spec.l1Most -/
def p_spec_l1Most (x0 : Int) (x1 : Int) : Int :=
  (if x1 < x0 then x0 else x1)
/-- (*loop.example/g01210/spec.l1Cur).place4 -/
def p_spec_l1Cur_place4 (x0 : (List (List Int))) (x1 : (List Int)) (x2 : Int) (x3 : Int) : Option (Int × Int × Int) :=
  (p_spec_l1Cur_one 24 x1 x2 x3).bind (fun r1 => (if r1.1 = true then (p_spec_l1Cur_among [0, (-1), 5, 4611686018427387904] x1 r1.2.1 r1.2.2).bind (fun r3 => some (r3.1, r3.2.1, r3.2.2)) else (p_spec_l1Cur_pick (p_spec_l1Most 1 (p_spec_l1Least (x0.length : Int) 4)) x1 r1.2.1 r1.2.2).bind (fun r4 => some ((IntKind.wrap .i64 (1 + r4.1)), r4.2.1, r4.2.2))))
/-- loop.example/g01210/spec.DrawKeepTable -/
def p_spec_DrawKeepTable (fu : Nat) (x0 : (List Int)) : Option ((List (List Int)) × Int) :=
  (p_spec_l1Cur_pool fu x0 0 0).bind (fun r1 => (p_spec_l1Cur_place4 r1.1 x0 r1.2.1 r1.2.2).bind (fun r3 => some (r1.1, r3.1)))
/-- loop.example/g01210/impl.within -/
def p_impl_within (x0 : Int) (x1 : Int) (x2 : Int) : Bool :=
  ((decide (x1 ≤ x0)) && (decide (x0 ≤ x2)))
/-- loop.example/g01210/impl.isFace -/
def p_impl_isFace (x0 : Int) : Bool :=
  (p_impl_within x0 0 30)
/-- loop.example/g01210/impl.areAll[int]$1 -/
def p_impl_areAll_int_1 (x0 : Int) : Bool :=
  (!(p_impl_isFace x0))
/-- slices.IndexFunc[[]int,int] -/
def p_slices_IndexFunc_int_int (x0 : (List Int)) : Int :=
  cnt (fun i2 (s1 : Unit) c3 _ => (if (p_impl_areAll_int_1 (x0.getD i2.toNat 0)) = true then i2 else c3 ())) (fun i2 (s1 : Unit) => (-1)) (Int.toNat ((x0.length : Int) - 0)) 0 ()
/-- slices.ContainsFunc[[]int,int] -/
def p_slices_ContainsFunc_int_int (x0 : (List Int)) : Bool :=
  (decide (0 ≤ (p_slices_IndexFunc_int_int x0)))
/-- loop.example/g01210/impl.areAll[int] -/
def p_impl_areAll_int (x0 : (List Int)) : Bool :=
  (!(p_slices_ContainsFunc_int_int x0))
/-- cmp.isNaN[int] -/
def p_cmp_isNaN_int (x0 : Int) : Bool :=
  (!(decide (x0 = x0)))
/-- cmp.Less[int] -/
def p_cmp_Less_int (x0 : Int) (x1 : Int) : Bool :=
  (((p_cmp_isNaN_int x0) && (!(p_cmp_isNaN_int x1))) || (decide (x0 < x1)))
/-- slices.IsSorted[[]int,int] -/
def p_slices_IsSorted_int_int (x0 : (List Int)) : Bool :=
  cntd (fun i2 (s1 : Unit) c3 _ => (if (p_cmp_Less_int (x0.getD i2.toNat 0) (x0.getD (i2 - 1).toNat 0)) = true then false else c3 ())) (fun i2 (s1 : Unit) => true) (Int.toNat (((x0.length : Int) - 1) - 0)) ((x0.length : Int) - 1) ()
/-- loop.example/g01210/impl.IsDie -/
def p_impl_IsDie (x0 : (List Int)) : Bool :=
  ((p_impl_areAll_int x0) && (p_slices_IsSorted_int_int x0))
/-- loop.example/g01210/impl.areAll[[6]int]$1 -/
def p_impl_areAll_6_int_1 (x0 : (List Int)) : Bool :=
  (!(p_impl_IsDie x0))
/-- slices.IndexFunc[[][6]int,[6]int] -/
def p_slices_IndexFunc_6_int_6_int (x0 : (List (List Int))) : Int :=
  cnt (fun i2 (s1 : Unit) c3 _ => (if (p_impl_areAll_6_int_1 (x0.getD i2.toNat (List.replicate 6 0))) = true then i2 else c3 ())) (fun i2 (s1 : Unit) => (-1)) (Int.toNat ((x0.length : Int) - 0)) 0 ()
/-- slices.ContainsFunc[[][6]int,[6]int] -/
def p_slices_ContainsFunc_6_int_6_int (x0 : (List (List Int))) : Bool :=
  (decide (0 ≤ (p_slices_IndexFunc_6_int_6_int x0)))
/-- loop.example/g01210/impl.areAll[[6]int] -/
def p_impl_areAll_6_int (x0 : (List (List Int))) : Bool :=
  (!(p_slices_ContainsFunc_6_int_6_int x0))
/-- loop.example/g01210/impl.IsPool -/
def p_impl_IsPool (x0 : (List (List Int))) : Bool :=
  ((p_impl_within (x0.length : Int) 1 4) && (p_impl_areAll_6_int x0))
/-- loop.example/g01210/impl.isCount -/
def p_impl_isCount (x0 : (List (List Int))) (x1 : Int) : Bool :=
  (p_impl_within x1 1 (x0.length : Int))
/-- loop.example/g01210/impl.power -/
def p_impl_power (fu : Nat) (x0 : Int) : Option (Int) :=
  whl (fun (s1 : Int × Int) c3 => (if s1.2 < x0 then c3 ((IntKind.wrap .i64 (s1.1 * 6)), (IntKind.wrap .i64 (s1.2 + 1))) else some s1.1)) fu (1, 0)
/-- loop.example/g01210/impl.rollAt -/
def p_impl_rollAt (fu : Nat) (x0 : (List (List Int))) (x1 : Int) : Option ((List Int)) :=
  if (x0.length : Int) ≤ 1000000000 then whl (fun (s2 : Int × Int × (List Int)) c4 => (if 0 ≤ s2.2.1 then if 0 ≤ (s2.1.tmod 6) then if (s2.1.tmod 6) < 6 then c4 ((IntKind.wrap .i64 (s2.1.tdiv 6)), (s2.2.1 - 1), (s2.2.2.set s2.2.1.toNat ((x0.getD s2.2.1.toNat (List.replicate 6 0)).getD (s2.1.tmod 6).toNat 0))) else none else none else some s2.2.2)) fu (x1, ((x0.length : Int) - 1), (List.replicate (x0.length : Int).toNat 0)) else none
/-- math/bits.Len64 -/
def p_math_bits_Len64 (x0 : Int) : Option (Int) :=
  jn (fun (s1 : Int × Int) => jn (fun (s4 : Int × Int) => jn (fun (s7 : Int × Int) => if 0 ≤ (IntKind.wrap .u8 s7.1) then if (IntKind.wrap .u8 s7.1) < ((ByteArray.mk #[0, 1, 2, 2, 3, 3, 3, 3, 4, 4, 4, 4, 4, 4, 4, 4, 5, 5, 5, 5, 5, 5, 5, 5, 5, 5, 5, 5, 5, 5, 5, 5, 6, 6, 6, 6, 6, 6, 6, 6, 6, 6, 6, 6, 6, 6, 6, 6, 6, 6, 6, 6, 6, 6, 6, 6, 6, 6, 6, 6, 6, 6, 6, 6, 7, 7, 7, 7, 7, 7, 7, 7, 7, 7, 7, 7, 7, 7, 7, 7, 7, 7, 7, 7, 7, 7, 7, 7, 7, 7, 7, 7, 7, 7, 7, 7, 7, 7, 7, 7, 7, 7, 7, 7, 7, 7, 7, 7, 7, 7, 7, 7, 7, 7, 7, 7, 7, 7, 7, 7, 7, 7, 7, 7, 7, 7, 7, 7, 8, 8, 8, 8, 8, 8, 8, 8, 8, 8, 8, 8, 8, 8, 8, 8, 8, 8, 8, 8, 8, 8, 8, 8, 8, 8, 8, 8, 8, 8, 8, 8, 8, 8, 8, 8, 8, 8, 8, 8, 8, 8, 8, 8, 8, 8, 8, 8, 8, 8, 8, 8, 8, 8, 8, 8, 8, 8, 8, 8, 8, 8, 8, 8, 8, 8, 8, 8, 8, 8, 8, 8, 8, 8, 8, 8, 8, 8, 8, 8, 8, 8, 8, 8, 8, 8, 8, 8, 8, 8, 8, 8, 8, 8, 8, 8, 8, 8, 8, 8, 8, 8, 8, 8, 8, 8, 8, 8, 8, 8, 8, 8, 8, 8, 8, 8, 8, 8, 8, 8, 8, 8, 8, 8, 8, 8, 8, 8]).size : Int) then some (IntKind.wrap .i64 (s7.2 + (((ByteArray.mk #[0, 1, 2, 2, 3, 3, 3, 3, 4, 4, 4, 4, 4, 4, 4, 4, 5, 5, 5, 5, 5, 5, 5, 5, 5, 5, 5, 5, 5, 5, 5, 5, 6, 6, 6, 6, 6, 6, 6, 6, 6, 6, 6, 6, 6, 6, 6, 6, 6, 6, 6, 6, 6, 6, 6, 6, 6, 6, 6, 6, 6, 6, 6, 6, 7, 7, 7, 7, 7, 7, 7, 7, 7, 7, 7, 7, 7, 7, 7, 7, 7, 7, 7, 7, 7, 7, 7, 7, 7, 7, 7, 7, 7, 7, 7, 7, 7, 7, 7, 7, 7, 7, 7, 7, 7, 7, 7, 7, 7, 7, 7, 7, 7, 7, 7, 7, 7, 7, 7, 7, 7, 7, 7, 7, 7, 7, 7, 7, 8, 8, 8, 8, 8, 8, 8, 8, 8, 8, 8, 8, 8, 8, 8, 8, 8, 8, 8, 8, 8, 8, 8, 8, 8, 8, 8, 8, 8, 8, 8, 8, 8, 8, 8, 8, 8, 8, 8, 8, 8, 8, 8, 8, 8, 8, 8, 8, 8, 8, 8, 8, 8, 8, 8, 8, 8, 8, 8, 8, 8, 8, 8, 8, 8, 8, 8, 8, 8, 8, 8, 8, 8, 8, 8, 8, 8, 8, 8, 8, 8, 8, 8, 8, 8, 8, 8, 8, 8, 8, 8, 8, 8, 8, 8, 8, 8, 8, 8, 8, 8, 8, 8, 8, 8, 8, 8, 8, 8, 8, 8, 8, 8, 8, 8, 8, 8, 8, 8, 8, 8, 8, 8, 8, 8, 8, 8, 8]).data.toList.getD (IntKind.wrap .u8 s7.1).toNat 0).toNat : Int))) else none else none) (fun k8 => (if 256 ≤ s4.1 then k8 ((shrI .u64 s4.1 8), (IntKind.wrap .i64 (s4.2 + 8))) else k8 (s4.1, s4.2)))) (fun k5 => (if 65536 ≤ s1.1 then k5 ((shrI .u64 s1.1 16), (IntKind.wrap .i64 (s1.2 + 16))) else k5 (s1.1, s1.2)))) (fun k2 => (if 4294967296 ≤ x0 then k2 ((shrI .u64 x0 32), 32) else k2 (x0, 0)))
/-- math/bits.Len -/
def p_math_bits_Len (x0 : Int) : Option (Int) :=
  (p_math_bits_Len64 x0).bind (fun r1 => some r1)
/-- loop.example/g01210/impl.rolls$1 -/
def p_impl_rolls_1 (x0 : Int) (x1 : Int) : Int :=
  (IntKind.wrap .i64 (x1 - x0))
/-- slices.insertionSortCmpFunc[int] -/
def p_slices_insertionSortCmpFunc_int (fu : Nat) (x0 : (List Int)) (x1 : Int) (x2 : Int) : Option ((List Int)) :=
  whl (fun (s1 : Int × (List Int)) c3 => (if s1.1 < x2 then whl (fun (s8 : Int × (List Int)) c10 => if ((decide (x1 < s8.1)) = true → 0 ≤ s8.1) then if ((decide (x1 < s8.1)) = true → s8.1 < (x0.length : Int)) then if ((decide (x1 < s8.1)) = true → 0 ≤ (s8.1 - 1)) then (if ((decide (x1 < s8.1)) && (decide ((p_impl_rolls_1 (s8.2.getD s8.1.toNat 0) (s8.2.getD (s8.1 - 1).toNat 0)) < 0))) = true then if 0 ≤ (IntKind.wrap .i64 (s8.1 - 1)) then if (IntKind.wrap .i64 (s8.1 - 1)) < (x0.length : Int) then if 0 ≤ s8.1 then if s8.1 < (x0.length : Int) then c10 ((s8.1 - 1), ((s8.2.set s8.1.toNat (s8.2.getD (IntKind.wrap .i64 (s8.1 - 1)).toNat 0)).set (IntKind.wrap .i64 (s8.1 - 1)).toNat (s8.2.getD s8.1.toNat 0))) else none else none else none else none else c3 ((IntKind.wrap .i64 (s1.1 + 1)), s8.2)) else none else none else none) fu (s1.1, s1.2) else some s1.2)) fu ((IntKind.wrap .i64 (x1 + 1)), x0)
/-- slices.pdqsortCmpFunc[int] -/
def p_slices_pdqsortCmpFunc_int (fu : Nat) (x0 : (List Int)) (x1 : Int) (x2 : Int) (x3 : Int) : Option ((List Int)) :=
  whl (fun (s1 : Unit) c3 => (if (IntKind.wrap .i64 (x2 - x1)) ≤ 12 then (p_slices_insertionSortCmpFunc_int fu x0 x1 x2).bind (fun r8 => some r8) else none)) fu ()
/-- slices.SortFunc[[]int,int] -/
def p_slices_SortFunc_int_int (fu : Nat) (x0 : (List Int)) : Option ((List Int)) :=
  (p_math_bits_Len (IntKind.wrap .u64 (x0.length : Int))).bind (fun r1 => (p_slices_pdqsortCmpFunc_int fu x0 0 (x0.length : Int) r1).bind (fun r2 => some r2))
/-- loop.example/g01210/impl.total -/
def p_impl_total (x0 : (List Int)) : Int :=
  cnt (fun i2 (s1 : Int) c3 _ => c3 (IntKind.wrap .i64 (s1 + (x0.getD i2.toNat 0)))) (fun i2 (s1 : Int) => s1) (Int.toNat ((x0.length : Int) - 0)) 0 0
/-- loop.example/g01210/impl.kept$1 -/
def p_impl_kept_1 (x0 : (List Int)) (x1 : (List Int)) (x2 : Int) : Option ((List Int)) :=
  if 0 ≤ x2 then if x2 ≤ (x0.length : Int) then if 0 ≤ (p_impl_total (x0.take x2.toNat)) then if (p_impl_total (x0.take x2.toNat)) < 121 then some (x1.set (p_impl_total (x0.take x2.toNat)).toNat (IntKind.wrap .i64 ((x1.getD (p_impl_total (x0.take x2.toNat)).toNat 0) + 1))) else none else none else none else none
/-- loop.example/g01210/impl.rolls -/
def p_impl_rolls (fu : Nat) (x0 : (List (List Int))) (x1 : (List Int)) (x2 : Int) : Option ((List Int)) :=
  (p_impl_power fu (x0.length : Int)).bind (fun r1 => whl (fun (s2 : Int × (List Int)) c4 => (if s2.1 < r1 then (p_impl_rollAt fu x0 s2.1).bind (fun r9 => (p_slices_SortFunc_int_int fu r9).bind (fun r11 => (p_impl_kept_1 r11 s2.2 x2).bind (fun r12 => c4 ((IntKind.wrap .i64 (s2.1 + 1)), r12)))) else some s2.2)) fu (0, x1))
/-- loop.example/g01210/impl.kept -/
def p_impl_kept (fu : Nat) (x0 : (List (List Int))) (x1 : Int) : Option ((List Int)) :=
  (p_impl_rolls fu x0 (List.replicate 121 0) x1).bind (fun r1 => some r1)
/-- loop.example/g01210/impl.KeepTable -/
def p_impl_KeepTable (fu : Nat) (x0 : (List (List Int))) (x1 : Int) : Option ((List Int) × Bool) :=
  (if ((!(p_impl_IsPool x0)) || (!(p_impl_isCount x0 x1))) = true then some ((List.replicate 121 0), false) else (p_impl_kept fu x0 x1).bind (fun r8 => some (r8, true)))
/-- loop.example/g01210/spec.l1In -/
def p_spec_l1In (x0 : Int) (x1 : Int) (x2 : Int) : Bool :=
  ((decide (x1 ≤ x0)) && (decide (x0 ≤ x2)))
/-- loop.example/g01210/spec.l2Die -/
def p_spec_l2Die (x0 : (List Int)) : Option (Bool) :=
  cnt (fun i2 (s1 : Unit) c3 _ => (if ((!(p_spec_l1In (x0.getD i2.toNat 0) 0 30)) || ((decide (0 < i2)) && (decide ((x0.getD i2.toNat 0) < (x0.getD (i2 - 1).toNat 0))))) = true then some false else c3 ())) (fun i2 (s1 : Unit) => some true) (Int.toNat (6 - 0)) 0 ()
/-- loop.example/g01210/spec.l2Pool -/
def p_spec_l2Pool (x0 : (List (List Int))) : Option (Bool) :=
  cnt (fun i2 (s1 : Unit) c3 k16 => (if ((decide (i2 < (x0.length : Int))) && (decide (i2 ≤ 4))) = true then (p_spec_l2Die (x0.getD i2.toNat (List.replicate 6 0))).bind (fun r14 => (if r14 = true then c3 () else some false)) else k16 i2 s1)) (fun i2 (s1 : Unit) => some (p_spec_l1In (x0.length : Int) 1 4)) (Int.toNat ((x0.length : Int) - 0)) 0 ()
/-- loop.example/g01210/spec.l4Keeps -/
def p_spec_l4Keeps (x0 : (List (List Int))) (x1 : Int) : Option (Bool) :=
  (p_spec_l2Pool x0).bind (fun r1 => some (r1 && (p_spec_l1In x1 1 (x0.length : Int))))
/-- loop.example/g01210/spec.l2All -/
def p_spec_l2All (fu : Nat) (x0 : Int) : Option (Int) :=
  whl (fun (s1 : Int × Int) c3 => (if s1.2 < x0 then c3 ((IntKind.wrap .i64 (s1.1 * 6)), (IntKind.wrap .i64 (s1.2 + 1))) else some s1.1)) fu (1, 0)
/-- loop.example/g01210/spec.l2Roll -/
def p_spec_l2Roll (fu : Nat) (x0 : (List (List Int))) (x1 : Int) : Option ((List Int)) :=
  if (x0.length : Int) ≤ 1000000000 then whl (fun (s2 : Int × Int × (List Int)) c4 => (if 0 ≤ s2.2.1 then if 0 ≤ (s2.1.tmod 6) then if (s2.1.tmod 6) < 6 then c4 ((IntKind.wrap .i64 (s2.1.tdiv 6)), (s2.2.1 - 1), (s2.2.2.set s2.2.1.toNat ((x0.getD s2.2.1.toNat (List.replicate 6 0)).getD (s2.1.tmod 6).toNat 0))) else none else none else some s2.2.2)) fu (x1, ((x0.length : Int) - 1), (List.replicate (x0.length : Int).toNat 0)) else none
/-- loop.example/g01210/spec.l1Own -/
def p_spec_l1Own (x0 : (List Int)) : Option ((List Int)) :=
  if 0 + (x0.length : Int) ≤ 1000000000 then some ([] ++ x0) else none
/-- loop.example/g01210/spec.l4Places -/
def p_spec_l4Places (fu : Nat) (x0 : (List Int)) : Option ((List Int)) :=
  cnt (fun i2 (s1 : (List Int)) c3 _ => whl (fun (s8 : Int) c10 => if ((decide (0 < s8)) = true → 0 ≤ (IntKind.wrap .i64 (s8 - 1))) then if ((decide (0 < s8)) = true → (IntKind.wrap .i64 (s8 - 1)) < (s1.length : Int)) then (if ((decide (0 < s8)) && (decide ((s1.getD (IntKind.wrap .i64 (s8 - 1)).toNat 0) < (x0.getD i2.toNat 0)))) = true then c10 (IntKind.wrap .i64 (s8 - 1)) else if 0 ≤ s8 then if s8 ≤ (s1.length : Int) then (p_spec_l1Own ((s1.drop 0).take (s8 - 0).toNat)).bind (fun r53 => if (r53.length : Int) + 1 ≤ 1000000000 then if ((r53.length : Int) + 1) + ((s1.length : Int) - s8) ≤ 1000000000 then c3 ((r53 ++ [(x0.getD i2.toNat 0)]) ++ ((s1.drop s8.toNat).take ((s1.length : Int) - s8).toNat)) else none else none) else none else none) else none else none) fu (s1.length : Int)) (fun i2 (s1 : (List Int)) => some s1) (Int.toNat ((x0.length : Int) - 0)) 0 []
/-- loop.example/g01210/spec.l4Kept -/
def p_spec_l4Kept (fu : Nat) (x0 : (List (List Int))) (x1 : Int) : Option ((List Int)) :=
  whl (fun (s1 : Int × (List Int)) c3 => (p_spec_l2All fu (x0.length : Int)).bind (fun r5 => (if s1.1 < r5 then (p_spec_l2Roll fu x0 s1.1).bind (fun r9 => (p_spec_l4Places fu r9).bind (fun r11 => cnt (fun i14 (s13 : Int) c15 _ => if i14 < (r11.length : Int) then c15 (IntKind.wrap .i64 (s13 + (r11.getD i14.toNat 0))) else none) (fun i14 (s13 : Int) => if 0 ≤ s13 then if s13 < 121 then c3 ((IntKind.wrap .i64 (s1.1 + 1)), (s1.2.set s13.toNat (IntKind.wrap .i64 ((s1.2.getD s13.toNat 0) + 1)))) else none else none) (Int.toNat (x1 - 0)) 0 0)) else some s1.2))) fu (0, (List.replicate 121 0))
/-- loop.example/g01210/spec.KeepTable -/
def p_spec_KeepTable (fu : Nat) (x0 : (List (List Int))) (x1 : Int) : Option ((List Int) × Bool) :=
  (p_spec_l4Keeps x0 x1).bind (fun r1 => (if r1 = true then (p_spec_l4Kept fu x0 x1).bind (fun r3 => some (r3, true)) else some ((List.replicate 121 0), false)))
/-- loop.example/g01210/impl.fraction -/
def p_impl_fraction (fu : Nat) (x0 : Int) (x1 : Int) : Option ((List Int)) :=
  whl (fun (s1 : Int × Int) c3 => (if s1.2 = 0 then if s1.1 ≠ 0 then if s1.1 ≠ 0 then some [(IntKind.wrap .i64 (x0.tdiv s1.1)), (IntKind.wrap .i64 (x1.tdiv s1.1))] else none else none else if s1.2 ≠ 0 then c3 (s1.2, (s1.1.tmod s1.2)) else none)) fu (x0, x1)
/-- loop.example/g01210/impl.MeanKept -/
def p_impl_MeanKept (fu : Nat) (x0 : (List (List Int))) (x1 : Int) : Option ((List Int) × Bool) :=
  (if ((!(p_impl_IsPool x0)) || (!(p_impl_isCount x0 x1))) = true then some ((List.replicate 2 0), false) else (p_impl_kept fu x0 x1).bind (fun r8 => cnt (fun i10 (s9 : Int) c11 _ => c11 (IntKind.wrap .i64 (s9 + (IntKind.wrap .i64 (i10 * (r8.getD i10.toNat 0)))))) (fun i10 (s9 : Int) => (p_impl_power fu (x0.length : Int)).bind (fun r16 => (p_impl_fraction fu s9 r16).bind (fun r17 => some (r17, true)))) (Int.toNat (121 - 0)) 0 0))
/-- loop.example/g01210/spec.l2Cut -/
def p_spec_l2Cut (fu : Nat) (x0 : Int) (x1 : Int) : Option ((List Int)) :=
  whl (fun (s1 : Int × Int) c3 => (if 0 < s1.2 then c3 (s1.2, (s1.1.tmod s1.2)) else if (p_spec_l1Most s1.1 1) ≠ 0 then if (p_spec_l1Most s1.1 1) ≠ 0 then some [(IntKind.wrap .i64 (x0.tdiv (p_spec_l1Most s1.1 1))), (IntKind.wrap .i64 (x1.tdiv (p_spec_l1Most s1.1 1)))] else none else none)) fu (x0, x1)
/-- loop.example/g01210/spec.l4Mean -/
def p_spec_l4Mean (fu : Nat) (x0 : (List Int)) : Option ((List Int)) :=
  cnt (fun i2 (s1 : Int × Int) c3 _ => c3 ((IntKind.wrap .i64 (s1.1 + (IntKind.wrap .i64 (i2 * (x0.getD i2.toNat 0))))), (IntKind.wrap .i64 (s1.2 + (x0.getD i2.toNat 0))))) (fun i2 (s1 : Int × Int) => (p_spec_l2Cut fu s1.1 s1.2).bind (fun r8 => some r8)) (Int.toNat ((x0.length : Int) - 0)) 0 (0, 0)
/-- loop.example/g01210/spec.MeanKept -/
def p_spec_MeanKept (fu : Nat) (x0 : (List (List Int))) (x1 : Int) : Option ((List Int) × Bool) :=
  (p_spec_l4Keeps x0 x1).bind (fun r1 => (if r1 = true then (p_spec_l4Kept fu x0 x1).bind (fun r3 => (p_spec_l4Mean fu r3).bind (fun r4 => some (r4, true))) else some ((List.replicate 2 0), false)))
/-- loop.example/g01210/impl.placed$1 -/
def p_impl_placed_1 (x0 : (List Int)) (x1 : (List Int)) (x2 : Int) : Option ((List Int)) :=
  if 0 ≤ (IntKind.wrap .i64 (x2 - 1)) then if (IntKind.wrap .i64 (x2 - 1)) < (x0.length : Int) then if 0 ≤ (x0.getD (IntKind.wrap .i64 (x2 - 1)).toNat 0) then if (x0.getD (IntKind.wrap .i64 (x2 - 1)).toNat 0) < 31 then some (x1.set (x0.getD (IntKind.wrap .i64 (x2 - 1)).toNat 0).toNat (IntKind.wrap .i64 ((x1.getD (x0.getD (IntKind.wrap .i64 (x2 - 1)).toNat 0).toNat 0) + 1))) else none else none else none else none
/-- loop.example/g01210/impl.rolls -/
def p_impl_rollsv1 (fu : Nat) (x0 : (List (List Int))) (x1 : (List Int)) (x2 : Int) : Option ((List Int)) :=
  (p_impl_power fu (x0.length : Int)).bind (fun r1 => whl (fun (s2 : Int × (List Int)) c4 => (if s2.1 < r1 then (p_impl_rollAt fu x0 s2.1).bind (fun r9 => (p_slices_SortFunc_int_int fu r9).bind (fun r11 => (p_impl_placed_1 r11 s2.2 x2).bind (fun r12 => c4 ((IntKind.wrap .i64 (s2.1 + 1)), r12)))) else some s2.2)) fu (0, x1))
/-- loop.example/g01210/impl.placed -/
def p_impl_placed (fu : Nat) (x0 : (List (List Int))) (x1 : Int) : Option ((List Int)) :=
  (p_impl_rollsv1 fu x0 (List.replicate 31 0) x1).bind (fun r1 => some r1)
/-- loop.example/g01210/impl.PlaceTable -/
def p_impl_PlaceTable (fu : Nat) (x0 : (List (List Int))) (x1 : Int) : Option ((List Int) × Bool) :=
  (if ((!(p_impl_IsPool x0)) || (!(p_impl_isCount x0 x1))) = true then some ((List.replicate 31 0), false) else (p_impl_placed fu x0 x1).bind (fun r8 => some (r8, true)))
/-- loop.example/g01210/spec.l4At -/
def p_spec_l4At (fu : Nat) (x0 : (List (List Int))) (x1 : Int) : Option ((List Int)) :=
  whl (fun (s1 : Int × (List Int)) c3 => (p_spec_l2All fu (x0.length : Int)).bind (fun r5 => (if s1.1 < r5 then (p_spec_l2Roll fu x0 s1.1).bind (fun r9 => (p_spec_l4Places fu r9).bind (fun r11 => if 0 ≤ (IntKind.wrap .i64 (x1 - 1)) then if (IntKind.wrap .i64 (x1 - 1)) < (r11.length : Int) then if 0 ≤ (r11.getD (IntKind.wrap .i64 (x1 - 1)).toNat 0) then if (r11.getD (IntKind.wrap .i64 (x1 - 1)).toNat 0) < 31 then c3 ((IntKind.wrap .i64 (s1.1 + 1)), (s1.2.set (r11.getD (IntKind.wrap .i64 (x1 - 1)).toNat 0).toNat (IntKind.wrap .i64 ((s1.2.getD (r11.getD (IntKind.wrap .i64 (x1 - 1)).toNat 0).toNat 0) + 1)))) else none else none else none else none)) else some s1.2))) fu (0, (List.replicate 31 0))
/-- loop.example/g01210/spec.PlaceTable -/
def p_spec_PlaceTable (fu : Nat) (x0 : (List (List Int))) (x1 : Int) : Option ((List Int) × Bool) :=
  (p_spec_l4Keeps x0 x1).bind (fun r1 => (if r1 = true then (p_spec_l4At fu x0 x1).bind (fun r3 => some (r3, true)) else some ((List.replicate 31 0), false)))
/-- loop.example/g01210/impl.MeanPlace -/
def p_impl_MeanPlace (fu : Nat) (x0 : (List (List Int))) (x1 : Int) : Option ((List Int) × Bool) :=
  (if ((!(p_impl_IsPool x0)) || (!(p_impl_isCount x0 x1))) = true then some ((List.replicate 2 0), false) else (p_impl_placed fu x0 x1).bind (fun r8 => cnt (fun i10 (s9 : Int) c11 _ => c11 (IntKind.wrap .i64 (s9 + (IntKind.wrap .i64 (i10 * (r8.getD i10.toNat 0)))))) (fun i10 (s9 : Int) => (p_impl_power fu (x0.length : Int)).bind (fun r16 => (p_impl_fraction fu s9 r16).bind (fun r17 => some (r17, true)))) (Int.toNat (31 - 0)) 0 0))
/-- loop.example/g01210/spec.MeanPlace -/
def p_spec_MeanPlace (fu : Nat) (x0 : (List (List Int))) (x1 : Int) : Option ((List Int) × Bool) :=
  (p_spec_l4Keeps x0 x1).bind (fun r1 => (if r1 = true then (p_spec_l4At fu x0 x1).bind (fun r3 => (p_spec_l4Mean fu r3).bind (fun r4 => some (r4, true))) else some ((List.replicate 2 0), false)))
/-- loop.example/g01210/laws.vCut -/
def p_laws_vCut (x0 : (List Int)) (x1 : Int) : Option ((List Int)) :=
  jn (fun (s1 : Int) => if 0 ≤ s1 then if s1 ≤ (x0.length : Int) then if 0 + ((x0.length : Int) - s1) ≤ 1000000000 then if (0 + ((x0.length : Int) - s1)) + 1 ≤ 1000000000 then some (([] ++ (x0.drop s1.toNat)) ++ [(IntKind.wrap .u8 s1)]) else none else none else none else none) (fun k2 => (if (x0.length : Int) < x1 then k2 (x0.length : Int) else k2 x1))
/-- (*loop.example/g01210/spec.l1Cur).next -/
def p_spec_l1Cur_nextv1 (x0 : Int) (x1 : Int) (x2 : (List Int)) : Option (Int × Int × Int) :=
  jn (fun (s1 : Int) => (if (IntKind.wrap .i64 (x0 + 1)) ≤ (x2.length : Int) then some (s1, (IntKind.wrap .i64 (x0 + 1)), (IntKind.wrap .u64 ((IntKind.wrap .u64 ((IntKind.wrap .u64 (x1 * 6364136223846793005)) + (IntKind.wrap .u64 s1))) + 462197))) else some ((IntKind.wrap .i64 (andI .u64 (shrI .u64 (IntKind.wrap .u64 ((IntKind.wrap .u64 ((IntKind.wrap .u64 (x1 * 6364136223846793005)) + (IntKind.wrap .u64 s1))) + 462197)) 40) 255)), (IntKind.wrap .i64 (x0 + 1)), (IntKind.wrap .u64 ((IntKind.wrap .u64 ((IntKind.wrap .u64 (x1 * 6364136223846793005)) + (IntKind.wrap .u64 s1))) + 462197))))) (fun k2 => (if x0 < (x2.length : Int) then if 0 ≤ x0 then k2 (IntKind.wrap .i64 (x2.getD x0.toNat 0)) else none else k2 0))
/-- (*loop.example/g01210/spec.l1Cur).pick -/
def p_spec_l1Cur_pickv1 (x0 : Int) (x1 : Int) (x2 : Int) (x3 : (List Int)) : Option (Int × Int × Int) :=
  (if x0 ≤ 1 then some (0, x1, x2) else (p_spec_l1Cur_nextv1 x1 x2 x3).bind (fun r4 => (if 200 < x0 then (p_spec_l1Cur_nextv1 r4.2.1 r4.2.2 x3).bind (fun r8 => some (((IntKind.wrap .i64 ((IntKind.wrap .i64 (r4.1 * 256)) + r8.1)).tmod x0), r8.2.1, r8.2.2)) else some ((r4.1.tmod x0), r4.2.1, r4.2.2))))
/-- (*loop.example/g01210/spec.l1Cur).among -/
def p_spec_l1Cur_amongv1 (x0 : (List Int)) (x1 : Int) (x2 : Int) (x3 : (List Int)) : Option (Int × Int × Int) :=
  (p_spec_l1Cur_pickv1 (x0.length : Int) x1 x2 x3).bind (fun r1 => if 0 ≤ r1.1 then if r1.1 < (x0.length : Int) then some ((x0.getD r1.1.toNat 0), r1.2.1, r1.2.2) else none else none)
/-- (*loop.example/g01210/spec.l1Cur).face -/
def p_spec_l1Cur_facev1 (x0 : Int) (x1 : Int) (x2 : (List Int)) : Option (Int × Int × Int) :=
  (p_spec_l1Cur_amongv1 [1, 2, 3, 4, 5, 6, 6, 0, 8, 9, 4, 3, 30, 12] x0 x1 x2).bind (fun r1 => some (r1.1, r1.2.1, r1.2.2))
/-- (*loop.example/g01210/spec.l1Cur).one -/
def p_spec_l1Cur_onev1 (x0 : Int) (x1 : Int) (x2 : Int) (x3 : (List Int)) : Option (Bool × Int × Int) :=
  (p_spec_l1Cur_pickv1 x0 x1 x2 x3).bind (fun r1 => some ((decide (r1.1 = 0)), r1.2.1, r1.2.2))
/-- (*loop.example/g01210/spec.l1Cur).die -/
def p_spec_l1Cur_diev1 (x0 : Int) (x1 : Int) (x2 : (List Int)) : Option ((List Int) × Int × Int) :=
  jn (fun (s1 : Int × Int × (List Int)) => (p_spec_l1Cur_pickv1 50 s1.1 s1.2.1 x2).bind (fun r4 => (if r4.1 = 0 then (p_spec_l1Cur_pickv1 6 r4.2.1 r4.2.2 x2).bind (fun r8 => (p_spec_l1Cur_amongv1 [(-1), 31, 0, 4611686018427387904] r8.2.1 r8.2.2 x2).bind (fun r9 => if 0 ≤ r8.1 then if r8.1 < 6 then some (((p_spec_l2Sorted s1.2.2).set r8.1.toNat r9.1), r9.2.1, r9.2.2) else none else none)) else (if r4.1 = 1 then some (((p_spec_l2Sorted s1.2.2).set 0 30), r4.2.1, r4.2.2) else some ((p_spec_l2Sorted s1.2.2), r4.2.1, r4.2.2))))) (fun k2 => (p_spec_l1Cur_pickv1 6 x0 x1 x2).bind (fun r15 => (if r15.1 = 0 then some ([1, 2, 3, 4, 5, 6], r15.2.1, r15.2.2) else (if r15.1 = 1 then k2 (r15.2.1, r15.2.2, [1, 2, 2, 3, 3, 4]) else (if r15.1 = 2 then (p_spec_l1Cur_facev1 r15.2.1 r15.2.2 x2).bind (fun r25 => (p_spec_l1Cur_facev1 r25.2.1 r25.2.2 x2).bind (fun r26 => cnt (fun i28 (s27 : Int × Int × (List Int)) c29 _ => (p_spec_l1Cur_onev1 3 s27.1 s27.2.1 x2).bind (fun r34 => (if r34.1 = true then c29 (r34.2.1, r34.2.2, ((s27.2.2.set i28.toNat r25.1).set i28.toNat r26.1)) else c29 (r34.2.1, r34.2.2, (s27.2.2.set i28.toNat r25.1))))) (fun i28 (s27 : Int × Int × (List Int)) => k2 (s27.1, s27.2.1, s27.2.2)) (Int.toNat (6 - 0)) 0 (r26.2.1, r26.2.2, [1, 2, 3, 4, 5, 6]))) else cnt (fun i37 (s36 : Int × Int × (List Int)) c38 _ => (p_spec_l1Cur_facev1 s36.1 s36.2.1 x2).bind (fun r43 => c38 (r43.2.1, r43.2.2, (s36.2.2.set i37.toNat r43.1)))) (fun i37 (s36 : Int × Int × (List Int)) => k2 (s36.1, s36.2.1, s36.2.2)) (Int.toNat (6 - 0)) 0 (r15.2.1, r15.2.2, [1, 2, 3, 4, 5, 6]))))))
/-- (*loop.example/g01210/spec.l1Cur).pool -/
def p_spec_l1Cur_poolv1 (fu : Nat) (x0 : Int) (x1 : Int) (x2 : (List Int)) : Option ((List (List Int)) × Int × Int) :=
  (p_spec_l1Cur_amongv1 [2, 3, 1, 2, 4] x0 x1 x2).bind (fun r1 => whl (fun (s2 : Int × Int × Int × (List (List Int))) c4 => (if 0 < s2.1 then (p_spec_l1Cur_diev1 s2.2.1 s2.2.2.1 x2).bind (fun r9 => (if 0 < (s2.2.2.2.length : Int) then (p_spec_l1Cur_onev1 3 r9.2.1 r9.2.2 x2).bind (fun r13 => (if r13.1 = true then if (s2.2.2.2.length : Int) + 1 ≤ 1000000000 then c4 ((IntKind.wrap .i64 (s2.1 - 1)), r13.2.1, r13.2.2, (s2.2.2.2 ++ [(s2.2.2.2.getD 0 (List.replicate 6 0))])) else none else if (s2.2.2.2.length : Int) + 1 ≤ 1000000000 then c4 ((IntKind.wrap .i64 (s2.1 - 1)), r13.2.1, r13.2.2, (s2.2.2.2 ++ [r9.1])) else none)) else c4 ((IntKind.wrap .i64 (s2.1 - 1)), r9.2.1, r9.2.2, (s2.2.2.2 ++ [r9.1])))) else (p_spec_l1Cur_pickv1 50 s2.2.1 s2.2.2.1 x2).bind (fun r17 => (if r17.1 = 0 then some ([], r17.2.1, r17.2.2) else (if r17.1 = 1 then whl (fun (s24 : (List (List Int))) c26 => (if (s24.length : Int) < 5 then if 0 < (s24.length : Int) then c26 (s24 ++ [(s24.getD 0 (List.replicate 6 0))]) else none else some (s24, r17.2.1, r17.2.2))) fu s2.2.2.2 else some (s2.2.2.2, r17.2.1, r17.2.2)))))) fu (r1.1, r1.2.1, r1.2.2, []))
/-- (*loop.example/g01210/spec.l1Cur).place4 -/
def p_spec_l1Cur_place4v1 (x0 : (List (List Int))) (x1 : Int) (x2 : Int) (x3 : (List Int)) : Option (Int × Int × Int) :=
  (p_spec_l1Cur_onev1 24 x1 x2 x3).bind (fun r1 => (if r1.1 = true then (p_spec_l1Cur_amongv1 [0, (-1), 5, 4611686018427387904] r1.2.1 r1.2.2 x3).bind (fun r3 => some (r3.1, r3.2.1, r3.2.2)) else (p_spec_l1Cur_pickv1 (p_spec_l1Most 1 (p_spec_l1Least (x0.length : Int) 4)) r1.2.1 r1.2.2 x3).bind (fun r4 => some ((IntKind.wrap .i64 (1 + r4.1)), r4.2.1, r4.2.2))))
/-- loop.example/g01210/spec.DrawDropTable -/
def p_spec_DrawDropTable (fu : Nat) (x0 : (List Int)) : Option ((List (List Int)) × Int) :=
  (p_spec_l1Cur_poolv1 fu 0 0 x0).bind (fun r1 => (p_spec_l1Cur_place4v1 r1.1 r1.2.1 r1.2.2 x0).bind (fun r3 => some (r1.1, (IntKind.wrap .i64 (r3.1 - 1)))))
/-- loop.example/g01210/impl.DropTable -/
def p_impl_DropTable (fu : Nat) (x0 : (List (List Int))) (x1 : Int) : Option ((List Int) × Bool) :=
  (if ((!(p_impl_IsPool x0)) || (!(p_impl_within x1 0 ((x0.length : Int) - 1)))) = true then some ((List.replicate 121 0), false) else (p_impl_kept fu x0 (IntKind.wrap .i64 ((x0.length : Int) - x1))).bind (fun r10 => some (r10, true)))
/-- loop.example/g01210/spec.DropTable -/
def p_spec_DropTable (fu : Nat) (x0 : (List (List Int))) (x1 : Int) : Option ((List Int) × Bool) :=
  (p_spec_l2Pool x0).bind (fun r1 => (if ((!r1) || (!(p_spec_l1In x1 0 ((x0.length : Int) - 1)))) = true then some ((List.replicate 121 0), false) else (p_spec_l4Kept fu x0 (IntKind.wrap .i64 ((x0.length : Int) - x1))).bind (fun r11 => some (r11, true))))
/-- loop.example/g01210/laws.vSix -/
def p_laws_vSix (fu : Nat) (x0 : Int) : Option (Int) :=
  whl (fun (s1 : Int × Int) c3 => (if s1.2 < x0 then c3 ((IntKind.wrap .i64 (s1.1 * 6)), (IntKind.wrap .i64 (s1.2 + 1))) else some s1.1)) fu (1, 0)
/-- loop.example/g01210/impl.sums -/
def p_impl_sums (x0 : (List (List Int))) : Option ((List Int)) :=
  cnt (fun i2 (s1 : (List Int)) c3 _ => cnt (fun i9 (s8 : (List Int)) c10 _ => (if (s1.getD i9.toNat 0) = 0 then c10 s8 else cnt (fun i19 (s18 : (List Int)) c20 _ => if 0 ≤ (IntKind.wrap .i64 (i9 + ((x0.getD i2.toNat (List.replicate 6 0)).getD i19.toNat 0))) then if (IntKind.wrap .i64 (i9 + ((x0.getD i2.toNat (List.replicate 6 0)).getD i19.toNat 0))) < 121 then c20 (s18.set (IntKind.wrap .i64 (i9 + ((x0.getD i2.toNat (List.replicate 6 0)).getD i19.toNat 0))).toNat (IntKind.wrap .i64 ((s18.getD (IntKind.wrap .i64 (i9 + ((x0.getD i2.toNat (List.replicate 6 0)).getD i19.toNat 0))).toNat 0) + (s1.getD i9.toNat 0)))) else none else none) (fun i19 (s18 : (List Int)) => c10 s18) (Int.toNat (6 - 0)) 0 s8)) (fun i9 (s8 : (List Int)) => c3 s8) (Int.toNat (121 - 0)) 0 (List.replicate 121 0)) (fun i2 (s1 : (List Int)) => some s1) (Int.toNat ((x0.length : Int) - 0)) 0 ((List.replicate 121 0).set 0 1)
/-- loop.example/g01210/impl.SumTable -/
def p_impl_SumTable (x0 : (List (List Int))) : Option ((List Int) × Bool) :=
  (if (p_impl_IsPool x0) = true then (p_impl_sums x0).bind (fun r2 => some (r2, true)) else some ((List.replicate 121 0), false))
/-- loop.example/g01210/laws.vLess -/
def p_laws_vLess (x0 : (List Int)) (x1 : (List Int)) : Bool :=
  (decide ((IntKind.wrap .i64 ((x0.getD 0 0) * (x1.getD 1 0))) < (IntKind.wrap .i64 ((x1.getD 0 0) * (x0.getD 1 0)))))
/-- loop.example/g01210/laws.FnKept -/
def p_laws_FnKept (fu : Nat) (x0 : (List Int)) : Option (Bool) :=
  (if (p_laws_vBig x0) = true then some true else (p_spec_DrawKeepTable fu x0).bind (fun r2 => (p_impl_KeepTable fu r2.1 r2.2).bind (fun r3 => (p_spec_KeepTable fu r2.1 r2.2).bind (fun r4 => (p_impl_MeanKept fu r2.1 r2.2).bind (fun r5 => (p_spec_MeanKept fu r2.1 r2.2).bind (fun r6 => (p_impl_PlaceTable fu r2.1 r2.2).bind (fun r7 => (p_spec_PlaceTable fu r2.1 r2.2).bind (fun r8 => (p_impl_MeanPlace fu r2.1 r2.2).bind (fun r9 => (p_spec_MeanPlace fu r2.1 r2.2).bind (fun r10 => (p_laws_vCut x0 1).bind (fun r11 => (p_spec_DrawDropTable fu r11).bind (fun r13 => (p_impl_DropTable fu r13.1 r13.2).bind (fun r15 => (p_spec_DropTable fu r13.1 r13.2).bind (fun r16 => (if (((((((((((((!(decide (r3.1 = r4.1))) || (r3.2 != r4.2)) || (!(decide (r5.1 = r6.1)))) || (r5.2 != r6.2)) || (!(decide (r7.1 = r8.1)))) || (r7.2 != r8.2)) || (!(decide (r9.1 = r10.1)))) || (r9.2 != r10.2)) || (!(decide (r15.1 = r16.1)))) || (r15.2 != r16.2)) || (r3.2 != r5.2)) || (r3.2 != r7.2)) || (r3.2 != r9.2)) = true then some false else jn (fun (s474 : Unit) => (if r3.2 = true then cnt (fun i479 (s478 : Int × Int) c480 _ => c480 ((IntKind.wrap .i64 (s478.1 + (r3.1.getD i479.toNat 0))), (IntKind.wrap .i64 (s478.2 + (IntKind.wrap .i64 (i479 * (r3.1.getD i479.toNat 0))))))) (fun i479 (s478 : Int × Int) => cnt (fun i486 (s485 : Int) c487 _ => c487 (IntKind.wrap .i64 (s485 + (r7.1.getD i486.toNat 0)))) (fun i486 (s485 : Int) => (p_laws_vSix fu (r2.1.length : Int)).bind (fun r492 => (if (((!(decide (s478.1 = r492))) || (!(decide (s485 = s478.1)))) || (!(decide ((IntKind.wrap .i64 (s478.2 * (r5.1.getD 1 0))) = (IntKind.wrap .i64 ((r5.1.getD 0 0) * s478.1)))))) = true then some false else jn (fun (s552 : Unit) => (if 1 < r2.2 then (p_impl_MeanKept fu r2.1 (IntKind.wrap .i64 (r2.2 - 1))).bind (fun r558 => (p_impl_MeanPlace fu r2.1 (IntKind.wrap .i64 (r2.2 - 1))).bind (fun r559 => some (((r558.2 && r559.2) && (decide ((IntKind.wrap .i64 ((IntKind.wrap .i64 ((r5.1.getD 0 0) * (r558.1.getD 1 0))) * (r9.1.getD 1 0))) = (IntKind.wrap .i64 ((IntKind.wrap .i64 ((IntKind.wrap .i64 ((r558.1.getD 0 0) * (r9.1.getD 1 0))) + (IntKind.wrap .i64 ((r9.1.getD 0 0) * (r558.1.getD 1 0))))) * (r5.1.getD 1 0)))))) && (!(p_laws_vLess r559.1 r9.1))))) else some (decide (r5.1 = r9.1)))) (fun k553 => (if r2.2 = (r2.1.length : Int) then (p_impl_SumTable r2.1).bind (fun r657 => (if ((!r657.2) || (!(decide (r657.1 = r3.1)))) = true then some false else k553 ())) else k553 ()))))) (Int.toNat (31 - 0)) 0 0) (Int.toNat (121 - 0)) 0 (0, 0) else some true)) (fun k475 => (if r15.2 = true then (p_impl_KeepTable fu r13.1 (IntKind.wrap .i64 ((r13.1.length : Int) - r13.2))).bind (fun r665 => (if ((!r665.2) || (!(decide (r665.1 = r15.1)))) = true then some false else k475 ())) else k475 ())))))))))))))))))
end Go.GA
