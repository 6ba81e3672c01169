/- Walks: what the Go functions compute, by the printed lines below; no further conditions. -/
import Derived.Test.YtedakmknjbjlbaaGaD
namespace Go.GA
open Go
set_option maxRecDepth 100000
set_option maxHeartbeats 2000000
set_option linter.unusedVariables false
set_option linter.unusedSimpArgs false
/-- loop.example/g01210/laws.rBig -/
def p_laws_rBig (x0 : (List Int)) : Bool :=
  (decide (65536 < (x0.length : Int)))
/-- (*loop.example/g01210/spec.l1Cur).next -/
def p_spec_l1Cur_next (x0 : (List Int)) (x1 : Int) (x2 : Int) : Option (Int × Int × Int) :=
  jn (fun (s1 : Int) => (if (IntKind.wrap .i64 (x1 + 1)) ≤ (x0.length : Int) then some (s1, (IntKind.wrap .i64 (x1 + 1)), (IntKind.wrap .u64 ((IntKind.wrap .u64 ((IntKind.wrap .u64 (x2 * 6364136223846793005)) + (IntKind.wrap .u64 s1))) + 462197))) else some ((IntKind.wrap .i64 (andI .u64 (shrI .u64 (IntKind.wrap .u64 ((IntKind.wrap .u64 ((IntKind.wrap .u64 (x2 * 6364136223846793005)) + (IntKind.wrap .u64 s1))) + 462197)) 40) 255)), (IntKind.wrap .i64 (x1 + 1)), (IntKind.wrap .u64 ((IntKind.wrap .u64 ((IntKind.wrap .u64 (x2 * 6364136223846793005)) + (IntKind.wrap .u64 s1))) + 462197))))) (fun k2 => (if x1 < (x0.length : Int) then if 0 ≤ x1 then k2 (IntKind.wrap .i64 (x0.getD x1.toNat 0)) else none else k2 0))
/-- (*loop.example/g01210/spec.l1Cur).pick -/
def p_spec_l1Cur_pick (x0 : Int) (x1 : (List Int)) (x2 : Int) (x3 : Int) : Option (Int × Int × Int) :=
  (if x0 ≤ 1 then some (0, x2, x3) else (p_spec_l1Cur_next x1 x2 x3).bind (fun r4 => (if 200 < x0 then (p_spec_l1Cur_next x1 r4.2.1 r4.2.2).bind (fun r8 => some (((IntKind.wrap .i64 ((IntKind.wrap .i64 (r4.1 * 256)) + r8.1)).tmod x0), r8.2.1, r8.2.2)) else some ((r4.1.tmod x0), r4.2.1, r4.2.2))))
/-- (*loop.example/g01210/spec.l1Cur).among -/
def p_spec_l1Cur_among (x0 : (List Int)) (x1 : (List Int)) (x2 : Int) (x3 : Int) : Option (Int × Int × Int) :=
  (p_spec_l1Cur_pick (x0.length : Int) x1 x2 x3).bind (fun r1 => if 0 ≤ r1.1 then if r1.1 < (x0.length : Int) then some ((x0.getD r1.1.toNat 0), r1.2.1, r1.2.2) else none else none)
/-- (*loop.example/g01210/spec.l1Cur).face -/
def p_spec_l1Cur_face (x0 : (List Int)) (x1 : Int) (x2 : Int) : Option (Int × Int × Int) :=
  (p_spec_l1Cur_among [1, 2, 3, 4, 5, 6, 6, 0, 8, 9, 4, 3, 30, 12] x0 x1 x2).bind (fun r1 => some (r1.1, r1.2.1, r1.2.2))
/-- (*loop.example/g01210/spec.l1Cur).one -/
def p_spec_l1Cur_one (x0 : Int) (x1 : (List Int)) (x2 : Int) (x3 : Int) : Option (Bool × Int × Int) :=
  (p_spec_l1Cur_pick x0 x1 x2 x3).bind (fun r1 => some ((decide (r1.1 = 0)), r1.2.1, r1.2.2))
/-- loop.example/g01210/spec.l2Sorted -/
def p_spec_l2Sorted (x0 : (List Int)) : (List Int) :=
  cnt (fun i2 (s1 : (List Int)) c3 _ => cnt (fun i9 (s8 : (List Int)) c10 _ => (if (s8.getD (i9 + 1).toNat 0) < (s8.getD i9.toNat 0) then c10 ((s8.set i9.toNat (s8.getD (i9 + 1).toNat 0)).set (i9 + 1).toNat (s8.getD i9.toNat 0)) else c10 s8)) (fun i9 (s8 : (List Int)) => c3 s8) (Int.toNat (5 - 0)) 0 s1) (fun i2 (s1 : (List Int)) => s1) (Int.toNat (6 - 0)) 0 x0
/-- (*loop.example/g01210/spec.l1Cur).die -/
def p_spec_l1Cur_die (x0 : (List Int)) (x1 : Int) (x2 : Int) : Option ((List Int) × Int × Int) :=
  jn (fun (s1 : Int × Int × (List Int)) => (p_spec_l1Cur_pick 50 x0 s1.1 s1.2.1).bind (fun r4 => (if r4.1 = 0 then (p_spec_l1Cur_pick 6 x0 r4.2.1 r4.2.2).bind (fun r8 => (p_spec_l1Cur_among [(-1), 31, 0, 4611686018427387904] x0 r8.2.1 r8.2.2).bind (fun r9 => if 0 ≤ r8.1 then if r8.1 < 6 then some (((p_spec_l2Sorted s1.2.2).set r8.1.toNat r9.1), r9.2.1, r9.2.2) else none else none)) else (if r4.1 = 1 then some (((p_spec_l2Sorted s1.2.2).set 0 30), r4.2.1, r4.2.2) else some ((p_spec_l2Sorted s1.2.2), r4.2.1, r4.2.2))))) (fun k2 => (p_spec_l1Cur_pick 6 x0 x1 x2).bind (fun r15 => (if r15.1 = 0 then some ([1, 2, 3, 4, 5, 6], r15.2.1, r15.2.2) else (if r15.1 = 1 then k2 (r15.2.1, r15.2.2, [1, 2, 2, 3, 3, 4]) else (if r15.1 = 2 then (p_spec_l1Cur_face x0 r15.2.1 r15.2.2).bind (fun r25 => (p_spec_l1Cur_face x0 r25.2.1 r25.2.2).bind (fun r26 => cnt (fun i28 (s27 : Int × Int × (List Int)) c29 _ => (p_spec_l1Cur_one 3 x0 s27.1 s27.2.1).bind (fun r34 => (if r34.1 = true then c29 (r34.2.1, r34.2.2, ((s27.2.2.set i28.toNat r25.1).set i28.toNat r26.1)) else c29 (r34.2.1, r34.2.2, (s27.2.2.set i28.toNat r25.1))))) (fun i28 (s27 : Int × Int × (List Int)) => k2 (s27.1, s27.2.1, s27.2.2)) (Int.toNat (6 - 0)) 0 (r26.2.1, r26.2.2, [1, 2, 3, 4, 5, 6]))) else cnt (fun i37 (s36 : Int × Int × (List Int)) c38 _ => (p_spec_l1Cur_face x0 s36.1 s36.2.1).bind (fun r43 => c38 (r43.2.1, r43.2.2, (s36.2.2.set i37.toNat r43.1)))) (fun i37 (s36 : Int × Int × (List Int)) => k2 (s36.1, s36.2.1, s36.2.2)) (Int.toNat (6 - 0)) 0 (r15.2.1, r15.2.2, [1, 2, 3, 4, 5, 6]))))))
/-- (*loop.example/g01210/spec.l1Cur).beside -/
def p_spec_l1Cur_beside (x0 : (List Int)) (x1 : (List Int)) (x2 : Int) (x3 : Int) : Option ((List Int) × Int × Int) :=
  (p_spec_l1Cur_one 2 x1 x2 x3).bind (fun r1 => (if r1.1 = true then (p_spec_l1Cur_die x1 r1.2.1 r1.2.2).bind (fun r3 => some (r3.1, r3.2.1, r3.2.2)) else (p_spec_l1Cur_pick 6 x1 r1.2.1 r1.2.2).bind (fun r4 => if 0 ≤ r4.1 then if r4.1 < 6 then (p_spec_l1Cur_pick 3 x1 r4.2.1 r4.2.2).bind (fun r7 => some ((p_spec_l2Sorted (x0.set r4.1.toNat (IntKind.wrap .i64 ((IntKind.wrap .i64 ((x0.getD r4.1.toNat 0) + r7.1)) - 1)))), r7.2.1, r7.2.2)) else none else none)))
/-- loop.example/g01210/spec.DrawCompareDice -/
def p_spec_DrawCompareDice (x0 : (List Int)) : Option ((List Int) × (List Int)) :=
  (p_spec_l1Cur_die x0 0 0).bind (fun r1 => (p_spec_l1Cur_beside r1.1 x0 r1.2.1 r1.2.2).bind (fun r2 => some (r1.1, r2.1)))
/-- loop.example/g01210/impl.within -/
def p_impl_within (x0 : Int) (x1 : Int) (x2 : Int) : Bool :=
  ((decide (x1 ≤ x0)) && (decide (x0 ≤ x2)))
/-- loop.example/g01210/impl.isFace -/
def p_impl_isFace (x0 : Int) : Bool :=
  (p_impl_within x0 0 30)
/-- loop.example/g01210/impl.areAll[int]$1 -/
def p_impl_areAll_int_1 (x0 : Int) : Bool :=
  (!(p_impl_isFace x0))
/-- slices.IndexFunc[[]int,int] -/
def p_slices_IndexFunc_int_int (x0 : (List Int)) : Int :=
  cnt (fun i2 (s1 : Unit) c3 _ => (if (p_impl_areAll_int_1 (x0.getD i2.toNat 0)) = true then i2 else c3 ())) (fun i2 (s1 : Unit) => (-1)) (Int.toNat ((x0.length : Int) - 0)) 0 ()
/-- slices.ContainsFunc[[]int,int] -/
def p_slices_ContainsFunc_int_int (x0 : (List Int)) : Bool :=
  (decide (0 ≤ (p_slices_IndexFunc_int_int x0)))
/-- loop.example/g01210/impl.areAll[int] -/
def p_impl_areAll_int (x0 : (List Int)) : Bool :=
  (!(p_slices_ContainsFunc_int_int x0))
/-- cmp.isNaN[int] -/
def p_cmp_isNaN_int (x0 : Int) : Bool :=
  (!(decide (x0 = x0)))
/-- cmp.Less[int] -/
def p_cmp_Less_int (x0 : Int) (x1 : Int) : Bool :=
  (((p_cmp_isNaN_int x0) && (!(p_cmp_isNaN_int x1))) || (decide (x0 < x1)))
/-- slices.IsSorted[[]int,int] -/
def p_slices_IsSorted_int_int (x0 : (List Int)) : Bool :=
  cntd (fun i2 (s1 : Unit) c3 _ => (if (p_cmp_Less_int (x0.getD i2.toNat 0) (x0.getD (i2 - 1).toNat 0)) = true then false else c3 ())) (fun i2 (s1 : Unit) => true) (Int.toNat (((x0.length : Int) - 1) - 0)) ((x0.length : Int) - 1) ()
/-- loop.example/g01210/impl.IsDie -/
def p_impl_IsDie (x0 : (List Int)) : Bool :=
  ((p_impl_areAll_int x0) && (p_slices_IsSorted_int_int x0))
/-- cmp.Compare[int] -/
def p_cmp_Compare_int (x0 : Int) (x1 : Int) : Int :=
  (if (p_cmp_isNaN_int x0) = true then (if (p_cmp_isNaN_int x1) = true then 0 else (-1)) else (if (p_cmp_isNaN_int x1) = true then 1 else (if x0 < x1 then (-1) else (if x1 < x0 then 1 else 0))))
/-- loop.example/g01210/impl.compared -/
def p_impl_compared (x0 : (List Int)) (x1 : (List Int)) : Option ((List Int)) :=
  cnt (fun i2 (s1 : (List Int)) c3 _ => cnt (fun i9 (s8 : (List Int)) c10 _ => if 0 ≤ (IntKind.wrap .i64 (1 - (p_cmp_Compare_int (x0.getD i2.toNat 0) (x1.getD i9.toNat 0)))) then if (IntKind.wrap .i64 (1 - (p_cmp_Compare_int (x0.getD i2.toNat 0) (x1.getD i9.toNat 0)))) < 3 then c10 (s8.set (IntKind.wrap .i64 (1 - (p_cmp_Compare_int (x0.getD i2.toNat 0) (x1.getD i9.toNat 0)))).toNat (IntKind.wrap .i64 ((s8.getD (IntKind.wrap .i64 (1 - (p_cmp_Compare_int (x0.getD i2.toNat 0) (x1.getD i9.toNat 0)))).toNat 0) + 1))) else none else none) (fun i9 (s8 : (List Int)) => c3 s8) (Int.toNat (6 - 0)) 0 s1) (fun i2 (s1 : (List Int)) => some s1) (Int.toNat (6 - 0)) 0 (List.replicate 3 0)
/-- loop.example/g01210/impl.CompareDice -/
def p_impl_CompareDice (x0 : (List Int)) (x1 : (List Int)) : Option ((List Int) × Bool) :=
  (if ((!(p_impl_IsDie x0)) || (!(p_impl_IsDie x1))) = true then some ((List.replicate 3 0), false) else (p_impl_compared x0 x1).bind (fun r7 => some (r7, true)))
/-- loop.example/g01210/spec.l1In -/
def p_spec_l1In (x0 : Int) (x1 : Int) (x2 : Int) : Bool :=
  ((decide (x1 ≤ x0)) && (decide (x0 ≤ x2)))
/-- loop.example/g01210/spec.l2Die -/
def p_spec_l2Die (x0 : (List Int)) : Option (Bool) :=
  cnt (fun i2 (s1 : Unit) c3 _ => (if ((!(p_spec_l1In (x0.getD i2.toNat 0) 0 30)) || ((decide (0 < i2)) && (decide ((x0.getD i2.toNat 0) < (x0.getD (i2 - 1).toNat 0))))) = true then some false else c3 ())) (fun i2 (s1 : Unit) => some true) (Int.toNat (6 - 0)) 0 ()
/-- loop.example/g01210/spec.l3Compare -/
def p_spec_l3Compare (x0 : (List Int)) (x1 : (List Int)) : (List Int) :=
  cnt (fun i2 (s1 : (List Int)) c3 _ => cnt (fun i9 (s8 : (List Int)) c10 _ => (if (x1.getD i9.toNat 0) < (x0.getD i2.toNat 0) then c10 (s8.set 0 (IntKind.wrap .i64 ((s8.getD 0 0) + 1))) else (if (x0.getD i2.toNat 0) = (x1.getD i9.toNat 0) then c10 (s8.set 1 (IntKind.wrap .i64 ((s8.getD 1 0) + 1))) else c10 (s8.set 2 (IntKind.wrap .i64 ((s8.getD 2 0) + 1)))))) (fun i9 (s8 : (List Int)) => c3 s8) (Int.toNat (6 - 0)) 0 s1) (fun i2 (s1 : (List Int)) => s1) (Int.toNat (6 - 0)) 0 (List.replicate 3 0)
/-- loop.example/g01210/spec.CompareDice -/
def p_spec_CompareDice (x0 : (List Int)) (x1 : (List Int)) : Option ((List Int) × Bool) :=
  (p_spec_l2Die x0).bind (fun r1 => if ((!(!r1)) = true → (p_spec_l2Die x1).isSome = true) then (if ((!r1) || (!((p_spec_l2Die x1).getD false))) = true then some ((List.replicate 3 0), false) else some ((p_spec_l3Compare x0 x1), true)) else none)
/-- loop.example/g01210/impl.beats -/
def p_impl_beats (x0 : (List Int)) (x1 : (List Int)) : Option (Int) :=
  (p_impl_compared x0 x1).bind (fun r1 => some (p_cmp_Compare_int (r1.getD 0 0) (r1.getD 2 0)))
/-- loop.example/g01210/impl.DoesBeat -/
def p_impl_DoesBeat (x0 : (List Int)) (x1 : (List Int)) : Option (Bool × Bool) :=
  (if ((!(p_impl_IsDie x0)) || (!(p_impl_IsDie x1))) = true then some (false, false) else (p_impl_beats x0 x1).bind (fun r7 => some ((decide (0 < r7)), true)))
/-- loop.example/g01210/spec.l3Beats -/
def p_spec_l3Beats (x0 : (List Int)) (x1 : (List Int)) : Bool :=
  (decide (((p_spec_l3Compare x0 x1).getD 2 0) < ((p_spec_l3Compare x0 x1).getD 0 0)))
/-- loop.example/g01210/spec.DoesBeat -/
def p_spec_DoesBeat (x0 : (List Int)) (x1 : (List Int)) : Option (Bool × Bool) :=
  (p_spec_l2Die x0).bind (fun r1 => if ((!(!r1)) = true → (p_spec_l2Die x1).isSome = true) then (if ((!r1) || (!((p_spec_l2Die x1).getD false))) = true then some (false, false) else some ((p_spec_l3Beats x0 x1), true)) else none)
/-- loop.example/g01210/impl.DoesCover -/
def p_impl_DoesCover (x0 : (List Int)) (x1 : (List Int)) : Bool × Bool :=
  (if ((!(p_impl_IsDie x0)) || (!(p_impl_IsDie x1))) = true then (false, false) else cnt (fun i8 (s7 : Unit) c9 _ => (if (x0.getD i8.toNat 0) < (x1.getD i8.toNat 0) then (false, true) else c9 ())) (fun i8 (s7 : Unit) => (true, true)) (Int.toNat (6 - 0)) 0 ())
/-- loop.example/g01210/spec.DoesCover -/
def p_spec_DoesCover (x0 : (List Int)) (x1 : (List Int)) : Option (Bool × Bool) :=
  (p_spec_l2Die x0).bind (fun r1 => if ((!(!r1)) = true → (p_spec_l2Die x1).isSome = true) then (if ((!r1) || (!((p_spec_l2Die x1).getD false))) = true then some (false, false) else cnt (fun i10 (s9 : Unit) c11 _ => (if (x0.getD i10.toNat 0) < (x1.getD i10.toNat 0) then some (false, true) else c11 ())) (fun i10 (s9 : Unit) => some (true, true)) (Int.toNat (6 - 0)) 0 ()) else none)
/-- loop.example/g01210/impl.shifted -/
def p_impl_shifted (x0 : (List Int)) (x1 : Int) : (List Int) :=
  cnt (fun i2 (s1 : (List Int)) c3 _ => c3 (s1.set i2.toNat (IntKind.wrap .i64 ((s1.getD i2.toNat 0) + x1)))) (fun i2 (s1 : (List Int)) => s1) (Int.toNat (6 - 0)) 0 x0
/-- loop.example/g01210/impl.LeastShift -/
def p_impl_LeastShift (fu : Nat) (x0 : (List Int)) (x1 : (List Int)) : Option (Int × Bool) :=
  (if ((!(p_impl_IsDie x0)) || (!(p_impl_IsDie x1))) = true then some (0, false) else whl (fun (s7 : Int) c9 => (if (p_impl_IsDie (p_impl_shifted x0 s7)) = true then (p_impl_beats (p_impl_shifted x0 s7) x1).bind (fun r12 => (if 0 < r12 then some (s7, true) else c9 (IntKind.wrap .i64 (s7 + 1)))) else some (0, false))) fu 0)
/-- loop.example/g01210/spec.LeastShift -/
def p_spec_LeastShift (fu : Nat) (x0 : (List Int)) (x1 : (List Int)) : Option (Int × Bool) :=
  (p_spec_l2Die x0).bind (fun r1 => if ((!(!r1)) = true → (p_spec_l2Die x1).isSome = true) then (if ((!r1) || (!((p_spec_l2Die x1).getD false))) = true then some (0, false) else whl (fun (s9 : Int) c11 => (if (IntKind.wrap .i64 ((x0.getD 5 0) + s9)) ≤ 30 then cnt (fun i17 (s16 : (List Int)) c18 _ => c18 (s16.set i17.toNat (IntKind.wrap .i64 ((x0.getD i17.toNat 0) + s9)))) (fun i17 (s16 : (List Int)) => (if (p_spec_l3Beats s16 x1) = true then some (s9, true) else c11 (IntKind.wrap .i64 (s9 + 1)))) (Int.toNat (6 - 0)) 0 x0 else some (0, false))) fu 0) else none)
/-- (*loop.example/g01210/spec.l1Cur).pool -/
def p_spec_l1Cur_pool (fu : Nat) (x0 : (List Int)) (x1 : Int) (x2 : Int) : Option ((List (List Int)) × Int × Int) :=
  (p_spec_l1Cur_among [2, 3, 1, 2, 4] x0 x1 x2).bind (fun r1 => whl (fun (s2 : Int × Int × Int × (List (List Int))) c4 => (if 0 < s2.1 then (p_spec_l1Cur_die x0 s2.2.1 s2.2.2.1).bind (fun r9 => (if 0 < (s2.2.2.2.length : Int) then (p_spec_l1Cur_one 3 x0 r9.2.1 r9.2.2).bind (fun r13 => (if r13.1 = true then if (s2.2.2.2.length : Int) + 1 ≤ 1000000000 then c4 ((IntKind.wrap .i64 (s2.1 - 1)), r13.2.1, r13.2.2, (s2.2.2.2 ++ [(s2.2.2.2.getD 0 (List.replicate 6 0))])) else none else if (s2.2.2.2.length : Int) + 1 ≤ 1000000000 then c4 ((IntKind.wrap .i64 (s2.1 - 1)), r13.2.1, r13.2.2, (s2.2.2.2 ++ [r9.1])) else none)) else c4 ((IntKind.wrap .i64 (s2.1 - 1)), r9.2.1, r9.2.2, (s2.2.2.2 ++ [r9.1])))) else (p_spec_l1Cur_pick 50 x0 s2.2.1 s2.2.2.1).bind (fun r17 => (if r17.1 = 0 then some ([], r17.2.1, r17.2.2) else (if r17.1 = 1 then whl (fun (s24 : (List (List Int))) c26 => (if (s24.length : Int) < 5 then if 0 < (s24.length : Int) then c26 (s24 ++ [(s24.getD 0 (List.replicate 6 0))]) else none else some (s24, r17.2.1, r17.2.2))) fu s2.2.2.2 else some (s2.2.2.2, r17.2.1, r17.2.2)))))) fu (r1.1, r1.2.1, r1.2.2, []))
/-- loop.example/g01210/spec.l2Own -/
def p_spec_l2Own (x0 : (List (List Int))) : Option ((List (List Int))) :=
  if 0 + (x0.length : Int) ≤ 1000000000 then some ([] ++ x0) else none
/-- loop.example/g01210/spec.DrawChanceToBeat -/
def p_spec_DrawChanceToBeat (fu : Nat) (x0 : (List Int)) : Option ((List (List Int)) × (List (List Int))) :=
  (p_spec_l1Cur_pool fu x0 0 0).bind (fun r1 => (p_spec_l1Cur_one 4 x0 r1.2.1 r1.2.2).bind (fun r3 => (if r3.1 = true then (p_spec_l2Own r1.1).bind (fun r5 => some (r1.1, r5)) else (p_spec_l1Cur_pool fu x0 r3.2.1 r3.2.2).bind (fun r7 => some (r1.1, r7.1)))))
/-- loop.example/g01210/impl.areAll[[6]int]$1 -/
def p_impl_areAll_6_int_1 (x0 : (List Int)) : Bool :=
  (!(p_impl_IsDie x0))
/-- slices.IndexFunc[[][6]int,[6]int] -/
def p_slices_IndexFunc_6_int_6_int (x0 : (List (List Int))) : Int :=
  cnt (fun i2 (s1 : Unit) c3 _ => (if (p_impl_areAll_6_int_1 (x0.getD i2.toNat (List.replicate 6 0))) = true then i2 else c3 ())) (fun i2 (s1 : Unit) => (-1)) (Int.toNat ((x0.length : Int) - 0)) 0 ()
/-- slices.ContainsFunc[[][6]int,[6]int] -/
def p_slices_ContainsFunc_6_int_6_int (x0 : (List (List Int))) : Bool :=
  (decide (0 ≤ (p_slices_IndexFunc_6_int_6_int x0)))
/-- loop.example/g01210/impl.areAll[[6]int] -/
def p_impl_areAll_6_int (x0 : (List (List Int))) : Bool :=
  (!(p_slices_ContainsFunc_6_int_6_int x0))
/-- loop.example/g01210/impl.IsPool -/
def p_impl_IsPool (x0 : (List (List Int))) : Bool :=
  ((p_impl_within (x0.length : Int) 1 4) && (p_impl_areAll_6_int x0))
/-- loop.example/g01210/impl.sums -/
def p_impl_sums (x0 : (List (List Int))) : Option ((List Int)) :=
  cnt (fun i2 (s1 : (List Int)) c3 _ => cnt (fun i9 (s8 : (List Int)) c10 _ => (if (s1.getD i9.toNat 0) = 0 then c10 s8 else cnt (fun i19 (s18 : (List Int)) c20 _ => if 0 ≤ (IntKind.wrap .i64 (i9 + ((x0.getD i2.toNat (List.replicate 6 0)).getD i19.toNat 0))) then if (IntKind.wrap .i64 (i9 + ((x0.getD i2.toNat (List.replicate 6 0)).getD i19.toNat 0))) < 121 then c20 (s18.set (IntKind.wrap .i64 (i9 + ((x0.getD i2.toNat (List.replicate 6 0)).getD i19.toNat 0))).toNat (IntKind.wrap .i64 ((s18.getD (IntKind.wrap .i64 (i9 + ((x0.getD i2.toNat (List.replicate 6 0)).getD i19.toNat 0))).toNat 0) + (s1.getD i9.toNat 0)))) else none else none) (fun i19 (s18 : (List Int)) => c10 s18) (Int.toNat (6 - 0)) 0 s8)) (fun i9 (s8 : (List Int)) => c3 s8) (Int.toNat (121 - 0)) 0 (List.replicate 121 0)) (fun i2 (s1 : (List Int)) => some s1) (Int.toNat ((x0.length : Int) - 0)) 0 ((List.replicate 121 0).set 0 1)
/-- loop.example/g01210/impl.power -/
def p_impl_power (fu : Nat) (x0 : Int) : Option (Int) :=
  whl (fun (s1 : Int × Int) c3 => (if s1.2 < x0 then c3 ((IntKind.wrap .i64 (s1.1 * 6)), (IntKind.wrap .i64 (s1.2 + 1))) else some s1.1)) fu (1, 0)
/-- loop.example/g01210/impl.fraction -/
def p_impl_fraction (fu : Nat) (x0 : Int) (x1 : Int) : Option ((List Int)) :=
  whl (fun (s1 : Int × Int) c3 => (if s1.2 = 0 then if s1.1 ≠ 0 then if s1.1 ≠ 0 then some [(IntKind.wrap .i64 (x0.tdiv s1.1)), (IntKind.wrap .i64 (x1.tdiv s1.1))] else none else none else if s1.2 ≠ 0 then c3 (s1.2, (s1.1.tmod s1.2)) else none)) fu (x0, x1)
/-- loop.example/g01210/impl.ChanceToBeat -/
def p_impl_ChanceToBeat (fu : Nat) (x0 : (List (List Int))) (x1 : (List (List Int))) : Option ((List Int) × Bool) :=
  (if ((!(p_impl_IsPool x0)) || (!(p_impl_IsPool x1))) = true then some ((List.replicate 2 0), false) else (p_impl_sums x0).bind (fun r7 => (p_impl_sums x1).bind (fun r8 => cnt (fun i10 (s9 : Int × Int) c11 _ => c11 ((IntKind.wrap .i64 (s9.1 + (IntKind.wrap .i64 ((r7.getD i10.toNat 0) * s9.2)))), (IntKind.wrap .i64 (s9.2 + (r8.getD i10.toNat 0))))) (fun i10 (s9 : Int × Int) => (p_impl_power fu (IntKind.wrap .i64 ((x0.length : Int) + (x1.length : Int)))).bind (fun r16 => (p_impl_fraction fu s9.1 r16).bind (fun r17 => some (r17, true)))) (Int.toNat (121 - 0)) 0 (0, 0))))
/-- loop.example/g01210/spec.l2Pool -/
def p_spec_l2Pool (x0 : (List (List Int))) : Option (Bool) :=
  cnt (fun i2 (s1 : Unit) c3 k16 => (if ((decide (i2 < (x0.length : Int))) && (decide (i2 ≤ 4))) = true then (p_spec_l2Die (x0.getD i2.toNat (List.replicate 6 0))).bind (fun r14 => (if r14 = true then c3 () else some false)) else k16 i2 s1)) (fun i2 (s1 : Unit) => some (p_spec_l1In (x0.length : Int) 1 4)) (Int.toNat ((x0.length : Int) - 0)) 0 ()
/-- loop.example/g01210/spec.l2Table -/
def p_spec_l2Table (x0 : (List (List Int))) : Option ((List Int)) :=
  cnt (fun i2 (s1 : (List Int)) c3 _ => cnt (fun i9 (s8 : (List Int)) c10 _ => cnt (fun i16 (s15 : (List Int)) c17 _ => (if 0 < (s1.getD i9.toNat 0) then if 0 ≤ (IntKind.wrap .i64 (i9 + ((x0.getD i2.toNat (List.replicate 6 0)).getD i16.toNat 0))) then if (IntKind.wrap .i64 (i9 + ((x0.getD i2.toNat (List.replicate 6 0)).getD i16.toNat 0))) < 121 then c17 (s15.set (IntKind.wrap .i64 (i9 + ((x0.getD i2.toNat (List.replicate 6 0)).getD i16.toNat 0))).toNat (IntKind.wrap .i64 ((s15.getD (IntKind.wrap .i64 (i9 + ((x0.getD i2.toNat (List.replicate 6 0)).getD i16.toNat 0))).toNat 0) + (s1.getD i9.toNat 0)))) else none else none else c17 s15)) (fun i16 (s15 : (List Int)) => c10 s15) (Int.toNat (6 - 0)) 0 s8) (fun i9 (s8 : (List Int)) => c3 s8) (Int.toNat (121 - 0)) 0 (List.replicate 121 0)) (fun i2 (s1 : (List Int)) => some s1) (Int.toNat ((x0.length : Int) - 0)) 0 ((List.replicate 121 0).set 0 1)
/-- loop.example/g01210/spec.l2All -/
def p_spec_l2All (fu : Nat) (x0 : Int) : Option (Int) :=
  whl (fun (s1 : Int × Int) c3 => (if s1.2 < x0 then c3 ((IntKind.wrap .i64 (s1.1 * 6)), (IntKind.wrap .i64 (s1.2 + 1))) else some s1.1)) fu (1, 0)
/-- loop.example/g01210/spec.l1Most -/
def p_spec_l1Most (x0 : Int) (x1 : Int) : Int :=
  (if x1 < x0 then x0 else x1)
/-- loop.example/g01210/spec.l2Cut -/
def p_spec_l2Cut (fu : Nat) (x0 : Int) (x1 : Int) : Option ((List Int)) :=
  whl (fun (s1 : Int × Int) c3 => (if 0 < s1.2 then c3 (s1.2, (s1.1.tmod s1.2)) else if (p_spec_l1Most s1.1 1) ≠ 0 then if (p_spec_l1Most s1.1 1) ≠ 0 then some [(IntKind.wrap .i64 (x0.tdiv (p_spec_l1Most s1.1 1))), (IntKind.wrap .i64 (x1.tdiv (p_spec_l1Most s1.1 1)))] else none else none)) fu (x0, x1)
/-- loop.example/g01210/spec.l3Chance -/
def p_spec_l3Chance (fu : Nat) (x0 : (List (List Int))) (x1 : (List (List Int))) (x2 : Bool) : Option ((List Int)) :=
  (p_spec_l2Table x0).bind (fun r1 => (p_spec_l2Table x1).bind (fun r2 => cnt (fun i4 (s3 : Int) c5 _ => cnt (fun i11 (s10 : Int) c12 _ => (if (((!x2) && (decide (i11 < i4))) || (x2 && (decide (i4 = i11)))) = true then c12 (IntKind.wrap .i64 (s10 + (IntKind.wrap .i64 ((r1.getD i4.toNat 0) * (r2.getD i11.toNat 0))))) else c12 s10)) (fun i11 (s10 : Int) => c5 s10) (Int.toNat (121 - 0)) 0 s3) (fun i4 (s3 : Int) => (p_spec_l2All fu (x0.length : Int)).bind (fun r35 => (p_spec_l2All fu (x1.length : Int)).bind (fun r36 => (p_spec_l2Cut fu s3 (IntKind.wrap .i64 (r35 * r36))).bind (fun r37 => some r37)))) (Int.toNat (121 - 0)) 0 0))
/-- loop.example/g01210/spec.ChanceToBeat -/
def p_spec_ChanceToBeat (fu : Nat) (x0 : (List (List Int))) (x1 : (List (List Int))) : Option ((List Int) × Bool) :=
  (p_spec_l2Pool x0).bind (fun r1 => if ((!(!r1)) = true → (p_spec_l2Pool x1).isSome = true) then (if ((!r1) || (!((p_spec_l2Pool x1).getD false))) = true then some ((List.replicate 2 0), false) else (p_spec_l3Chance fu x0 x1 false).bind (fun r9 => some (r9, true))) else none)
/-- loop.example/g01210/impl.ChanceLevel -/
def p_impl_ChanceLevel (fu : Nat) (x0 : (List (List Int))) (x1 : (List (List Int))) : Option ((List Int) × Bool) :=
  (if ((!(p_impl_IsPool x0)) || (!(p_impl_IsPool x1))) = true then some ((List.replicate 2 0), false) else (p_impl_sums x0).bind (fun r7 => (p_impl_sums x1).bind (fun r8 => cnt (fun i10 (s9 : Int) c11 _ => c11 (IntKind.wrap .i64 (s9 + (IntKind.wrap .i64 ((r7.getD i10.toNat 0) * (r8.getD i10.toNat 0)))))) (fun i10 (s9 : Int) => (p_impl_power fu (IntKind.wrap .i64 ((x0.length : Int) + (x1.length : Int)))).bind (fun r16 => (p_impl_fraction fu s9 r16).bind (fun r17 => some (r17, true)))) (Int.toNat (121 - 0)) 0 0)))
/-- loop.example/g01210/spec.ChanceLevel -/
def p_spec_ChanceLevel (fu : Nat) (x0 : (List (List Int))) (x1 : (List (List Int))) : Option ((List Int) × Bool) :=
  (p_spec_l2Pool x0).bind (fun r1 => if ((!(!r1)) = true → (p_spec_l2Pool x1).isSome = true) then (if ((!r1) || (!((p_spec_l2Pool x1).getD false))) = true then some ((List.replicate 2 0), false) else (p_spec_l3Chance fu x0 x1 true).bind (fun r9 => some (r9, true))) else none)
/-- loop.example/g01210/laws.rPlus -/
def p_laws_rPlus (fu : Nat) (x0 : (List Int)) (x1 : (List Int)) : Option ((List Int)) :=
  whl (fun (s1 : Int × Int) c3 => (if 0 < s1.2 then c3 (s1.2, (s1.1.tmod s1.2)) else jn (fun (s8 : Int) => if s8 ≠ 0 then if s8 ≠ 0 then some [(IntKind.wrap .i64 ((IntKind.wrap .i64 ((IntKind.wrap .i64 ((x0.getD 0 0) * (x1.getD 1 0))) + (IntKind.wrap .i64 ((x1.getD 0 0) * (x0.getD 1 0))))).tdiv s8)), (IntKind.wrap .i64 ((IntKind.wrap .i64 ((x0.getD 1 0) * (x1.getD 1 0))).tdiv s8))] else none else none) (fun k9 => (if s1.1 < 1 then k9 1 else k9 s1.1)))) fu ((IntKind.wrap .i64 ((IntKind.wrap .i64 ((x0.getD 0 0) * (x1.getD 1 0))) + (IntKind.wrap .i64 ((x1.getD 0 0) * (x0.getD 1 0))))), (IntKind.wrap .i64 ((x0.getD 1 0) * (x1.getD 1 0))))
/-- loop.example/g01210/impl.ShiftDie -/
def p_impl_ShiftDie (x0 : (List Int)) (x1 : Int) : (List Int) × Bool :=
  (if (((!(p_impl_IsDie x0)) || (!(p_impl_within x1 (-30) 30))) || (!(p_impl_IsDie (p_impl_shifted x0 x1)))) = true then ((List.replicate 6 0), false) else ((p_impl_shifted x0 x1), true))
/-- loop.example/g01210/laws.FnBeats -/
def p_laws_FnBeats (fu : Nat) (x0 : (List Int)) : Option (Bool) :=
  (if (p_laws_rBig x0) = true then some true else (p_spec_DrawCompareDice x0).bind (fun r2 => (p_impl_CompareDice r2.1 r2.2).bind (fun r3 => (p_spec_CompareDice r2.1 r2.2).bind (fun r4 => (if (((!(decide (r3.1 = r4.1))) || (r3.2 != r4.2)) || (r3.2 != ((p_impl_IsDie r2.1) && (p_impl_IsDie r2.2)))) = true then some false else (p_impl_DoesBeat r2.1 r2.2).bind (fun r41 => (p_spec_DoesBeat r2.1 r2.2).bind (fun r42 => (if ((((r41.1 != r42.1) || (r41.2 != r42.2)) || (r41.2 != r3.2)) || (r3.2 && (r41.1 != (decide ((r3.1.getD 2 0) < (r3.1.getD 0 0)))))) = true then some false else (p_spec_DoesCover r2.1 r2.2).bind (fun r126 => (if (((((p_impl_DoesCover r2.1 r2.2).1) != r126.1) || (((p_impl_DoesCover r2.1 r2.2).2) != r126.2)) || (((p_impl_DoesCover r2.1 r2.2).2) != r3.2)) = true then some false else (p_impl_LeastShift fu r2.1 r2.2).bind (fun r144 => (p_spec_LeastShift fu r2.1 r2.2).bind (fun r145 => (if ((!(decide (r144.1 = r145.1))) || (r144.2 != r145.2)) = true then some false else (p_spec_DrawChanceToBeat fu x0).bind (fun r156 => (p_impl_ChanceToBeat fu r156.1 r156.2).bind (fun r159 => (p_spec_ChanceToBeat fu r156.1 r156.2).bind (fun r160 => (if (((!(decide (r159.1 = r160.1))) || (r159.2 != r160.2)) || (r159.2 != ((p_impl_IsPool r156.1) && (p_impl_IsPool r156.2)))) = true then some false else (p_impl_ChanceLevel fu r156.1 r156.2).bind (fun r197 => (p_spec_ChanceLevel fu r156.1 r156.2).bind (fun r198 => (if (((!(decide (r197.1 = r198.1))) || (r197.2 != r198.2)) || (r197.2 != r159.2)) = true then some false else jn (fun (s216 : Unit) => jn (fun (s219 : Unit) => (if r3.2 = true then (p_impl_CompareDice r2.2 r2.1).bind (fun r223 => (p_impl_DoesBeat r2.2 r2.1).bind (fun r224 => some ((((((r223.2 && r224.2) && (decide ((IntKind.wrap .i64 ((IntKind.wrap .i64 ((r3.1.getD 0 0) + (r3.1.getD 1 0))) + (r3.1.getD 2 0))) = 36))) && (decide ((r223.1.getD 0 0) = (r3.1.getD 2 0)))) && (decide ((r223.1.getD 2 0) = (r3.1.getD 0 0)))) && (!(r41.1 && r224.1))) && (!(((p_impl_DoesCover r2.1 r2.2).1) && r224.1))))) else some true)) (fun k220 => (if r144.2 = true then (p_impl_DoesBeat ((p_impl_ShiftDie r2.1 r144.1).1) r2.2).bind (fun r463 => (if (((!((p_impl_ShiftDie r2.1 r144.1).2)) || (!r463.2)) || (!r463.1)) = true then some false else (if 0 < r144.1 then (p_impl_DoesBeat ((p_impl_ShiftDie r2.1 (IntKind.wrap .i64 (r144.1 - 1))).1) r2.2).bind (fun r480 => (if (((!((p_impl_ShiftDie r2.1 (IntKind.wrap .i64 (r144.1 - 1))).2)) || (!r480.2)) || r480.1) = true then some false else k220 ())) else k220 ()))) else k220 ()))) (fun k217 => (if r159.2 = true then (p_impl_ChanceToBeat fu r156.2 r156.1).bind (fun r492 => if ((!(!r492.2)) = true → (p_laws_rPlus fu r159.1 r492.1).isSome = true) then if ((!(!r492.2)) = true → (p_laws_rPlus fu ((p_laws_rPlus fu r159.1 r492.1).getD (List.replicate 2 0)) r197.1).isSome = true) then (if ((!r492.2) || (!(decide (((p_laws_rPlus fu ((p_laws_rPlus fu r159.1 r492.1).getD (List.replicate 2 0)) r197.1).getD (List.replicate 2 0)) = [1, 1])))) = true then some false else k217 ()) else none else none) else k217 ()))))))))))))))))))))))
end Go.GA
