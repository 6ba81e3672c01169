/- Walks: what the Go functions compute, by the printed lines below; no further conditions. -/
import Derived.Test.YtheplbbbfbbjcaaGaD
namespace Go.GA
open Go
set_option maxRecDepth 100000
set_option maxHeartbeats 2000000
set_option linter.unusedVariables false
set_option linter.unusedSimpArgs false
/-- loop.example/g01210/laws.rBig -/
def p_laws_rBig (x0 : (List Int)) : Bool :=
  (decide (65536 < (x0.length : Int)))
/-- (*loop.example/g01210/spec.l1Cur).next -/
def p_spec_l1Cur_next (x0 : (List Int)) (x1 : Int) (x2 : Int) : Option (Int × Int × Int) :=
  jn (fun (s1 : Int) => (if (IntKind.wrap .i64 (x1 + 1)) ≤ (x0.length : Int) then some (s1, (IntKind.wrap .i64 (x1 + 1)), (IntKind.wrap .u64 ((IntKind.wrap .u64 ((IntKind.wrap .u64 (x2 * 6364136223846793005)) + (IntKind.wrap .u64 s1))) + 462197))) else some ((IntKind.wrap .i64 (andI .u64 (shrI .u64 (IntKind.wrap .u64 ((IntKind.wrap .u64 ((IntKind.wrap .u64 (x2 * 6364136223846793005)) + (IntKind.wrap .u64 s1))) + 462197)) 40) 255)), (IntKind.wrap .i64 (x1 + 1)), (IntKind.wrap .u64 ((IntKind.wrap .u64 ((IntKind.wrap .u64 (x2 * 6364136223846793005)) + (IntKind.wrap .u64 s1))) + 462197))))) (fun k2 => (if x1 < (x0.length : Int) then if 0 ≤ x1 then k2 (IntKind.wrap .i64 (x0.getD x1.toNat 0)) else none else k2 0))
/-- (*loop.example/g01210/spec.l1Cur).pick -/
def p_spec_l1Cur_pick (x0 : Int) (x1 : (List Int)) (x2 : Int) (x3 : Int) : Option (Int × Int × Int) :=
  (if x0 ≤ 1 then some (0, x2, x3) else (p_spec_l1Cur_next x1 x2 x3).bind (fun r4 => (if 200 < x0 then (p_spec_l1Cur_next x1 r4.2.1 r4.2.2).bind (fun r8 => some (((IntKind.wrap .i64 ((IntKind.wrap .i64 (r4.1 * 256)) + r8.1)).tmod x0), r8.2.1, r8.2.2)) else some ((r4.1.tmod x0), r4.2.1, r4.2.2))))
/-- (*loop.example/g01210/spec.l1Cur).among -/
def p_spec_l1Cur_among (x0 : (List Int)) (x1 : (List Int)) (x2 : Int) (x3 : Int) : Option (Int × Int × Int) :=
  (p_spec_l1Cur_pick (x0.length : Int) x1 x2 x3).bind (fun r1 => if 0 ≤ r1.1 then if r1.1 < (x0.length : Int) then some ((x0.getD r1.1.toNat 0), r1.2.1, r1.2.2) else none else none)
/-- (*loop.example/g01210/spec.l1Cur).one -/
def p_spec_l1Cur_one (x0 : Int) (x1 : (List Int)) (x2 : Int) (x3 : Int) : Option (Bool × Int × Int) :=
  (p_spec_l1Cur_pick x0 x1 x2 x3).bind (fun r1 => some ((decide (r1.1 = 0)), r1.2.1, r1.2.2))
/-- (*loop.example/g01210/spec.l1Cur).face -/
def p_spec_l1Cur_face (x0 : (List Int)) (x1 : Int) (x2 : Int) : Option (Int × Int × Int) :=
  (p_spec_l1Cur_among [1, 2, 3, 4, 5, 6, 6, 0, 8, 9, 4, 3, 30, 12] x0 x1 x2).bind (fun r1 => some (r1.1, r1.2.1, r1.2.2))
/-- loop.example/g01210/spec.l2Sorted -/
def p_spec_l2Sorted (x0 : (List Int)) : (List Int) :=
  cnt (fun i2 (s1 : (List Int)) c3 _ => cnt (fun i9 (s8 : (List Int)) c10 _ => (if (s8.getD (i9 + 1).toNat 0) < (s8.getD i9.toNat 0) then c10 ((s8.set i9.toNat (s8.getD (i9 + 1).toNat 0)).set (i9 + 1).toNat (s8.getD i9.toNat 0)) else c10 s8)) (fun i9 (s8 : (List Int)) => c3 s8) (Int.toNat (5 - 0)) 0 s1) (fun i2 (s1 : (List Int)) => s1) (Int.toNat (6 - 0)) 0 x0
/-- (*loop.example/g01210/spec.l1Cur).die -/
def p_spec_l1Cur_die (x0 : (List Int)) (x1 : Int) (x2 : Int) : Option ((List Int) × Int × Int) :=
  jn (fun (s1 : Int × Int × (List Int)) => (p_spec_l1Cur_pick 50 x0 s1.1 s1.2.1).bind (fun r4 => (if r4.1 = 0 then (p_spec_l1Cur_pick 6 x0 r4.2.1 r4.2.2).bind (fun r8 => (p_spec_l1Cur_among [(-1), 31, 0, 4611686018427387904] x0 r8.2.1 r8.2.2).bind (fun r9 => if 0 ≤ r8.1 then if r8.1 < 6 then some (((p_spec_l2Sorted s1.2.2).set r8.1.toNat r9.1), r9.2.1, r9.2.2) else none else none)) else (if r4.1 = 1 then some (((p_spec_l2Sorted s1.2.2).set 0 30), r4.2.1, r4.2.2) else some ((p_spec_l2Sorted s1.2.2), r4.2.1, r4.2.2))))) (fun k2 => (p_spec_l1Cur_pick 6 x0 x1 x2).bind (fun r15 => (if r15.1 = 0 then some ([1, 2, 3, 4, 5, 6], r15.2.1, r15.2.2) else (if r15.1 = 1 then k2 (r15.2.1, r15.2.2, [1, 2, 2, 3, 3, 4]) else (if r15.1 = 2 then (p_spec_l1Cur_face x0 r15.2.1 r15.2.2).bind (fun r25 => (p_spec_l1Cur_face x0 r25.2.1 r25.2.2).bind (fun r26 => cnt (fun i28 (s27 : Int × Int × (List Int)) c29 _ => (p_spec_l1Cur_one 3 x0 s27.1 s27.2.1).bind (fun r34 => (if r34.1 = true then c29 (r34.2.1, r34.2.2, ((s27.2.2.set i28.toNat r25.1).set i28.toNat r26.1)) else c29 (r34.2.1, r34.2.2, (s27.2.2.set i28.toNat r25.1))))) (fun i28 (s27 : Int × Int × (List Int)) => k2 (s27.1, s27.2.1, s27.2.2)) (Int.toNat (6 - 0)) 0 (r26.2.1, r26.2.2, [1, 2, 3, 4, 5, 6]))) else cnt (fun i37 (s36 : Int × Int × (List Int)) c38 _ => (p_spec_l1Cur_face x0 s36.1 s36.2.1).bind (fun r43 => c38 (r43.2.1, r43.2.2, (s36.2.2.set i37.toNat r43.1)))) (fun i37 (s36 : Int × Int × (List Int)) => k2 (s36.1, s36.2.1, s36.2.2)) (Int.toNat (6 - 0)) 0 (r15.2.1, r15.2.2, [1, 2, 3, 4, 5, 6]))))))
/-- (*loop.example/g01210/spec.l1Cur).little -/
def p_spec_l1Cur_little (x0 : (List Int)) (x1 : Int) (x2 : Int) : Option ((List Int) × Int × Int) :=
  jn (fun (s1 : Int × Int × (List Int)) => (if (s1.2.2.getD 0 0) = 0 then (p_spec_l1Cur_one 6 x0 s1.1 s1.2.1).bind (fun r7 => (if r7.1 = true then some ((p_spec_l2Sorted s1.2.2), r7.2.1, r7.2.2) else some ((p_spec_l2Sorted (s1.2.2.set 0 1)), r7.2.1, r7.2.2))) else some ((p_spec_l2Sorted s1.2.2), s1.1, s1.2.1))) (fun k2 => (p_spec_l1Cur_one 5 x0 x1 x2).bind (fun r9 => (if r9.1 = true then (p_spec_l1Cur_die x0 r9.2.1 r9.2.2).bind (fun r11 => k2 (r11.2.1, r11.2.2, r11.1)) else cnt (fun i13 (s12 : Int × Int × (List Int)) c14 _ => (p_spec_l1Cur_among [3, 6, 2, 4] x0 s12.1 s12.2.1).bind (fun r19 => (p_spec_l1Cur_pick r19.1 x0 r19.2.1 r19.2.2).bind (fun r20 => c14 (r20.2.1, r20.2.2, (s12.2.2.set i13.toNat (IntKind.wrap .i64 (1 + r20.1))))))) (fun i13 (s12 : Int × Int × (List Int)) => k2 (s12.1, s12.2.1, s12.2.2)) (Int.toNat (6 - 0)) 0 (r9.2.1, r9.2.2, (List.replicate 6 0)))))
/-- loop.example/g01210/spec.DrawHoldEnds -/
def p_spec_DrawHoldEnds (x0 : (List Int)) : Option ((List Int) × Int × Int) :=
  (p_spec_l1Cur_among [4, 6, 10, 1, 3, 8, 0, 11] x0 0 0).bind (fun r1 => (p_spec_l1Cur_among [1, 1, 2, 3, 6, 30, 0, 31] x0 r1.2.1 r1.2.2).bind (fun r2 => (p_spec_l1Cur_little x0 r2.2.1 r2.2.2).bind (fun r3 => some (r3.1, r2.1, r1.1))))
/-- loop.example/g01210/impl.within -/
def p_impl_within (x0 : Int) (x1 : Int) (x2 : Int) : Bool :=
  ((decide (x1 ≤ x0)) && (decide (x0 ≤ x2)))
/-- loop.example/g01210/impl.isFace -/
def p_impl_isFace (x0 : Int) : Bool :=
  (p_impl_within x0 0 30)
/-- loop.example/g01210/impl.areAll[int]$1 -/
def p_impl_areAll_int_1 (x0 : Int) : Bool :=
  (!(p_impl_isFace x0))
/-- slices.IndexFunc[[]int,int] -/
def p_slices_IndexFunc_int_int (x0 : (List Int)) : Int :=
  cnt (fun i2 (s1 : Unit) c3 _ => (if (p_impl_areAll_int_1 (x0.getD i2.toNat 0)) = true then i2 else c3 ())) (fun i2 (s1 : Unit) => (-1)) (Int.toNat ((x0.length : Int) - 0)) 0 ()
/-- slices.ContainsFunc[[]int,int] -/
def p_slices_ContainsFunc_int_int (x0 : (List Int)) : Bool :=
  (decide (0 ≤ (p_slices_IndexFunc_int_int x0)))
/-- loop.example/g01210/impl.areAll[int] -/
def p_impl_areAll_int (x0 : (List Int)) : Bool :=
  (!(p_slices_ContainsFunc_int_int x0))
/-- cmp.isNaN[int] -/
def p_cmp_isNaN_int (x0 : Int) : Bool :=
  (!(decide (x0 = x0)))
/-- cmp.Less[int] -/
def p_cmp_Less_int (x0 : Int) (x1 : Int) : Bool :=
  (((p_cmp_isNaN_int x0) && (!(p_cmp_isNaN_int x1))) || (decide (x0 < x1)))
/-- slices.IsSorted[[]int,int] -/
def p_slices_IsSorted_int_int (x0 : (List Int)) : Bool :=
  cntd (fun i2 (s1 : Unit) c3 _ => (if (p_cmp_Less_int (x0.getD i2.toNat 0) (x0.getD (i2 - 1).toNat 0)) = true then false else c3 ())) (fun i2 (s1 : Unit) => true) (Int.toNat (((x0.length : Int) - 1) - 0)) ((x0.length : Int) - 1) ()
/-- loop.example/g01210/impl.IsDie -/
def p_impl_IsDie (x0 : (List Int)) : Bool :=
  ((p_impl_areAll_int x0) && (p_slices_IsSorted_int_int x0))
/-- loop.example/g01210/impl.isRunner -/
def p_impl_isRunner (x0 : (List Int)) : Bool :=
  ((p_impl_IsDie x0) && (decide (0 < (x0.getD 0 0))))
/-- loop.example/g01210/impl.isTurn -/
def p_impl_isTurn (x0 : (List Int)) (x1 : Int) (x2 : Int) : Bool :=
  (((p_impl_isRunner x0) && (p_impl_within x1 1 30)) && (p_impl_within x2 1 10))
/-- loop.example/g01210/impl.power -/
def p_impl_power (fu : Nat) (x0 : Int) : Option (Int) :=
  whl (fun (s1 : Int × Int) c3 => (if s1.2 < x0 then c3 ((IntKind.wrap .i64 (s1.1 * 6)), (IntKind.wrap .i64 (s1.2 + 1))) else some s1.1)) fu (1, 0)
/-- loop.example/g01210/impl.ends -/
def p_impl_ends (fu : Nat) (x0 : (List Int)) (x1 : Int) (x2 : Int) : Option ((List Int)) :=
  if 0 ≤ (IntKind.wrap .i64 (x2 + 30)) then if (IntKind.wrap .i64 (x2 + 30)) ≤ 1000000000 then if 0 ≤ x2 then if x2 ≤ 1000000000 then if 0 < x2 then whl (fun (s6 : Int × (List Int) × (List Int)) c8 => (if s6.1 ≤ x2 then cnt (fun i14 (s13 : (List Int) × (List Int)) c15 _ => cnt (fun i21 (s20 : (List Int) × (List Int)) c22 _ => (if (x0.getD i21.toNat 0) = x1 then if 0 < (IntKind.wrap .i64 (x2 + 30)) then (p_impl_power fu (x2 - s6.1)).bind (fun r31 => c22 ((s20.1.set 0 (IntKind.wrap .i64 ((s20.1.getD 0 0) + (IntKind.wrap .i64 ((s6.2.2.getD i14.toNat 0) * r31))))), s20.2)) else none else (if x2 ≤ (IntKind.wrap .i64 (i14 + (x0.getD i21.toNat 0))) then if (IntKind.wrap .i64 (i14 + (x0.getD i21.toNat 0))) < (IntKind.wrap .i64 (x2 + 30)) then (p_impl_power fu (x2 - s6.1)).bind (fun r36 => c22 ((s20.1.set (IntKind.wrap .i64 (i14 + (x0.getD i21.toNat 0))).toNat (IntKind.wrap .i64 ((s20.1.getD (IntKind.wrap .i64 (i14 + (x0.getD i21.toNat 0))).toNat 0) + (IntKind.wrap .i64 ((s6.2.2.getD i14.toNat 0) * r36))))), s20.2)) else none else if 0 ≤ (IntKind.wrap .i64 (i14 + (x0.getD i21.toNat 0))) then c22 (s20.1, (s20.2.set (IntKind.wrap .i64 (i14 + (x0.getD i21.toNat 0))).toNat (IntKind.wrap .i64 ((s20.2.getD (IntKind.wrap .i64 (i14 + (x0.getD i21.toNat 0))).toNat 0) + (s6.2.2.getD i14.toNat 0))))) else none))) (fun i21 (s20 : (List Int) × (List Int)) => c15 (s20.1, s20.2)) (Int.toNat (6 - 0)) 0 (s13.1, s13.2)) (fun i14 (s13 : (List Int) × (List Int)) => c8 ((s6.1 + 1), s13.1, s13.2)) (Int.toNat (x2 - 0)) 0 (s6.2.1, (List.replicate x2.toNat 0)) else some s6.2.1)) fu (1, (List.replicate (IntKind.wrap .i64 (x2 + 30)).toNat 0), ((List.replicate x2.toNat 0).set 0 1)) else none else none else none else none else none
/-- loop.example/g01210/impl.fraction -/
def p_impl_fraction (fu : Nat) (x0 : Int) (x1 : Int) : Option ((List Int)) :=
  whl (fun (s1 : Int × Int) c3 => (if s1.2 = 0 then if s1.1 ≠ 0 then if s1.1 ≠ 0 then some [(IntKind.wrap .i64 (x0.tdiv s1.1)), (IntKind.wrap .i64 (x1.tdiv s1.1))] else none else none else if s1.2 ≠ 0 then c3 (s1.2, (s1.1.tmod s1.2)) else none)) fu (x0, x1)
/-- loop.example/g01210/impl.HoldEnds -/
def p_impl_HoldEnds (fu : Nat) (x0 : (List Int)) (x1 : Int) (x2 : Int) : Option ((List (Int × ((List Int) × Unit))) × Bool) :=
  (if (p_impl_isTurn x0 x1 x2) = true then (p_impl_ends fu x0 x1 x2).bind (fun r2 => cnt (fun i5 (s4 : (List (Int × ((List Int) × Unit)))) c6 _ => (if 0 < (r2.getD i5.toNat 0) then (p_impl_power fu x2).bind (fun r14 => (p_impl_fraction fu (r2.getD i5.toNat 0) r14).bind (fun r15 => if (s4.length : Int) + 1 ≤ 1000000000 then c6 (s4 ++ [(i5, (r15, ()))]) else none)) else c6 s4)) (fun i5 (s4 : (List (Int × ((List Int) × Unit)))) => some (s4, true)) (Int.toNat ((r2.length : Int) - 0)) 0 []) else some ([], false))
/-- loop.example/g01210/spec.l1In -/
def p_spec_l1In (x0 : Int) (x1 : Int) (x2 : Int) : Bool :=
  ((decide (x1 ≤ x0)) && (decide (x0 ≤ x2)))
/-- loop.example/g01210/spec.l2Die -/
def p_spec_l2Die (x0 : (List Int)) : Option (Bool) :=
  cnt (fun i2 (s1 : Unit) c3 _ => (if ((!(p_spec_l1In (x0.getD i2.toNat 0) 0 30)) || ((decide (0 < i2)) && (decide ((x0.getD i2.toNat 0) < (x0.getD (i2 - 1).toNat 0))))) = true then some false else c3 ())) (fun i2 (s1 : Unit) => some true) (Int.toNat (6 - 0)) 0 ()
/-- loop.example/g01210/spec.l7Die -/
def p_spec_l7Die (x0 : (List Int)) : Option (Bool) :=
  (p_spec_l2Die x0).bind (fun r1 => some (r1 && (decide (0 < (x0.getD 0 0)))))
/-- loop.example/g01210/spec.l7Turn -/
def p_spec_l7Turn (x0 : (List Int)) (x1 : Int) (x2 : Int) : Option (Bool) :=
  (p_spec_l7Die x0).bind (fun r1 => some ((r1 && (p_spec_l1In x1 1 30)) && (p_spec_l1In x2 1 10)))
/-- loop.example/g01210/spec.l2All -/
def p_spec_l2All (fu : Nat) (x0 : Int) : Option (Int) :=
  whl (fun (s1 : Int × Int) c3 => (if s1.2 < x0 then c3 ((IntKind.wrap .i64 (s1.1 * 6)), (IntKind.wrap .i64 (s1.2 + 1))) else some s1.1)) fu (1, 0)
/-- loop.example/g01210/spec.l7Ends -/
def p_spec_l7Ends (fu : Nat) (x0 : (List Int)) (x1 : Int) (x2 : Int) : Option ((List Int)) :=
  if 0 ≤ x2 then if x2 ≤ 1000000000 then if 0 < x2 then whl (fun (s13 : Int × (List Int) × (List Int)) c15 => (if s13.1 ≤ x2 then cnt (fun i21 (s20 : (List Int) × (List Int)) c22 _ => cnt (fun i28 (s27 : (List Int) × (List Int)) c29 _ => (if (x0.getD i28.toNat 0) = x1 then (p_spec_l2All fu (x2 - s13.1)).bind (fun r37 => c29 ((s27.1.set 0 (IntKind.wrap .i64 ((s27.1.getD 0 0) + (IntKind.wrap .i64 ((s13.2.2.getD i21.toNat 0) * r37))))), s27.2)) else (if x2 ≤ (IntKind.wrap .i64 (i21 + (x0.getD i28.toNat 0))) then if (IntKind.wrap .i64 (i21 + (x0.getD i28.toNat 0))) < 41 then (p_spec_l2All fu (x2 - s13.1)).bind (fun r42 => c29 ((s27.1.set (IntKind.wrap .i64 (i21 + (x0.getD i28.toNat 0))).toNat (IntKind.wrap .i64 ((s27.1.getD (IntKind.wrap .i64 (i21 + (x0.getD i28.toNat 0))).toNat 0) + (IntKind.wrap .i64 ((s13.2.2.getD i21.toNat 0) * r42))))), s27.2)) else none else if 0 ≤ (IntKind.wrap .i64 (i21 + (x0.getD i28.toNat 0))) then c29 (s27.1, (s27.2.set (IntKind.wrap .i64 (i21 + (x0.getD i28.toNat 0))).toNat (IntKind.wrap .i64 ((s27.2.getD (IntKind.wrap .i64 (i21 + (x0.getD i28.toNat 0))).toNat 0) + (s13.2.2.getD i21.toNat 0))))) else none))) (fun i28 (s27 : (List Int) × (List Int)) => c22 (s27.1, s27.2)) (Int.toNat (6 - 0)) 0 (s20.1, s20.2)) (fun i21 (s20 : (List Int) × (List Int)) => c15 ((s13.1 + 1), s20.1, s20.2)) (Int.toNat (x2 - 0)) 0 (s13.2.1, (List.replicate x2.toNat 0)) else some s13.2.1)) fu (1, (List.replicate 41 0), ((List.replicate x2.toNat 0).set 0 1)) else none else none else none
/-- loop.example/g01210/spec.l1Most -/
def p_spec_l1Most (x0 : Int) (x1 : Int) : Int :=
  (if x1 < x0 then x0 else x1)
/-- loop.example/g01210/spec.l2Cut -/
def p_spec_l2Cut (fu : Nat) (x0 : Int) (x1 : Int) : Option ((List Int)) :=
  whl (fun (s1 : Int × Int) c3 => (if 0 < s1.2 then c3 (s1.2, (s1.1.tmod s1.2)) else if (p_spec_l1Most s1.1 1) ≠ 0 then if (p_spec_l1Most s1.1 1) ≠ 0 then some [(IntKind.wrap .i64 (x0.tdiv (p_spec_l1Most s1.1 1))), (IntKind.wrap .i64 (x1.tdiv (p_spec_l1Most s1.1 1)))] else none else none)) fu (x0, x1)
/-- loop.example/g01210/spec.HoldEnds -/
def p_spec_HoldEnds (fu : Nat) (x0 : (List Int)) (x1 : Int) (x2 : Int) : Option ((List (Int × ((List Int) × Unit))) × Bool) :=
  (p_spec_l7Turn x0 x1 x2).bind (fun r1 => (if r1 = true then (p_spec_l7Ends fu x0 x1 x2).bind (fun r3 => cnt (fun i5 (s4 : (List (Int × ((List Int) × Unit)))) c6 _ => (if 0 < (r3.getD i5.toNat 0) then (p_spec_l2All fu x2).bind (fun r14 => (p_spec_l2Cut fu (r3.getD i5.toNat 0) r14).bind (fun r15 => if (s4.length : Int) + 1 ≤ 1000000000 then c6 (s4 ++ [(i5, (r15, ()))]) else none)) else c6 s4)) (fun i5 (s4 : (List (Int × ((List Int) × Unit)))) => some (s4, true)) (Int.toNat (41 - 0)) 0 []) else some ([], false)))
/-- loop.example/g01210/impl.holdMean -/
def p_impl_holdMean (fu : Nat) (x0 : (List Int)) (x1 : Int) (x2 : Int) : Option (Int) :=
  (p_impl_ends fu x0 x1 x2).bind (fun r1 => cnt (fun i4 (s3 : Int) c5 _ => c5 (IntKind.wrap .i64 (s3 + (IntKind.wrap .i64 (i4 * (r1.getD i4.toNat 0)))))) (fun i4 (s3 : Int) => some s3) (Int.toNat ((r1.length : Int) - 0)) 0 0)
/-- loop.example/g01210/impl.HoldMean -/
def p_impl_HoldMean (fu : Nat) (x0 : (List Int)) (x1 : Int) (x2 : Int) : Option ((List Int) × Bool) :=
  (if (p_impl_isTurn x0 x1 x2) = true then (p_impl_holdMean fu x0 x1 x2).bind (fun r2 => (p_impl_power fu x2).bind (fun r3 => (p_impl_fraction fu r2 r3).bind (fun r4 => some (r4, true)))) else some ((List.replicate 2 0), false))
/-- loop.example/g01210/spec.l7HoldMean -/
def p_spec_l7HoldMean (fu : Nat) (x0 : (List Int)) (x1 : Int) (x2 : Int) : Option ((List Int)) :=
  (p_spec_l7Ends fu x0 x1 x2).bind (fun r1 => cnt (fun i3 (s2 : Int) c4 _ => c4 (IntKind.wrap .i64 (s2 + (IntKind.wrap .i64 (i3 * (r1.getD i3.toNat 0)))))) (fun i3 (s2 : Int) => (p_spec_l2All fu x2).bind (fun r9 => (p_spec_l2Cut fu s2 r9).bind (fun r10 => some r10))) (Int.toNat (41 - 0)) 0 0)
/-- loop.example/g01210/spec.HoldMean -/
def p_spec_HoldMean (fu : Nat) (x0 : (List Int)) (x1 : Int) (x2 : Int) : Option ((List Int) × Bool) :=
  (p_spec_l7Turn x0 x1 x2).bind (fun r1 => (if r1 = true then (p_spec_l7HoldMean fu x0 x1 x2).bind (fun r3 => some (r3, true)) else some ((List.replicate 2 0), false)))
/-- loop.example/g01210/impl.BustChance -/
def p_impl_BustChance (fu : Nat) (x0 : (List Int)) (x1 : Int) (x2 : Int) : Option ((List Int) × Bool) :=
  (if (p_impl_isTurn x0 x1 x2) = true then (p_impl_ends fu x0 x1 x2).bind (fun r2 => if 0 < (r2.length : Int) then (p_impl_power fu x2).bind (fun r5 => (p_impl_fraction fu (r2.getD 0 0) r5).bind (fun r6 => some (r6, true))) else none) else some ((List.replicate 2 0), false))
/-- loop.example/g01210/spec.BustChance -/
def p_spec_BustChance (fu : Nat) (x0 : (List Int)) (x1 : Int) (x2 : Int) : Option ((List Int) × Bool) :=
  (p_spec_l7Turn x0 x1 x2).bind (fun r1 => (if r1 = true then (p_spec_l7Ends fu x0 x1 x2).bind (fun r3 => (p_spec_l2All fu x2).bind (fun r4 => (p_spec_l2Cut fu (r3.getD 0 0) r4).bind (fun r5 => some (r5, true)))) else some ((List.replicate 2 0), false)))
/-- loop.example/g01210/spec.DrawBestHold -/
def p_spec_DrawBestHold (x0 : (List Int)) : Option ((List Int) × Int) :=
  (p_spec_DrawHoldEnds x0).bind (fun r1 => some (r1.1, r1.2.1))
/-- loop.example/g01210/impl.BestHold -/
def p_impl_BestHold (fu : Nat) (x0 : (List Int)) (x1 : Int) : Option (Int × (List Int) × Bool) :=
  (if (p_impl_isTurn x0 x1 1) = true then whl (fun (s2 : Int × Int × Int) c4 => (if s2.2.2 ≤ 10 then (p_impl_holdMean fu x0 x1 s2.2.2).bind (fun r9 => (p_impl_power fu (10 - s2.2.2)).bind (fun r10 => (if s2.2.1 < (IntKind.wrap .i64 (r9 * r10)) then c4 (s2.2.2, (IntKind.wrap .i64 (r9 * r10)), (s2.2.2 + 1)) else c4 (s2.1, s2.2.1, (s2.2.2 + 1))))) else (p_impl_power fu 10).bind (fun r14 => (p_impl_fraction fu s2.2.1 r14).bind (fun r15 => some (s2.1, r15, true))))) fu (1, (-1), 1) else some (0, (List.replicate 2 0), false))
/-- loop.example/g01210/spec.l2Less -/
def p_spec_l2Less (x0 : (List Int)) (x1 : (List Int)) : Bool :=
  (decide ((IntKind.wrap .i64 ((x0.getD 0 0) * (x1.getD 1 0))) < (IntKind.wrap .i64 ((x1.getD 0 0) * (x0.getD 1 0)))))
/-- loop.example/g01210/spec.BestHold -/
def p_spec_BestHold (fu : Nat) (x0 : (List Int)) (x1 : Int) : Option (Int × (List Int) × Bool) :=
  (p_spec_l7Turn x0 x1 1).bind (fun r1 => (if r1 = true then (p_spec_l7HoldMean fu x0 x1 1).bind (fun r3 => whl (fun (s4 : Int × Int × (List Int)) c6 => (if s4.2.1 ≤ 10 then (p_spec_l7HoldMean fu x0 x1 s4.2.1).bind (fun r11 => (if (p_spec_l2Less s4.2.2 r11) = true then c6 (s4.2.1, (s4.2.1 + 1), r11) else c6 (s4.1, (s4.2.1 + 1), s4.2.2))) else some (s4.1, s4.2.2, true))) fu (1, 2, r3)) else some (0, (List.replicate 2 0), false)))
/-- (*loop.example/g01210/spec.l1Cur).places -/
def p_spec_l1Cur_places (fu : Nat) (x0 : (List Int)) (x1 : Int) (x2 : Int) : Option ((List Int) × Int × Int) :=
  (p_spec_l1Cur_among [4, 8, 2, 1, 0, 12] x0 x1 x2).bind (fun r1 => whl (fun (s2 : Int × Int × Int × (List Int)) c4 => (if 0 < s2.1 then (p_spec_l1Cur_pick 6 x0 s2.2.1 s2.2.2.1).bind (fun r9 => if (s2.2.2.2.length : Int) + 1 ≤ 1000000000 then c4 ((IntKind.wrap .i64 (s2.1 - 1)), r9.2.1, r9.2.2, (s2.2.2.2 ++ [r9.1])) else none) else (if 0 < (s2.2.2.2.length : Int) then (p_spec_l1Cur_one 16 x0 s2.2.1 s2.2.2.1).bind (fun r14 => (if r14.1 = true then (p_spec_l1Cur_pick (s2.2.2.2.length : Int) x0 r14.2.1 r14.2.2).bind (fun r16 => (p_spec_l1Cur_among [(-1), 6, 4611686018427387904] x0 r16.2.1 r16.2.2).bind (fun r17 => if 0 ≤ r16.1 then if r16.1 < (s2.2.2.2.length : Int) then some ((s2.2.2.2.set r16.1.toNat r17.1), r17.2.1, r17.2.2) else none else none)) else some (s2.2.2.2, r14.2.1, r14.2.2))) else some (s2.2.2.2, s2.2.1, s2.2.2.1)))) fu (r1.1, r1.2.1, r1.2.2, []))
/-- loop.example/g01210/spec.DrawPlayTurn -/
def p_spec_DrawPlayTurn (fu : Nat) (x0 : (List Int)) : Option ((List Int) × Int × Int × (List Int)) :=
  (p_spec_l1Cur_places fu x0 0 0).bind (fun r1 => (p_spec_DrawHoldEnds x0).bind (fun r3 => some (r3.1, r3.2.1, r3.2.2, r1.1)))
/-- loop.example/g01210/impl.isSide -/
def p_impl_isSide (x0 : Int) : Bool :=
  (p_impl_within x0 0 5)
/-- loop.example/g01210/impl.PlayTurn -/
def p_impl_PlayTurn (x0 : (List Int)) (x1 : Int) (x2 : Int) (x3 : (List Int)) : Option (Int × Int × Bool × Bool) :=
  (if (p_impl_isTurn x0 x1 x2) = true then cnt (fun i3 (s2 : Int) c4 _ => (if (p_impl_isSide (x3.getD i3.toNat 0)) = true then if 0 ≤ (x3.getD i3.toNat 0) then if (x3.getD i3.toNat 0) < 6 then (if (x0.getD (x3.getD i3.toNat 0).toNat 0) = x1 then some (0, (i3 + 1), true, true) else (if x2 ≤ (IntKind.wrap .i64 (s2 + (x0.getD (x3.getD i3.toNat 0).toNat 0))) then some ((IntKind.wrap .i64 (s2 + (x0.getD (x3.getD i3.toNat 0).toNat 0))), (i3 + 1), true, true) else c4 (IntKind.wrap .i64 (s2 + (x0.getD (x3.getD i3.toNat 0).toNat 0))))) else none else none else some (0, 0, false, false))) (fun i3 (s2 : Int) => some (s2, (x3.length : Int), false, true)) (Int.toNat ((x3.length : Int) - 0)) 0 0 else some (0, 0, false, false))
/-- loop.example/g01210/spec.PlayTurn -/
def p_spec_PlayTurn (x0 : (List Int)) (x1 : Int) (x2 : Int) (x3 : (List Int)) : Option (Int × Int × Bool × Bool) :=
  (p_spec_l7Turn x0 x1 x2).bind (fun r1 => (if r1 = true then cnt (fun i4 (s3 : Int) c5 _ => (if (p_spec_l1In (x3.getD i4.toNat 0) 0 5) = true then if 0 ≤ (x3.getD i4.toNat 0) then if (x3.getD i4.toNat 0) < 6 then (if (x0.getD (x3.getD i4.toNat 0).toNat 0) = x1 then some (0, (i4 + 1), true, true) else (if x2 ≤ (IntKind.wrap .i64 (s3 + (x0.getD (x3.getD i4.toNat 0).toNat 0))) then some ((IntKind.wrap .i64 (s3 + (x0.getD (x3.getD i4.toNat 0).toNat 0))), (i4 + 1), true, true) else c5 (IntKind.wrap .i64 (s3 + (x0.getD (x3.getD i4.toNat 0).toNat 0))))) else none else none else some (0, 0, false, false))) (fun i4 (s3 : Int) => some (s3, (x3.length : Int), false, true)) (Int.toNat ((x3.length : Int) - 0)) 0 0 else some (0, 0, false, false)))
/-- (*loop.example/g01210/spec.l1Cur).goal -/
def p_spec_l1Cur_goal (x0 : (List Int)) (x1 : Int) (x2 : Int) : Option (Int × Int × Int) :=
  (p_spec_l1Cur_among [3, 5, 8, 1, 6, 2, 4, 7, 0, 9] x0 x1 x2).bind (fun r1 => some (r1.1, r1.2.1, r1.2.2))
/-- loop.example/g01210/spec.DrawFirstWins -/
def p_spec_DrawFirstWins (x0 : (List Int)) : Option ((List Int) × (List Int) × Int) :=
  (p_spec_l1Cur_goal x0 0 0).bind (fun r1 => (p_spec_l1Cur_little x0 r1.2.1 r1.2.2).bind (fun r2 => (p_spec_l1Cur_one 4 x0 r2.2.1 r2.2.2).bind (fun r3 => (if r3.1 = true then some (r2.1, r2.1, r1.1) else (p_spec_l1Cur_little x0 r3.2.1 r3.2.2).bind (fun r11 => some (r2.1, r11.1, r1.1))))))
/-- loop.example/g01210/spec.DrawPlayRace -/
def p_spec_DrawPlayRace (fu : Nat) (x0 : (List Int)) : Option ((List Int) × (List Int) × Int × (List Int)) :=
  (p_spec_l1Cur_places fu x0 0 0).bind (fun r1 => (p_spec_DrawFirstWins x0).bind (fun r3 => some (r3.1, r3.2.1, r3.2.2, r1.1)))
/-- loop.example/g01210/impl.isGoal -/
def p_impl_isGoal (x0 : Int) : Bool :=
  (p_impl_within x0 1 8)
/-- loop.example/g01210/impl.PlayRace -/
def p_impl_PlayRace (x0 : (List Int)) (x1 : (List Int)) (x2 : Int) (x3 : (List Int)) : Option (Int × Int × Bool) :=
  (if (((!(p_impl_isRunner x0)) || (!(p_impl_isRunner x1))) || (!(p_impl_isGoal x2))) = true then some (0, 0, false) else cnt (fun i19 (s18 : (List Int)) c20 _ => (if (p_impl_isSide (x3.getD i19.toNat 0)) = true then jn (fun (s26 : (List Int)) => if 0 ≤ (i19.tmod 2) then if (i19.tmod 2) < 2 then if 0 ≤ (x3.getD i19.toNat 0) then if (x3.getD i19.toNat 0) < 6 then (if x2 ≤ ((s18.set (i19.tmod 2).toNat (IntKind.wrap .i64 ((s18.getD (i19.tmod 2).toNat 0) + (s26.getD (x3.getD i19.toNat 0).toNat 0)))).getD (i19.tmod 2).toNat 0) then some (((i19.tmod 2) + 1), (i19 + 1), true) else c20 (s18.set (i19.tmod 2).toNat (IntKind.wrap .i64 ((s18.getD (i19.tmod 2).toNat 0) + (s26.getD (x3.getD i19.toNat 0).toNat 0))))) else none else none else none else none) (fun k27 => (if (i19.tmod 2) = 1 then k27 x1 else k27 x0)) else some (0, 0, false))) (fun i19 (s18 : (List Int)) => some (0, (x3.length : Int), true)) (Int.toNat ((x3.length : Int) - 0)) 0 (List.replicate 2 0))
/-- loop.example/g01210/spec.l7Goal -/
def p_spec_l7Goal (x0 : Int) : Bool :=
  (p_spec_l1In x0 1 8)
/-- loop.example/g01210/spec.PlayRace -/
def p_spec_PlayRace (x0 : (List Int)) (x1 : (List Int)) (x2 : Int) (x3 : (List Int)) : Option (Int × Int × Bool) :=
  (p_spec_l7Die x0).bind (fun r1 => if ((!(!r1)) = true → (p_spec_l7Die x1).isSome = true) then (if (((!r1) || (!((p_spec_l7Die x1).getD false))) || (!(p_spec_l7Goal x2))) = true then some (0, 0, false) else cnt (fun i21 (s20 : (List Int)) c22 _ => (if (p_spec_l1In (x3.getD i21.toNat 0) 0 5) = true then if 0 ≤ (x3.getD i21.toNat 0) then if (x3.getD i21.toNat 0) < 6 then jn (fun (s30 : Int) => if 0 ≤ (i21.tmod 2) then if (i21.tmod 2) < 2 then (if x2 ≤ ((s20.set (i21.tmod 2).toNat (IntKind.wrap .i64 ((s20.getD (i21.tmod 2).toNat 0) + s30))).getD (i21.tmod 2).toNat 0) then some (((i21.tmod 2) + 1), (i21 + 1), true) else c22 (s20.set (i21.tmod 2).toNat (IntKind.wrap .i64 ((s20.getD (i21.tmod 2).toNat 0) + s30)))) else none else none) (fun k31 => (if (i21.tmod 2) = 1 then k31 (x1.getD (x3.getD i21.toNat 0).toNat 0) else k31 (x0.getD (x3.getD i21.toNat 0).toNat 0))) else none else none else some (0, 0, false))) (fun i21 (s20 : (List Int)) => some (0, (x3.length : Int), true)) (Int.toNat ((x3.length : Int) - 0)) 0 (List.replicate 2 0)) else none)
/-- loop.example/g01210/laws.rPlus -/
def p_laws_rPlus (fu : Nat) (x0 : (List Int)) (x1 : (List Int)) : Option ((List Int)) :=
  whl (fun (s1 : Int × Int) c3 => (if 0 < s1.2 then c3 (s1.2, (s1.1.tmod s1.2)) else jn (fun (s8 : Int) => if s8 ≠ 0 then if s8 ≠ 0 then some [(IntKind.wrap .i64 ((IntKind.wrap .i64 ((IntKind.wrap .i64 ((x0.getD 0 0) * (x1.getD 1 0))) + (IntKind.wrap .i64 ((x1.getD 0 0) * (x0.getD 1 0))))).tdiv s8)), (IntKind.wrap .i64 ((IntKind.wrap .i64 ((x0.getD 1 0) * (x1.getD 1 0))).tdiv s8))] else none else none) (fun k9 => (if s1.1 < 1 then k9 1 else k9 s1.1)))) fu ((IntKind.wrap .i64 ((IntKind.wrap .i64 ((x0.getD 0 0) * (x1.getD 1 0))) + (IntKind.wrap .i64 ((x1.getD 0 0) * (x0.getD 1 0))))), (IntKind.wrap .i64 ((x0.getD 1 0) * (x1.getD 1 0))))
/-- loop.example/g01210/laws.FnHolds -/
def p_laws_FnHolds (fu : Nat) (x0 : (List Int)) : Option (Bool) :=
  (if (p_laws_rBig x0) = true then some true else (p_spec_DrawHoldEnds x0).bind (fun r2 => (p_impl_HoldEnds fu r2.1 r2.2.1 r2.2.2).bind (fun r3 => (p_spec_HoldEnds fu r2.1 r2.2.1 r2.2.2).bind (fun r5 => (if ((r3.2 != r5.2) || (!(decide ((r3.1.length : Int) = (r5.1.length : Int))))) = true then some false else (p_impl_HoldMean fu r2.1 r2.2.1 r2.2.2).bind (fun r16 => (p_spec_HoldMean fu r2.1 r2.2.1 r2.2.2).bind (fun r17 => (if (((!(decide (r16.1 = r17.1))) || (r16.2 != r17.2)) || (r16.2 != r3.2)) = true then some false else (p_impl_BustChance fu r2.1 r2.2.1 r2.2.2).bind (fun r35 => (p_spec_BustChance fu r2.1 r2.2.1 r2.2.2).bind (fun r36 => (if (((!(decide (r35.1 = r36.1))) || (r35.2 != r36.2)) || (r35.2 != r3.2)) = true then some false else (p_spec_DrawBestHold x0).bind (fun r54 => (p_impl_BestHold fu r54.1 r54.2).bind (fun r55 => (p_spec_BestHold fu r54.1 r54.2).bind (fun r56 => (if (((!(decide (r55.1 = r56.1))) || (!(decide (r55.2.1 = r56.2.1)))) || (r55.2.2 != r56.2.2)) = true then some false else (p_spec_DrawPlayTurn fu x0).bind (fun r81 => (p_impl_PlayTurn r81.1 r81.2.1 r81.2.2.1 r81.2.2.2).bind (fun r83 => (p_spec_PlayTurn r81.1 r81.2.1 r81.2.2.1 r81.2.2.2).bind (fun r84 => (if ((((!(decide (r83.1 = r84.1))) || (!(decide (r83.2.1 = r84.2.1)))) || (r83.2.2.1 != r84.2.2.1)) || (r83.2.2.2 != r84.2.2.2)) = true then some false else (p_spec_DrawPlayRace fu x0).bind (fun r136 => (p_impl_PlayRace r136.1 r136.2.1 r136.2.2.1 r136.2.2.2).bind (fun r138 => (p_spec_PlayRace r136.1 r136.2.1 r136.2.2.1 r136.2.2.2).bind (fun r139 => (if ((((!(decide (r138.1 = r139.1))) || (!(decide (r138.2.1 = r139.2.1)))) || (r138.2.2 != r139.2.2)) || ((r138.2.2 && (decide (0 < r138.1))) && (!(decide ((r138.2.1.tmod 2) = (r138.1.tmod 2)))))) = true then some false else jn (fun (s283 : Unit) => jn (fun (s286 : Unit) => (if r3.2 = true then cnt (fun i291 (s290 : (List Int) × (List Int) × (List Int)) c292 _ => (if (((!(eqT (.pair (.int .i64) (.pair (.arr 2 (.int .i64)) .unit)) ((r3.1.getD i291.toNat (0, ((List.replicate 2 0), ()))) : (Int × ((List Int) × Unit))) ((r5.1.getD i291.toNat (0, ((List.replicate 2 0), ()))) : (Int × ((List Int) × Unit))))) || ((decide (0 < i291)) && (decide ((r3.1.getD i291.toNat (0, ((List.replicate 2 0), ()))).1 ≤ (r3.1.getD (i291 - 1).toNat (0, ((List.replicate 2 0), ()))).1)))) || ((decide (0 < (r3.1.getD i291.toNat (0, ((List.replicate 2 0), ()))).1)) && (decide ((r3.1.getD i291.toNat (0, ((List.replicate 2 0), ()))).1 < r2.2.2)))) = true then some false else (p_laws_rPlus fu s290.1 ((r3.1.getD i291.toNat (0, ((List.replicate 2 0), ()))).2.1)).bind (fun r420 => (p_laws_rPlus fu s290.2.1 [(IntKind.wrap .i64 (((r3.1.getD i291.toNat (0, ((List.replicate 2 0), ()))).1) * ((r3.1.getD i291.toNat (0, ((List.replicate 2 0), ()))).2.1.getD 0 0))), ((r3.1.getD i291.toNat (0, ((List.replicate 2 0), ()))).2.1.getD 1 0)]).bind (fun r421 => (if (r3.1.getD i291.toNat (0, ((List.replicate 2 0), ()))).1 = 0 then c292 (r420, r421, (r3.1.getD i291.toNat (0, ((List.replicate 2 0), ()))).2.1) else c292 (r420, r421, s290.2.2)))))) (fun i291 (s290 : (List Int) × (List Int) × (List Int)) => some (((decide (s290.1 = [1, 1])) && (decide (s290.2.1 = r16.1))) && (decide (s290.2.2 = r35.1)))) (Int.toNat ((r3.1.length : Int) - 0)) 0 ([0, 1], [0, 1], [0, 1]) else some true)) (fun k287 => (if r55.2.2 = true then whl (fun (s438 : Int) c440 => (if s438 ≤ 10 then (p_impl_HoldMean fu r54.1 r54.2 s438).bind (fun r445 => (if (((!r445.2) || (decide ((IntKind.wrap .i64 ((r55.2.1.getD 0 0) * (r445.1.getD 1 0))) < (IntKind.wrap .i64 ((r445.1.getD 0 0) * (r55.2.1.getD 1 0)))))) || ((decide (s438 = r55.1)) && (!(decide (r445.1 = r55.2.1))))) = true then some false else c440 (s438 + 1))) else k287 ())) fu 1 else k287 ()))) (fun k284 => (if (r83.2.2.2 && r83.2.2.1) = true then (p_impl_HoldEnds fu r81.1 r81.2.1 r81.2.2.1).bind (fun r508 => cnt (fun i511 (s510 : Bool) c512 _ => c512 (s510 || (decide ((r508.1.getD i511.toNat (0, ((List.replicate 2 0), ()))).1 = r83.1)))) (fun i511 (s510 : Bool) => (if ((!r508.2) || (!s510)) = true then some false else k284 ())) (Int.toNat ((r508.1.length : Int) - 0)) 0 false) else k284 ())))))))))))))))))))))))))
end Go.GA
