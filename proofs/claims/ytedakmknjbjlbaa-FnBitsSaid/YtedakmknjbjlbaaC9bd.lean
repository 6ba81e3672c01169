/- Walks: what the Go functions compute, by the printed lines below; no further conditions. -/
import Derived.Test.YtedakmknjbjlbaaGaD
namespace Go.GA
open Go
set_option maxRecDepth 100000
set_option maxHeartbeats 2000000
set_option linter.unusedVariables false
set_option linter.unusedSimpArgs false
/-- loop.example/g01210/laws.rBig -/
def p_laws_rBig (x0 : (List Int)) : Bool :=
  (decide (65536 < (x0.length : Int)))
/-- (*loop.example/g01210/spec.l1Cur).next -/
def p_spec_l1Cur_next (x0 : (List Int)) (x1 : Int) (x2 : Int) : Option (Int × Int × Int) :=
  jn (fun (s1 : Int) => (if (IntKind.wrap .i64 (x1 + 1)) ≤ (x0.length : Int) then some (s1, (IntKind.wrap .i64 (x1 + 1)), (IntKind.wrap .u64 ((IntKind.wrap .u64 ((IntKind.wrap .u64 (x2 * 6364136223846793005)) + (IntKind.wrap .u64 s1))) + 462197))) else some ((IntKind.wrap .i64 (andI .u64 (shrI .u64 (IntKind.wrap .u64 ((IntKind.wrap .u64 ((IntKind.wrap .u64 (x2 * 6364136223846793005)) + (IntKind.wrap .u64 s1))) + 462197)) 40) 255)), (IntKind.wrap .i64 (x1 + 1)), (IntKind.wrap .u64 ((IntKind.wrap .u64 ((IntKind.wrap .u64 (x2 * 6364136223846793005)) + (IntKind.wrap .u64 s1))) + 462197))))) (fun k2 => (if x1 < (x0.length : Int) then if 0 ≤ x1 then k2 (IntKind.wrap .i64 (x0.getD x1.toNat 0)) else none else k2 0))
/-- (*loop.example/g01210/spec.l1Cur).pick -/
def p_spec_l1Cur_pick (x0 : Int) (x1 : (List Int)) (x2 : Int) (x3 : Int) : Option (Int × Int × Int) :=
  (if x0 ≤ 1 then some (0, x2, x3) else (p_spec_l1Cur_next x1 x2 x3).bind (fun r4 => (if 200 < x0 then (p_spec_l1Cur_next x1 r4.2.1 r4.2.2).bind (fun r8 => some (((IntKind.wrap .i64 ((IntKind.wrap .i64 (r4.1 * 256)) + r8.1)).tmod x0), r8.2.1, r8.2.2)) else some ((r4.1.tmod x0), r4.2.1, r4.2.2))))
/-- (*loop.example/g01210/spec.l1Cur).among -/
def p_spec_l1Cur_among (x0 : (List Int)) (x1 : (List Int)) (x2 : Int) (x3 : Int) : Option (Int × Int × Int) :=
  (p_spec_l1Cur_pick (x0.length : Int) x1 x2 x3).bind (fun r1 => if 0 ≤ r1.1 then if r1.1 < (x0.length : Int) then some ((x0.getD r1.1.toNat 0), r1.2.1, r1.2.2) else none else none)
/-- (*loop.example/g01210/spec.l1Cur).one -/
def p_spec_l1Cur_one (x0 : Int) (x1 : (List Int)) (x2 : Int) (x3 : Int) : Option (Bool × Int × Int) :=
  (p_spec_l1Cur_pick x0 x1 x2 x3).bind (fun r1 => some ((decide (r1.1 = 0)), r1.2.1, r1.2.2))
/-- (*loop.example/g01210/spec.l1Cur).throws -/
def p_spec_l1Cur_throws (fu : Nat) (x0 : (List Int)) (x1 : (List Int)) (x2 : Int) (x3 : Int) : Option ((List Int) × Int × Int) :=
  (p_spec_l1Cur_among x0 x1 x2 x3).bind (fun r1 => whl (fun (s2 : Int × Int × Int × (List Int)) c4 => (if 0 < s2.1 then (p_spec_l1Cur_pick 6 x1 s2.2.1 s2.2.2.1).bind (fun r9 => if (s2.2.2.2.length : Int) + 1 ≤ 1000000000 then c4 ((IntKind.wrap .i64 (s2.1 - 1)), r9.2.1, r9.2.2, (s2.2.2.2 ++ [r9.1])) else none) else (if 0 < (s2.2.2.2.length : Int) then (p_spec_l1Cur_one 30 x1 s2.2.1 s2.2.2.1).bind (fun r14 => (if r14.1 = true then (p_spec_l1Cur_pick (s2.2.2.2.length : Int) x1 r14.2.1 r14.2.2).bind (fun r16 => (p_spec_l1Cur_among [(-1), 6, 4611686018427387904] x1 r16.2.1 r16.2.2).bind (fun r17 => if 0 ≤ r16.1 then if r16.1 < (s2.2.2.2.length : Int) then some ((s2.2.2.2.set r16.1.toNat r17.1), r17.2.1, r17.2.2) else none else none)) else some (s2.2.2.2, r14.2.1, r14.2.2))) else some (s2.2.2.2, s2.2.1, s2.2.2.1)))) fu (r1.1, r1.2.1, r1.2.2, []))
/-- loop.example/g01210/spec.DrawBitsOf -/
def p_spec_DrawBitsOf (fu : Nat) (x0 : (List Int)) : Option ((List Int)) :=
  (p_spec_l1Cur_throws fu [6, 12, 3, 0, 40, 41] x0 0 0).bind (fun r1 => some r1.1)
/-- loop.example/g01210/impl.isList -/
def p_impl_isList (x0 : (List Int)) : Bool :=
  (decide ((x0.length : Int) ≤ 40))
/-- loop.example/g01210/impl.within -/
def p_impl_within (x0 : Int) (x1 : Int) (x2 : Int) : Bool :=
  ((decide (x1 ≤ x0)) && (decide (x0 ≤ x2)))
/-- loop.example/g01210/impl.isSide -/
def p_impl_isSide (x0 : Int) : Bool :=
  (p_impl_within x0 0 5)
/-- loop.example/g01210/impl.areAll[int]$1 -/
def p_impl_areAll_int_1 (x0 : Int) : Bool :=
  (!(p_impl_isSide x0))
/-- slices.IndexFunc[[]int,int] -/
def p_slices_IndexFunc_int_int (x0 : (List Int)) : Int :=
  cnt (fun i2 (s1 : Unit) c3 _ => (if (p_impl_areAll_int_1 (x0.getD i2.toNat 0)) = true then i2 else c3 ())) (fun i2 (s1 : Unit) => (-1)) (Int.toNat ((x0.length : Int) - 0)) 0 ()
/-- slices.ContainsFunc[[]int,int] -/
def p_slices_ContainsFunc_int_int (x0 : (List Int)) : Bool :=
  (decide (0 ≤ (p_slices_IndexFunc_int_int x0)))
/-- loop.example/g01210/impl.areAll[int] -/
def p_impl_areAll_int (x0 : (List Int)) : Bool :=
  (!(p_slices_ContainsFunc_int_int x0))
/-- loop.example/g01210/impl.areThrows -/
def p_impl_areThrows (x0 : (List Int)) : Bool :=
  (p_impl_areAll_int x0)
/-- loop.example/g01210/impl.BitsOf -/
def p_impl_BitsOf (x0 : (List Int)) : Option ((List Int) × Bool) :=
  (if ((!(p_impl_isList x0)) || (!(p_impl_areThrows x0))) = true then some ([], false) else cnt (fun i8 (s7 : (List Int)) c9 _ => (if (x0.getD i8.toNat 0) < 4 then if (s7.length : Int) + 1 ≤ 1000000000 then if ((s7.length : Int) + 1) + 1 ≤ 1000000000 then c9 ((s7 ++ [(IntKind.wrap .i64 ((x0.getD i8.toNat 0).tdiv 2))]) ++ [((x0.getD i8.toNat 0).tmod 2)]) else none else none else if (s7.length : Int) + 1 ≤ 1000000000 then c9 (s7 ++ [((x0.getD i8.toNat 0).tmod 2)]) else none)) (fun i8 (s7 : (List Int)) => some (s7, true)) (Int.toNat ((x0.length : Int) - 0)) 0 [])
/-- loop.example/g01210/spec.l1In -/
def p_spec_l1In (x0 : Int) (x1 : Int) (x2 : Int) : Bool :=
  ((decide (x1 ≤ x0)) && (decide (x0 ≤ x2)))
/-- loop.example/g01210/spec.l9Throws -/
def p_spec_l9Throws (x0 : (List Int)) (x1 : Int) : Bool :=
  cnt (fun i2 (s1 : Unit) c3 k17 => (if ((decide (i2 < (x0.length : Int))) && (decide (i2 ≤ x1))) = true then (if (p_spec_l1In (x0.getD i2.toNat 0) 0 5) = true then c3 () else false) else k17 i2 s1)) (fun i2 (s1 : Unit) => (decide ((x0.length : Int) ≤ x1))) (Int.toNat ((x0.length : Int) - 0)) 0 ()
/-- loop.example/g01210/spec.BitsOf -/
def p_spec_BitsOf (x0 : (List Int)) : Option ((List Int) × Bool) :=
  (if (p_spec_l9Throws x0 40) = true then cnt (fun i3 (s2 : (List Int)) c4 _ => jn (fun (s9 : (List Int)) => if (s9.length : Int) + 1 ≤ 1000000000 then c4 (s9 ++ [((x0.getD i3.toNat 0).tmod 2)]) else none) (fun k10 => (if (x0.getD i3.toNat 0) < 4 then if (s2.length : Int) + 1 ≤ 1000000000 then k10 (s2 ++ [(IntKind.wrap .i64 ((x0.getD i3.toNat 0).tdiv 2))]) else none else k10 s2))) (fun i3 (s2 : (List Int)) => some (s2, true)) (Int.toNat ((x0.length : Int) - 0)) 0 [] else some ([], false))
/-- loop.example/g01210/laws.rInts -/
def p_laws_rInts (x0 : (List Int)) (x1 : (List Int)) : Bool :=
  (if (x0.length : Int) = (x1.length : Int) then cnt (fun i5 (s4 : Unit) c6 _ => (if (x0.getD i5.toNat 0) = (x1.getD i5.toNat 0) then c6 () else false)) (fun i5 (s4 : Unit) => true) (Int.toNat ((x0.length : Int) - 0)) 0 () else false)
/-- loop.example/g01210/spec.DrawThrowsOf -/
def p_spec_DrawThrowsOf (fu : Nat) (x0 : (List Int)) : Option ((List Int)) :=
  (p_spec_l1Cur_among [9, 12, 4, 2, 0, 40, 41] x0 0 0).bind (fun r1 => whl (fun (s2 : Int × Int × Int × (List Int)) c4 => (if 0 < s2.1 then (p_spec_l1Cur_among [0, 1, 1] x0 s2.2.1 s2.2.2.1).bind (fun r9 => if (s2.2.2.2.length : Int) + 1 ≤ 1000000000 then c4 ((IntKind.wrap .i64 (s2.1 - 1)), r9.2.1, r9.2.2, (s2.2.2.2 ++ [r9.1])) else none) else (if 0 < (s2.2.2.2.length : Int) then (p_spec_l1Cur_one 24 x0 s2.2.1 s2.2.2.1).bind (fun r14 => (if r14.1 = true then (p_spec_l1Cur_pick (s2.2.2.2.length : Int) x0 r14.2.1 r14.2.2).bind (fun r16 => (p_spec_l1Cur_among [(-1), 2] x0 r16.2.1 r16.2.2).bind (fun r17 => if 0 ≤ r16.1 then if r16.1 < (s2.2.2.2.length : Int) then some (s2.2.2.2.set r16.1.toNat r17.1) else none else none)) else some s2.2.2.2)) else some s2.2.2.2))) fu (r1.1, r1.2.1, r1.2.2, []))
/-- loop.example/g01210/impl.ThrowsOf$1 -/
def p_impl_ThrowsOf_1 (x0 : Int) : Bool :=
  (p_impl_within x0 0 1)
/-- loop.example/g01210/impl.areAll[int]$1 -/
def p_impl_areAll_int_1v1 (x0 : Int) : Bool :=
  (!(p_impl_ThrowsOf_1 x0))
/-- slices.IndexFunc[[]int,int] -/
def p_slices_IndexFunc_int_intv1 (x0 : (List Int)) : Int :=
  cnt (fun i2 (s1 : Unit) c3 _ => (if (p_impl_areAll_int_1v1 (x0.getD i2.toNat 0)) = true then i2 else c3 ())) (fun i2 (s1 : Unit) => (-1)) (Int.toNat ((x0.length : Int) - 0)) 0 ()
/-- slices.ContainsFunc[[]int,int] -/
def p_slices_ContainsFunc_int_intv1 (x0 : (List Int)) : Bool :=
  (decide (0 ≤ (p_slices_IndexFunc_int_intv1 x0)))
/-- loop.example/g01210/impl.areAll[int] -/
def p_impl_areAll_intv1 (x0 : (List Int)) : Bool :=
  (!(p_slices_ContainsFunc_int_intv1 x0))
/-- slices.Chunk[[]int,int] -/
def p_slices_Chunk_int_int (x0 : (List Int)) (x1 : Int) : Option ((List Int) × Int) :=
  (if x1 < 1 then none else some (x0, x1))
/-- loop.example/g01210/impl.ThrowsOf -/
def p_impl_ThrowsOf (fu : Nat) (x0 : (List Int)) : Option ((List Int) × Int × Bool) :=
  (if ((!(p_impl_isList x0)) || (!(p_impl_areAll_intv1 x0))) = true then some ([], 0, false) else (p_slices_Chunk_int_int x0 3).bind (fun r7 => whl (fun (s8 : Int × (List Int)) c10 => (if s8.1 < (r7.1.length : Int) then if 0 ≤ s8.1 then if s8.1 ≤ (IntKind.wrap .i64 (s8.1 + (if ((r7.1.length : Int) - s8.1) < r7.2 then ((r7.1.length : Int) - s8.1) else r7.2))) then if (IntKind.wrap .i64 (s8.1 + (if ((r7.1.length : Int) - s8.1) < r7.2 then ((r7.1.length : Int) - s8.1) else r7.2))) ≤ (r7.1.length : Int) then (if ((IntKind.wrap .i64 (s8.1 + (if ((r7.1.length : Int) - s8.1) < r7.2 then ((r7.1.length : Int) - s8.1) else r7.2))) - s8.1) < 3 then some (s8.2, ((IntKind.wrap .i64 (s8.1 + (if ((r7.1.length : Int) - s8.1) < r7.2 then ((r7.1.length : Int) - s8.1) else r7.2))) - s8.1), true) else (if (p_impl_isSide (IntKind.wrap .i64 ((IntKind.wrap .i64 ((IntKind.wrap .i64 ((((r7.1.take (IntKind.wrap .i64 (s8.1 + (if ((r7.1.length : Int) - s8.1) < r7.2 then ((r7.1.length : Int) - s8.1) else r7.2))).toNat).drop s8.1.toNat).getD 0 0) * 4)) + (IntKind.wrap .i64 ((((r7.1.take (IntKind.wrap .i64 (s8.1 + (if ((r7.1.length : Int) - s8.1) < r7.2 then ((r7.1.length : Int) - s8.1) else r7.2))).toNat).drop s8.1.toNat).getD 1 0) * 2)))) + (((r7.1.take (IntKind.wrap .i64 (s8.1 + (if ((r7.1.length : Int) - s8.1) < r7.2 then ((r7.1.length : Int) - s8.1) else r7.2))).toNat).drop s8.1.toNat).getD 2 0)))) = true then if (s8.2.length : Int) + 1 ≤ 1000000000 then c10 ((IntKind.wrap .i64 (s8.1 + r7.2)), (s8.2 ++ [(IntKind.wrap .i64 ((IntKind.wrap .i64 ((IntKind.wrap .i64 ((((r7.1.take (IntKind.wrap .i64 (s8.1 + (if ((r7.1.length : Int) - s8.1) < r7.2 then ((r7.1.length : Int) - s8.1) else r7.2))).toNat).drop s8.1.toNat).getD 0 0) * 4)) + (IntKind.wrap .i64 ((((r7.1.take (IntKind.wrap .i64 (s8.1 + (if ((r7.1.length : Int) - s8.1) < r7.2 then ((r7.1.length : Int) - s8.1) else r7.2))).toNat).drop s8.1.toNat).getD 1 0) * 2)))) + (((r7.1.take (IntKind.wrap .i64 (s8.1 + (if ((r7.1.length : Int) - s8.1) < r7.2 then ((r7.1.length : Int) - s8.1) else r7.2))).toNat).drop s8.1.toNat).getD 2 0)))])) else none else c10 ((IntKind.wrap .i64 (s8.1 + r7.2)), s8.2))) else none else none else none else some (s8.2, 0, true))) fu (0, [])))
/-- loop.example/g01210/spec.l9Bits -/
def p_spec_l9Bits (x0 : (List Int)) : Bool :=
  cnt (fun i2 (s1 : Unit) c3 k15 => (if ((decide (i2 < (x0.length : Int))) && (decide (i2 ≤ 40))) = true then (if (p_spec_l1In (x0.getD i2.toNat 0) 0 1) = true then c3 () else false) else k15 i2 s1)) (fun i2 (s1 : Unit) => (decide ((x0.length : Int) ≤ 40))) (Int.toNat ((x0.length : Int) - 0)) 0 ()
/-- loop.example/g01210/spec.ThrowsOf -/
def p_spec_ThrowsOf (fu : Nat) (x0 : (List Int)) : Option ((List Int) × Int × Bool) :=
  (if (p_spec_l9Bits x0) = true then whl (fun (s2 : Int × (List Int)) c4 => (if (IntKind.wrap .i64 (s2.1 + 3)) ≤ (x0.length : Int) then if s2.1 < (x0.length : Int) then if (s2.1 + 1) < (x0.length : Int) then if (s2.1 + 2) < (x0.length : Int) then (if (IntKind.wrap .i64 ((IntKind.wrap .i64 ((IntKind.wrap .i64 (4 * (x0.getD s2.1.toNat 0))) + (IntKind.wrap .i64 (2 * (x0.getD (s2.1 + 1).toNat 0))))) + (x0.getD (s2.1 + 2).toNat 0))) < 6 then if (s2.2.length : Int) + 1 ≤ 1000000000 then c4 ((s2.1 + 3), (s2.2 ++ [(IntKind.wrap .i64 ((IntKind.wrap .i64 ((IntKind.wrap .i64 (4 * (x0.getD s2.1.toNat 0))) + (IntKind.wrap .i64 (2 * (x0.getD (s2.1 + 1).toNat 0))))) + (x0.getD (s2.1 + 2).toNat 0)))])) else none else c4 ((s2.1 + 3), s2.2)) else none else none else none else some (s2.2, (IntKind.wrap .i64 ((x0.length : Int) - s2.1)), true))) fu (0, []) else some ([], 0, false))
/-- loop.example/g01210/spec.DrawEvenCoin -/
def p_spec_DrawEvenCoin (fu : Nat) (x0 : (List Int)) : Option ((List Int) × Int) :=
  (p_spec_l1Cur_among [1, 2, 3, 4, 5, 0, 6, 7, (-1)] x0 0 0).bind (fun r1 => (p_spec_l1Cur_throws fu [8, 12, 3, 0, 40, 41] x0 r1.2.1 r1.2.2).bind (fun r2 => some (r2.1, r1.1)))
/-- loop.example/g01210/impl.truth -/
def p_impl_truth (x0 : Bool) : Int :=
  (if x0 = true then 1 else 0)
/-- loop.example/g01210/impl.EvenCoin -/
def p_impl_EvenCoin (fu : Nat) (x0 : (List Int)) (x1 : Int) : Option ((List Int) × Int × Bool) :=
  (if (((!(p_impl_isList x0)) || (!(p_impl_areThrows x0))) || (!(p_impl_within x1 0 6))) = true then some ([], 0, false) else whl (fun (s18 : Int × Int × (List Int)) c20 => (if (IntKind.wrap .i64 (s18.2.1 + 1)) < (x0.length : Int) then if s18.2.1 < (x0.length : Int) then if (s18.2.1 + 1) < (x0.length : Int) then (if ((decide ((x0.getD s18.2.1.toNat 0) < x1)) == (decide ((x0.getD (s18.2.1 + 1).toNat 0) < x1))) = true then c20 ((IntKind.wrap .i64 (s18.1 + 1)), (s18.2.1 + 2), s18.2.2) else if (s18.2.2.length : Int) + 1 ≤ 1000000000 then c20 (s18.1, (s18.2.1 + 2), (s18.2.2 ++ [(p_impl_truth (decide ((x0.getD s18.2.1.toNat 0) < x1)))])) else none) else none else none else some (s18.2.2, s18.1, true))) fu (0, 0, []))
/-- loop.example/g01210/spec.EvenCoin -/
def p_spec_EvenCoin (fu : Nat) (x0 : (List Int)) (x1 : Int) : Option ((List Int) × Int × Bool) :=
  (if ((!(p_spec_l9Throws x0 40)) || (!(p_spec_l1In x1 0 6))) = true then some ([], 0, false) else whl (fun (s7 : Int × Int × (List Int)) c9 => (if (IntKind.wrap .i64 (s7.2.1 + 2)) ≤ (x0.length : Int) then if s7.2.1 < (x0.length : Int) then if (s7.2.1 + 1) < (x0.length : Int) then (if ((decide ((x0.getD s7.2.1.toNat 0) < x1)) && (!(decide ((x0.getD (s7.2.1 + 1).toNat 0) < x1)))) = true then if (s7.2.2.length : Int) + 1 ≤ 1000000000 then c9 (s7.1, (s7.2.1 + 2), (s7.2.2 ++ [1])) else none else (if ((decide ((x0.getD (s7.2.1 + 1).toNat 0) < x1)) && (!(decide ((x0.getD s7.2.1.toNat 0) < x1)))) = true then if (s7.2.2.length : Int) + 1 ≤ 1000000000 then c9 (s7.1, (s7.2.1 + 2), (s7.2.2 ++ [0])) else none else c9 ((IntKind.wrap .i64 (s7.1 + 1)), (s7.2.1 + 2), s7.2.2))) else none else none else some (s7.2.2, s7.1, true))) fu (0, 0, []))
/-- loop.example/g01210/spec.DrawPairsForCoin -/
def p_spec_DrawPairsForCoin (x0 : (List Int)) : Option (Int) :=
  (p_spec_l1Cur_pick 7 x0 0 0).bind (fun r1 => some r1.1)
/-- loop.example/g01210/impl.fraction -/
def p_impl_fraction (fu : Nat) (x0 : Int) (x1 : Int) : Option ((List Int)) :=
  whl (fun (s1 : Int × Int) c3 => (if s1.2 = 0 then if s1.1 ≠ 0 then if s1.1 ≠ 0 then some [(IntKind.wrap .i64 (x0.tdiv s1.1)), (IntKind.wrap .i64 (x1.tdiv s1.1))] else none else none else if s1.2 ≠ 0 then c3 (s1.2, (s1.1.tmod s1.2)) else none)) fu (x0, x1)
/-- loop.example/g01210/impl.PairsForCoin -/
def p_impl_PairsForCoin (fu : Nat) (x0 : Int) : Option ((List Int) × Bool) :=
  (if (p_impl_within x0 1 5) = true then (p_impl_fraction fu 36 (IntKind.wrap .i64 ((IntKind.wrap .i64 (2 * x0)) * (IntKind.wrap .i64 (6 - x0))))).bind (fun r2 => some (r2, true)) else some ((List.replicate 2 0), false))
/-- loop.example/g01210/spec.l1Most -/
def p_spec_l1Most (x0 : Int) (x1 : Int) : Int :=
  (if x1 < x0 then x0 else x1)
/-- loop.example/g01210/spec.l2Cut -/
def p_spec_l2Cut (fu : Nat) (x0 : Int) (x1 : Int) : Option ((List Int)) :=
  whl (fun (s1 : Int × Int) c3 => (if 0 < s1.2 then c3 (s1.2, (s1.1.tmod s1.2)) else if (p_spec_l1Most s1.1 1) ≠ 0 then if (p_spec_l1Most s1.1 1) ≠ 0 then some [(IntKind.wrap .i64 (x0.tdiv (p_spec_l1Most s1.1 1))), (IntKind.wrap .i64 (x1.tdiv (p_spec_l1Most s1.1 1)))] else none else none)) fu (x0, x1)
/-- loop.example/g01210/spec.PairsForCoin -/
def p_spec_PairsForCoin (fu : Nat) (x0 : Int) : Option ((List Int) × Bool) :=
  (if (p_spec_l1In x0 1 5) = true then (p_spec_l2Cut fu 36 (IntKind.wrap .i64 ((IntKind.wrap .i64 (2 * x0)) * (IntKind.wrap .i64 (6 - x0))))).bind (fun r2 => some (r2, true)) else some ((List.replicate 2 0), false))
/-- (*loop.example/g01210/spec.l1Cur).face -/
def p_spec_l1Cur_face (x0 : (List Int)) (x1 : Int) (x2 : Int) : Option (Int × Int × Int) :=
  (p_spec_l1Cur_among [1, 2, 3, 4, 5, 6, 6, 0, 8, 9, 4, 3, 30, 12] x0 x1 x2).bind (fun r1 => some (r1.1, r1.2.1, r1.2.2))
/-- loop.example/g01210/spec.l2Sorted -/
def p_spec_l2Sorted (x0 : (List Int)) : (List Int) :=
  cnt (fun i2 (s1 : (List Int)) c3 _ => cnt (fun i9 (s8 : (List Int)) c10 _ => (if (s8.getD (i9 + 1).toNat 0) < (s8.getD i9.toNat 0) then c10 ((s8.set i9.toNat (s8.getD (i9 + 1).toNat 0)).set (i9 + 1).toNat (s8.getD i9.toNat 0)) else c10 s8)) (fun i9 (s8 : (List Int)) => c3 s8) (Int.toNat (5 - 0)) 0 s1) (fun i2 (s1 : (List Int)) => s1) (Int.toNat (6 - 0)) 0 x0
/-- (*loop.example/g01210/spec.l1Cur).die -/
def p_spec_l1Cur_die (x0 : (List Int)) (x1 : Int) (x2 : Int) : Option ((List Int) × Int × Int) :=
  jn (fun (s1 : Int × Int × (List Int)) => (p_spec_l1Cur_pick 50 x0 s1.1 s1.2.1).bind (fun r4 => (if r4.1 = 0 then (p_spec_l1Cur_pick 6 x0 r4.2.1 r4.2.2).bind (fun r8 => (p_spec_l1Cur_among [(-1), 31, 0, 4611686018427387904] x0 r8.2.1 r8.2.2).bind (fun r9 => if 0 ≤ r8.1 then if r8.1 < 6 then some (((p_spec_l2Sorted s1.2.2).set r8.1.toNat r9.1), r9.2.1, r9.2.2) else none else none)) else (if r4.1 = 1 then some (((p_spec_l2Sorted s1.2.2).set 0 30), r4.2.1, r4.2.2) else some ((p_spec_l2Sorted s1.2.2), r4.2.1, r4.2.2))))) (fun k2 => (p_spec_l1Cur_pick 6 x0 x1 x2).bind (fun r15 => (if r15.1 = 0 then some ([1, 2, 3, 4, 5, 6], r15.2.1, r15.2.2) else (if r15.1 = 1 then k2 (r15.2.1, r15.2.2, [1, 2, 2, 3, 3, 4]) else (if r15.1 = 2 then (p_spec_l1Cur_face x0 r15.2.1 r15.2.2).bind (fun r25 => (p_spec_l1Cur_face x0 r25.2.1 r25.2.2).bind (fun r26 => cnt (fun i28 (s27 : Int × Int × (List Int)) c29 _ => (p_spec_l1Cur_one 3 x0 s27.1 s27.2.1).bind (fun r34 => (if r34.1 = true then c29 (r34.2.1, r34.2.2, ((s27.2.2.set i28.toNat r25.1).set i28.toNat r26.1)) else c29 (r34.2.1, r34.2.2, (s27.2.2.set i28.toNat r25.1))))) (fun i28 (s27 : Int × Int × (List Int)) => k2 (s27.1, s27.2.1, s27.2.2)) (Int.toNat (6 - 0)) 0 (r26.2.1, r26.2.2, [1, 2, 3, 4, 5, 6]))) else cnt (fun i37 (s36 : Int × Int × (List Int)) c38 _ => (p_spec_l1Cur_face x0 s36.1 s36.2.1).bind (fun r43 => c38 (r43.2.1, r43.2.2, (s36.2.2.set i37.toNat r43.1)))) (fun i37 (s36 : Int × Int × (List Int)) => k2 (s36.1, s36.2.1, s36.2.2)) (Int.toNat (6 - 0)) 0 (r15.2.1, r15.2.2, [1, 2, 3, 4, 5, 6]))))))
/-- (*loop.example/g01210/spec.l1Cur).pool -/
def p_spec_l1Cur_pool (fu : Nat) (x0 : (List Int)) (x1 : Int) (x2 : Int) : Option ((List (List Int)) × Int × Int) :=
  (p_spec_l1Cur_among [2, 3, 1, 2, 4] x0 x1 x2).bind (fun r1 => whl (fun (s2 : Int × Int × Int × (List (List Int))) c4 => (if 0 < s2.1 then (p_spec_l1Cur_die x0 s2.2.1 s2.2.2.1).bind (fun r9 => (if 0 < (s2.2.2.2.length : Int) then (p_spec_l1Cur_one 3 x0 r9.2.1 r9.2.2).bind (fun r13 => (if r13.1 = true then if (s2.2.2.2.length : Int) + 1 ≤ 1000000000 then c4 ((IntKind.wrap .i64 (s2.1 - 1)), r13.2.1, r13.2.2, (s2.2.2.2 ++ [(s2.2.2.2.getD 0 (List.replicate 6 0))])) else none else if (s2.2.2.2.length : Int) + 1 ≤ 1000000000 then c4 ((IntKind.wrap .i64 (s2.1 - 1)), r13.2.1, r13.2.2, (s2.2.2.2 ++ [r9.1])) else none)) else c4 ((IntKind.wrap .i64 (s2.1 - 1)), r9.2.1, r9.2.2, (s2.2.2.2 ++ [r9.1])))) else (p_spec_l1Cur_pick 50 x0 s2.2.1 s2.2.2.1).bind (fun r17 => (if r17.1 = 0 then some ([], r17.2.1, r17.2.2) else (if r17.1 = 1 then whl (fun (s24 : (List (List Int))) c26 => (if (s24.length : Int) < 5 then if 0 < (s24.length : Int) then c26 (s24 ++ [(s24.getD 0 (List.replicate 6 0))]) else none else some (s24, r17.2.1, r17.2.2))) fu s2.2.2.2 else some (s2.2.2.2, r17.2.1, r17.2.2)))))) fu (r1.1, r1.2.1, r1.2.2, []))
/-- loop.example/g01210/spec.DrawModTable -/
def p_spec_DrawModTable (fu : Nat) (x0 : (List Int)) : Option ((List (List Int)) × Int) :=
  (p_spec_l1Cur_among [2, 3, 6, 4, 12, 40, 1, 0, 41] x0 0 0).bind (fun r1 => (p_spec_l1Cur_pool fu x0 r1.2.1 r1.2.2).bind (fun r2 => some (r2.1, r1.1)))
/-- loop.example/g01210/impl.isFace -/
def p_impl_isFace (x0 : Int) : Bool :=
  (p_impl_within x0 0 30)
/-- loop.example/g01210/impl.areAll[int]$1 -/
def p_impl_areAll_int_1v2 (x0 : Int) : Bool :=
  (!(p_impl_isFace x0))
/-- slices.IndexFunc[[]int,int] -/
def p_slices_IndexFunc_int_intv2 (x0 : (List Int)) : Int :=
  cnt (fun i2 (s1 : Unit) c3 _ => (if (p_impl_areAll_int_1v2 (x0.getD i2.toNat 0)) = true then i2 else c3 ())) (fun i2 (s1 : Unit) => (-1)) (Int.toNat ((x0.length : Int) - 0)) 0 ()
/-- slices.ContainsFunc[[]int,int] -/
def p_slices_ContainsFunc_int_intv2 (x0 : (List Int)) : Bool :=
  (decide (0 ≤ (p_slices_IndexFunc_int_intv2 x0)))
/-- loop.example/g01210/impl.areAll[int] -/
def p_impl_areAll_intv2 (x0 : (List Int)) : Bool :=
  (!(p_slices_ContainsFunc_int_intv2 x0))
/-- cmp.isNaN[int] -/
def p_cmp_isNaN_int (x0 : Int) : Bool :=
  (!(decide (x0 = x0)))
/-- cmp.Less[int] -/
def p_cmp_Less_int (x0 : Int) (x1 : Int) : Bool :=
  (((p_cmp_isNaN_int x0) && (!(p_cmp_isNaN_int x1))) || (decide (x0 < x1)))
/-- slices.IsSorted[[]int,int] -/
def p_slices_IsSorted_int_int (x0 : (List Int)) : Bool :=
  cntd (fun i2 (s1 : Unit) c3 _ => (if (p_cmp_Less_int (x0.getD i2.toNat 0) (x0.getD (i2 - 1).toNat 0)) = true then false else c3 ())) (fun i2 (s1 : Unit) => true) (Int.toNat (((x0.length : Int) - 1) - 0)) ((x0.length : Int) - 1) ()
/-- loop.example/g01210/impl.IsDie -/
def p_impl_IsDie (x0 : (List Int)) : Bool :=
  ((p_impl_areAll_intv2 x0) && (p_slices_IsSorted_int_int x0))
/-- loop.example/g01210/impl.areAll[[6]int]$1 -/
def p_impl_areAll_6_int_1 (x0 : (List Int)) : Bool :=
  (!(p_impl_IsDie x0))
/-- slices.IndexFunc[[][6]int,[6]int] -/
def p_slices_IndexFunc_6_int_6_int (x0 : (List (List Int))) : Int :=
  cnt (fun i2 (s1 : Unit) c3 _ => (if (p_impl_areAll_6_int_1 (x0.getD i2.toNat (List.replicate 6 0))) = true then i2 else c3 ())) (fun i2 (s1 : Unit) => (-1)) (Int.toNat ((x0.length : Int) - 0)) 0 ()
/-- slices.ContainsFunc[[][6]int,[6]int] -/
def p_slices_ContainsFunc_6_int_6_int (x0 : (List (List Int))) : Bool :=
  (decide (0 ≤ (p_slices_IndexFunc_6_int_6_int x0)))
/-- loop.example/g01210/impl.areAll[[6]int] -/
def p_impl_areAll_6_int (x0 : (List (List Int))) : Bool :=
  (!(p_slices_ContainsFunc_6_int_6_int x0))
/-- loop.example/g01210/impl.IsPool -/
def p_impl_IsPool (x0 : (List (List Int))) : Bool :=
  ((p_impl_within (x0.length : Int) 1 4) && (p_impl_areAll_6_int x0))
/-- loop.example/g01210/impl.isModulus -/
def p_impl_isModulus (x0 : Int) : Bool :=
  (p_impl_within x0 1 40)
/-- loop.example/g01210/impl.sums -/
def p_impl_sums (x0 : (List (List Int))) : Option ((List Int)) :=
  cnt (fun i2 (s1 : (List Int)) c3 _ => cnt (fun i9 (s8 : (List Int)) c10 _ => (if (s1.getD i9.toNat 0) = 0 then c10 s8 else cnt (fun i19 (s18 : (List Int)) c20 _ => if 0 ≤ (IntKind.wrap .i64 (i9 + ((x0.getD i2.toNat (List.replicate 6 0)).getD i19.toNat 0))) then if (IntKind.wrap .i64 (i9 + ((x0.getD i2.toNat (List.replicate 6 0)).getD i19.toNat 0))) < 121 then c20 (s18.set (IntKind.wrap .i64 (i9 + ((x0.getD i2.toNat (List.replicate 6 0)).getD i19.toNat 0))).toNat (IntKind.wrap .i64 ((s18.getD (IntKind.wrap .i64 (i9 + ((x0.getD i2.toNat (List.replicate 6 0)).getD i19.toNat 0))).toNat 0) + (s1.getD i9.toNat 0)))) else none else none) (fun i19 (s18 : (List Int)) => c10 s18) (Int.toNat (6 - 0)) 0 s8)) (fun i9 (s8 : (List Int)) => c3 s8) (Int.toNat (121 - 0)) 0 (List.replicate 121 0)) (fun i2 (s1 : (List Int)) => some s1) (Int.toNat ((x0.length : Int) - 0)) 0 ((List.replicate 121 0).set 0 1)
/-- loop.example/g01210/impl.remainders -/
def p_impl_remainders (x0 : (List (List Int))) (x1 : Int) : Option ((List Int)) :=
  if 0 ≤ x1 then if x1 ≤ 1000000000 then (p_impl_sums x0).bind (fun r3 => cnt (fun i5 (s4 : (List Int)) c6 _ => if x1 ≠ 0 then if 0 ≤ (i5.tmod x1) then if (i5.tmod x1) < x1 then c6 (s4.set (i5.tmod x1).toNat (IntKind.wrap .i64 ((s4.getD (i5.tmod x1).toNat 0) + (r3.getD i5.toNat 0)))) else none else none else none) (fun i5 (s4 : (List Int)) => some s4) (Int.toNat (121 - 0)) 0 (List.replicate x1.toNat 0)) else none else none
/-- loop.example/g01210/impl.ModTable -/
def p_impl_ModTable (x0 : (List (List Int))) (x1 : Int) : Option ((List Int) × Bool) :=
  (if ((!(p_impl_IsPool x0)) || (!(p_impl_isModulus x1))) = true then some ([], false) else (p_impl_remainders x0 x1).bind (fun r7 => some (r7, true)))
/-- loop.example/g01210/spec.l2Die -/
def p_spec_l2Die (x0 : (List Int)) : Option (Bool) :=
  cnt (fun i2 (s1 : Unit) c3 _ => (if ((!(p_spec_l1In (x0.getD i2.toNat 0) 0 30)) || ((decide (0 < i2)) && (decide ((x0.getD i2.toNat 0) < (x0.getD (i2 - 1).toNat 0))))) = true then some false else c3 ())) (fun i2 (s1 : Unit) => some true) (Int.toNat (6 - 0)) 0 ()
/-- loop.example/g01210/spec.l2Pool -/
def p_spec_l2Pool (x0 : (List (List Int))) : Option (Bool) :=
  cnt (fun i2 (s1 : Unit) c3 k16 => (if ((decide (i2 < (x0.length : Int))) && (decide (i2 ≤ 4))) = true then (p_spec_l2Die (x0.getD i2.toNat (List.replicate 6 0))).bind (fun r14 => (if r14 = true then c3 () else some false)) else k16 i2 s1)) (fun i2 (s1 : Unit) => some (p_spec_l1In (x0.length : Int) 1 4)) (Int.toNat ((x0.length : Int) - 0)) 0 ()
/-- loop.example/g01210/spec.l2Table -/
def p_spec_l2Table (x0 : (List (List Int))) : Option ((List Int)) :=
  cnt (fun i2 (s1 : (List Int)) c3 _ => cnt (fun i9 (s8 : (List Int)) c10 _ => cnt (fun i16 (s15 : (List Int)) c17 _ => (if 0 < (s1.getD i9.toNat 0) then if 0 ≤ (IntKind.wrap .i64 (i9 + ((x0.getD i2.toNat (List.replicate 6 0)).getD i16.toNat 0))) then if (IntKind.wrap .i64 (i9 + ((x0.getD i2.toNat (List.replicate 6 0)).getD i16.toNat 0))) < 121 then c17 (s15.set (IntKind.wrap .i64 (i9 + ((x0.getD i2.toNat (List.replicate 6 0)).getD i16.toNat 0))).toNat (IntKind.wrap .i64 ((s15.getD (IntKind.wrap .i64 (i9 + ((x0.getD i2.toNat (List.replicate 6 0)).getD i16.toNat 0))).toNat 0) + (s1.getD i9.toNat 0)))) else none else none else c17 s15)) (fun i16 (s15 : (List Int)) => c10 s15) (Int.toNat (6 - 0)) 0 s8) (fun i9 (s8 : (List Int)) => c3 s8) (Int.toNat (121 - 0)) 0 (List.replicate 121 0)) (fun i2 (s1 : (List Int)) => some s1) (Int.toNat ((x0.length : Int) - 0)) 0 ((List.replicate 121 0).set 0 1)
/-- loop.example/g01210/spec.l9Mod -/
def p_spec_l9Mod (x0 : (List (List Int))) (x1 : Int) : Option ((List Int)) :=
  if 0 ≤ x1 then if x1 ≤ 1000000000 then (p_spec_l2Table x0).bind (fun r3 => cnt (fun i5 (s4 : (List Int)) c6 _ => if x1 ≠ 0 then if x1 ≠ 0 then if 0 ≤ (i5.tmod x1) then if (i5.tmod x1) < x1 then c6 (s4.set (i5.tmod x1).toNat (IntKind.wrap .i64 ((s4.getD (i5.tmod x1).toNat 0) + (r3.getD i5.toNat 0)))) else none else none else none else none) (fun i5 (s4 : (List Int)) => some s4) (Int.toNat (121 - 0)) 0 (List.replicate x1.toNat 0)) else none else none
/-- loop.example/g01210/spec.ModTable -/
def p_spec_ModTable (x0 : (List (List Int))) (x1 : Int) : Option ((List Int) × Bool) :=
  (p_spec_l2Pool x0).bind (fun r1 => (if ((!r1) || (!(p_spec_l1In x1 1 40))) = true then some ([], false) else (p_spec_l9Mod x0 x1).bind (fun r8 => some (r8, true))))
/-- (*loop.example/g01210/spec.l1Cur).two -/
def p_spec_l1Cur_two (fu : Nat) (x0 : (List Int)) (x1 : Int) (x2 : Int) : Option ((List (List Int)) × Int × Int) :=
  (p_spec_l1Cur_pick 6 x0 x1 x2).bind (fun r1 => (if r1.1 = 0 then some ([[1, 2, 3, 4, 5, 6], [1, 2, 3, 4, 5, 6]], r1.2.1, r1.2.2) else (if r1.1 = 1 then some ([[1, 3, 4, 5, 6, 8], [1, 2, 2, 3, 3, 4]], r1.2.1, r1.2.2) else (if r1.1 = 2 then (p_spec_l1Cur_pick 3 x0 r1.2.1 r1.2.2).bind (fun r11 => (p_spec_l1Cur_pick 4 x0 r11.2.1 r11.2.2).bind (fun r12 => cnt (fun i14 (s13 : (List Int) × (List Int)) c15 _ => c15 ((s13.1.set i14.toNat (IntKind.wrap .i64 ((IntKind.wrap .i64 ((i14.tmod 3) * (IntKind.wrap .i64 (1 + r11.1)))) + (IntKind.wrap .i64 ((IntKind.wrap .i64 (i14.tdiv 3)) * (IntKind.wrap .i64 (1 + r12.1))))))), (s13.2.set i14.toNat (IntKind.wrap .i64 ((IntKind.wrap .i64 ((i14.tmod 2) * (IntKind.wrap .i64 (1 + r11.1)))) + (IntKind.wrap .i64 ((IntKind.wrap .i64 (i14.tdiv 2)) * (IntKind.wrap .i64 (1 + r12.1))))))))) (fun i14 (s13 : (List Int) × (List Int)) => some ([(p_spec_l2Sorted s13.1), (p_spec_l2Sorted s13.2)], r12.2.1, r12.2.2)) (Int.toNat (6 - 0)) 0 ((List.replicate 6 0), (List.replicate 6 0)))) else (if r1.1 = 3 then (p_spec_l1Cur_pool fu x0 r1.2.1 r1.2.2).bind (fun r23 => some (r23.1, r23.2.1, r23.2.2)) else (p_spec_l1Cur_die x0 r1.2.1 r1.2.2).bind (fun r25 => (p_spec_l1Cur_die x0 r25.2.1 r25.2.2).bind (fun r26 => some ([r25.1, r26.1], r26.2.1, r26.2.2))))))))
/-- loop.example/g01210/spec.DrawFairSizes -/
def p_spec_DrawFairSizes (fu : Nat) (x0 : (List Int)) : Option ((List (List Int))) :=
  (p_spec_l1Cur_one 2 x0 0 0).bind (fun r1 => (if r1.1 = true then (p_spec_l1Cur_two fu x0 r1.2.1 r1.2.2).bind (fun r3 => some r3.1) else (p_spec_l1Cur_pool fu x0 r1.2.1 r1.2.2).bind (fun r5 => some r5.1)))
/-- slices.Max[[]int,int] -/
def p_slices_Max_int_int (x0 : (List Int)) : Option (Int) :=
  (if (x0.length : Int) < 1 then none else cnt (fun i5 (s4 : Int) c6 _ => c6 (if (x0.getD i5.toNat 0) > s4 then (x0.getD i5.toNat 0) else s4)) (fun i5 (s4 : Int) => some s4) (Int.toNat ((x0.length : Int) - 1)) 1 (x0.getD 0 0))
/-- slices.Min[[]int,int] -/
def p_slices_Min_int_int (x0 : (List Int)) : Option (Int) :=
  (if (x0.length : Int) < 1 then none else cnt (fun i5 (s4 : Int) c6 _ => c6 (if (x0.getD i5.toNat 0) < s4 then (x0.getD i5.toNat 0) else s4)) (fun i5 (s4 : Int) => some s4) (Int.toNat ((x0.length : Int) - 1)) 1 (x0.getD 0 0))
/-- loop.example/g01210/impl.FairSizes -/
def p_impl_FairSizes (fu : Nat) (x0 : (List (List Int))) : Option ((List Int) × Bool) :=
  (if (p_impl_IsPool x0) = true then whl (fun (s2 : Int × (List Int)) c4 => (if s2.1 ≤ 40 then (p_impl_remainders x0 s2.1).bind (fun r9 => (p_slices_Max_int_int r9).bind (fun r11 => (p_slices_Min_int_int r9).bind (fun r12 => (if r11 = r12 then if (s2.2.length : Int) + 1 ≤ 1000000000 then c4 ((s2.1 + 1), (s2.2 ++ [s2.1])) else none else c4 ((s2.1 + 1), s2.2))))) else some (s2.2, true))) fu (1, []) else some ([], false))
/-- loop.example/g01210/spec.FairSizes -/
def p_spec_FairSizes (fu : Nat) (x0 : (List (List Int))) : Option ((List Int) × Bool) :=
  (p_spec_l2Pool x0).bind (fun r1 => (if r1 = true then whl (fun (s3 : Int × (List Int)) c5 => (if s3.1 ≤ 40 then (p_spec_l9Mod x0 s3.1).bind (fun r10 => cnt (fun i13 (s12 : Bool) c14 _ => if (s12 = true → i13 < (r10.length : Int)) then c14 (s12 && (decide ((r10.getD i13.toNat 0) = (r10.getD 0 0)))) else none) (fun i13 (s12 : Bool) => (if s12 = true then if (s3.2.length : Int) + 1 ≤ 1000000000 then c5 ((s3.1 + 1), (s3.2 ++ [s3.1])) else none else c5 ((s3.1 + 1), s3.2))) (Int.toNat (s3.1 - 1)) 1 true) else some (s3.2, true))) fu (1, []) else some ([], false)))
/-- loop.example/g01210/laws.FnBits -/
def p_laws_FnBits (fu : Nat) (x0 : (List Int)) : Option (Bool) :=
  (if (p_laws_rBig x0) = true then some true else (p_spec_DrawBitsOf fu x0).bind (fun r2 => (p_impl_BitsOf r2).bind (fun r4 => (p_spec_BitsOf r2).bind (fun r6 => (if (((r4.2 != r6.2) || (!(p_laws_rInts r4.1 r6.1))) || (r4.2 && ((decide ((r4.1.length : Int) < (r2.length : Int))) || (decide ((IntKind.wrap .i64 (2 * (r2.length : Int))) < (r4.1.length : Int)))))) = true then some false else (p_spec_DrawThrowsOf fu x0).bind (fun r109 => (p_impl_ThrowsOf fu r109).bind (fun r111 => (p_spec_ThrowsOf fu r109).bind (fun r113 => (if ((((!(decide (r111.2.1 = r113.2.1))) || (r111.2.2 != r113.2.2)) || (!(p_laws_rInts r111.1 r113.1))) || (r111.2.2 && (((decide (r111.2.1 < 0)) || (decide (2 < r111.2.1))) || (decide ((r109.length : Int) < (IntKind.wrap .i64 (3 * (r111.1.length : Int)))))))) = true then some false else (p_spec_DrawEvenCoin fu x0).bind (fun r317 => (p_impl_EvenCoin fu r317.1 r317.2).bind (fun r319 => (p_spec_EvenCoin fu r317.1 r317.2).bind (fun r321 => (if ((((!(decide (r319.2.1 = r321.2.1))) || (r319.2.2 != r321.2.2)) || (!(p_laws_rInts r319.1 r321.1))) || (r319.2.2 && (!(decide ((IntKind.wrap .i64 ((r319.1.length : Int) + r319.2.1)) = (IntKind.wrap .i64 ((r317.1.length : Int).tdiv 2))))))) = true then some false else (p_spec_DrawPairsForCoin x0).bind (fun r435 => (p_impl_PairsForCoin fu r435).bind (fun r436 => (p_spec_PairsForCoin fu r435).bind (fun r437 => (if ((!(decide (r436.1 = r437.1))) || (r436.2 != r437.2)) = true then some false else (p_spec_DrawModTable fu x0).bind (fun r444 => (p_impl_ModTable r444.1 r444.2).bind (fun r446 => (p_spec_ModTable r444.1 r444.2).bind (fun r448 => (if ((r446.2 != r448.2) || (!(p_laws_rInts r446.1 r448.1))) = true then some false else (p_spec_DrawFairSizes fu x0).bind (fun r457 => (p_impl_FairSizes fu r457).bind (fun r459 => (p_spec_FairSizes fu r457).bind (fun r461 => if ((((!((r459.2 != r461.2) || (!(p_laws_rInts r459.1 r461.1)))) && r459.2) && (!(decide ((r459.1.length : Int) = 0)))) = true → 0 < (r459.1.length : Int)) then (if (((r459.2 != r461.2) || (!(p_laws_rInts r459.1 r461.1))) || (r459.2 && ((decide ((r459.1.length : Int) = 0)) || (!(decide ((r459.1.getD 0 0) = 1)))))) = true then some false else jn (fun (s541 : Unit) => cnt (fun i545 (s544 : Unit) c546 _ => (p_impl_ModTable r457 (r459.1.getD i545.toNat 0)).bind (fun r551 => (if r551.2 = true then cnt (fun i555 (s554 : Unit) c556 _ => (if (r551.1.getD i555.toNat 0) = (r551.1.getD 0 0) then c556 () else some false)) (fun i555 (s554 : Unit) => c546 ()) (Int.toNat ((r551.1.length : Int) - 1)) 1 () else some false))) (fun i545 (s544 : Unit) => (if ((r319.2.2 && (decide (1 ≤ r317.2))) && (decide (r317.2 ≤ 5))) = true then whl (fun (s581 : Int × (List Int)) c583 => (if (IntKind.wrap .i64 (s581.1 + 1)) < (r317.1.length : Int) then if 0 ≤ (IntKind.wrap .i64 (s581.1 + 1)) then if 0 ≤ s581.1 then if s581.1 < (r317.1.length : Int) then if (s581.2.length : Int) + 2 ≤ 1000000000 then c583 ((IntKind.wrap .i64 (s581.1 + 2)), (s581.2 ++ [(r317.1.getD (IntKind.wrap .i64 (s581.1 + 1)).toNat 0), (r317.1.getD s581.1.toNat 0)])) else none else none else none else none else (p_impl_EvenCoin fu s581.2 r317.2).bind (fun r592 => (if ((!r592.2.2) || (!(decide ((r592.1.length : Int) = (r319.1.length : Int))))) = true then some false else cnt (fun i604 (s603 : Unit) c605 _ => (if (r592.1.getD i604.toNat 0) = (r319.1.getD i604.toNat 0) then some false else c605 ())) (fun i604 (s603 : Unit) => some true) (Int.toNat ((r319.1.length : Int) - 0)) 0 ())))) fu (0, []) else some true)) (Int.toNat ((r459.1.length : Int) - 0)) 0 ()) (fun k542 => (if r446.2 = true then cnt (fun i615 (s614 : Int) c616 _ => c616 (IntKind.wrap .i64 (s614 + (r446.1.getD i615.toNat 0)))) (fun i615 (s614 : Int) => cnt (fun i622 (s621 : Int) c623 _ => c623 (IntKind.wrap .i64 (6 * s621))) (fun i622 (s621 : Int) => (if ((!(decide (s614 = s621))) || (!(decide ((r446.1.length : Int) = r444.2)))) = true then some false else k542 ())) (Int.toNat ((r444.1.length : Int) - 0)) 0 1) (Int.toNat ((r446.1.length : Int) - 0)) 0 0 else k542 ()))) else none))))))))))))))))))))))))
end Go.GA
