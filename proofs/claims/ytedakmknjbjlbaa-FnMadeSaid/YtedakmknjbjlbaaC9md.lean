/- Walks: what the Go functions compute, by the printed lines below; no further conditions. -/
import Derived.Test.YtedakmknjbjlbaaGaD
namespace Go.GA
open Go
set_option maxRecDepth 100000
set_option maxHeartbeats 2000000
set_option linter.unusedVariables false
set_option linter.unusedSimpArgs false
/-- loop.example/g01210/laws.rBig -/
def p_laws_rBig (x0 : (List Int)) : Bool :=
  (decide (65536 < (x0.length : Int)))
/-- (*loop.example/g01210/spec.l1Cur).next -/
def p_spec_l1Cur_next (x0 : (List Int)) (x1 : Int) (x2 : Int) : Option (Int × Int × Int) :=
  jn (fun (s1 : Int) => (if (IntKind.wrap .i64 (x1 + 1)) ≤ (x0.length : Int) then some (s1, (IntKind.wrap .i64 (x1 + 1)), (IntKind.wrap .u64 ((IntKind.wrap .u64 ((IntKind.wrap .u64 (x2 * 6364136223846793005)) + (IntKind.wrap .u64 s1))) + 462197))) else some ((IntKind.wrap .i64 (andI .u64 (shrI .u64 (IntKind.wrap .u64 ((IntKind.wrap .u64 ((IntKind.wrap .u64 (x2 * 6364136223846793005)) + (IntKind.wrap .u64 s1))) + 462197)) 40) 255)), (IntKind.wrap .i64 (x1 + 1)), (IntKind.wrap .u64 ((IntKind.wrap .u64 ((IntKind.wrap .u64 (x2 * 6364136223846793005)) + (IntKind.wrap .u64 s1))) + 462197))))) (fun k2 => (if x1 < (x0.length : Int) then if 0 ≤ x1 then k2 (IntKind.wrap .i64 (x0.getD x1.toNat 0)) else none else k2 0))
/-- (*loop.example/g01210/spec.l1Cur).pick -/
def p_spec_l1Cur_pick (x0 : Int) (x1 : (List Int)) (x2 : Int) (x3 : Int) : Option (Int × Int × Int) :=
  (if x0 ≤ 1 then some (0, x2, x3) else (p_spec_l1Cur_next x1 x2 x3).bind (fun r4 => (if 200 < x0 then (p_spec_l1Cur_next x1 r4.2.1 r4.2.2).bind (fun r8 => some (((IntKind.wrap .i64 ((IntKind.wrap .i64 (r4.1 * 256)) + r8.1)).tmod x0), r8.2.1, r8.2.2)) else some ((r4.1.tmod x0), r4.2.1, r4.2.2))))
/-- (*loop.example/g01210/spec.l1Cur).among -/
def p_spec_l1Cur_among (x0 : (List Int)) (x1 : (List Int)) (x2 : Int) (x3 : Int) : Option (Int × Int × Int) :=
  (p_spec_l1Cur_pick (x0.length : Int) x1 x2 x3).bind (fun r1 => if 0 ≤ r1.1 then if r1.1 < (x0.length : Int) then some ((x0.getD r1.1.toNat 0), r1.2.1, r1.2.2) else none else none)
/-- (*loop.example/g01210/spec.l1Cur).size -/
def p_spec_l1Cur_size (x0 : (List Int)) (x1 : Int) (x2 : Int) : Option (Int × Int × Int) :=
  (p_spec_l1Cur_among [4, 5, 2, 7, 10, 6, 12, 36, 35, 100, 216, 1000, 1, 0, 1001, 3] x0 x1 x2).bind (fun r1 => some (r1.1, r1.2.1, r1.2.2))
/-- (*loop.example/g01210/spec.l1Cur).one -/
def p_spec_l1Cur_one (x0 : Int) (x1 : (List Int)) (x2 : Int) (x3 : Int) : Option (Bool × Int × Int) :=
  (p_spec_l1Cur_pick x0 x1 x2 x3).bind (fun r1 => some ((decide (r1.1 = 0)), r1.2.1, r1.2.2))
/-- (*loop.example/g01210/spec.l1Cur).throws -/
def p_spec_l1Cur_throws (fu : Nat) (x0 : (List Int)) (x1 : (List Int)) (x2 : Int) (x3 : Int) : Option ((List Int) × Int × Int) :=
  (p_spec_l1Cur_among x0 x1 x2 x3).bind (fun r1 => whl (fun (s2 : Int × Int × Int × (List Int)) c4 => (if 0 < s2.1 then (p_spec_l1Cur_pick 6 x1 s2.2.1 s2.2.2.1).bind (fun r9 => if (s2.2.2.2.length : Int) + 1 ≤ 1000000000 then c4 ((IntKind.wrap .i64 (s2.1 - 1)), r9.2.1, r9.2.2, (s2.2.2.2 ++ [r9.1])) else none) else (if 0 < (s2.2.2.2.length : Int) then (p_spec_l1Cur_one 30 x1 s2.2.1 s2.2.2.1).bind (fun r14 => (if r14.1 = true then (p_spec_l1Cur_pick (s2.2.2.2.length : Int) x1 r14.2.1 r14.2.2).bind (fun r16 => (p_spec_l1Cur_among [(-1), 6, 4611686018427387904] x1 r16.2.1 r16.2.2).bind (fun r17 => if 0 ≤ r16.1 then if r16.1 < (s2.2.2.2.length : Int) then some ((s2.2.2.2.set r16.1.toNat r17.1), r17.2.1, r17.2.2) else none else none)) else some (s2.2.2.2, r14.2.1, r14.2.2))) else some (s2.2.2.2, s2.2.1, s2.2.2.1)))) fu (r1.1, r1.2.1, r1.2.2, []))
/-- loop.example/g01210/spec.DrawMakeNumber -/
def p_spec_DrawMakeNumber (fu : Nat) (x0 : (List Int)) : Option (Int × (List Int)) :=
  (p_spec_l1Cur_size x0 0 0).bind (fun r1 => (p_spec_l1Cur_throws fu [2, 3, 1, 4, 5, 6, 0, 7] x0 r1.2.1 r1.2.2).bind (fun r2 => some (r1.1, r2.1)))
/-- loop.example/g01210/impl.within -/
def p_impl_within (x0 : Int) (x1 : Int) (x2 : Int) : Bool :=
  ((decide (x1 ≤ x0)) && (decide (x0 ≤ x2)))
/-- loop.example/g01210/impl.power -/
def p_impl_power (fu : Nat) (x0 : Int) : Option (Int) :=
  whl (fun (s1 : Int × Int) c3 => (if s1.2 < x0 then c3 ((IntKind.wrap .i64 (s1.1 * 6)), (IntKind.wrap .i64 (s1.2 + 1))) else some s1.1)) fu (1, 0)
/-- loop.example/g01210/impl.isMade -/
def p_impl_isMade (fu : Nat) (x0 : Int) (x1 : Int) : Option (Bool) :=
  if (((p_impl_within x0 1 1000) && (p_impl_within x1 1 6)) = true → (p_impl_power fu x1).isSome = true) then some (((p_impl_within x0 1 1000) && (p_impl_within x1 1 6)) && (decide (x0 ≤ ((p_impl_power fu x1).getD 0)))) else none
/-- loop.example/g01210/impl.isSide -/
def p_impl_isSide (x0 : Int) : Bool :=
  (p_impl_within x0 0 5)
/-- loop.example/g01210/impl.areAll[int]$1 -/
def p_impl_areAll_int_1 (x0 : Int) : Bool :=
  (!(p_impl_isSide x0))
/-- slices.IndexFunc[[]int,int] -/
def p_slices_IndexFunc_int_int (x0 : (List Int)) : Int :=
  cnt (fun i2 (s1 : Unit) c3 _ => (if (p_impl_areAll_int_1 (x0.getD i2.toNat 0)) = true then i2 else c3 ())) (fun i2 (s1 : Unit) => (-1)) (Int.toNat ((x0.length : Int) - 0)) 0 ()
/-- slices.ContainsFunc[[]int,int] -/
def p_slices_ContainsFunc_int_int (x0 : (List Int)) : Bool :=
  (decide (0 ≤ (p_slices_IndexFunc_int_int x0)))
/-- loop.example/g01210/impl.areAll[int] -/
def p_impl_areAll_int (x0 : (List Int)) : Bool :=
  (!(p_slices_ContainsFunc_int_int x0))
/-- loop.example/g01210/impl.areThrows -/
def p_impl_areThrows (x0 : (List Int)) : Bool :=
  (p_impl_areAll_int x0)
/-- loop.example/g01210/impl.numberOf -/
def p_impl_numberOf (x0 : (List Int)) : Int :=
  cnt (fun i2 (s1 : Int) c3 _ => c3 (IntKind.wrap .i64 ((IntKind.wrap .i64 (s1 * 6)) + (x0.getD i2.toNat 0)))) (fun i2 (s1 : Int) => s1) (Int.toNat ((x0.length : Int) - 0)) 0 0
/-- loop.example/g01210/impl.taken -/
def p_impl_taken (fu : Nat) (x0 : Int) (x1 : Int) : Option (Int) :=
  (p_impl_power fu x1).bind (fun r1 => if x0 ≠ 0 then some (IntKind.wrap .i64 ((IntKind.wrap .i64 (r1.tdiv x0)) * x0)) else none)
/-- loop.example/g01210/impl.MakeNumber -/
def p_impl_MakeNumber (fu : Nat) (x0 : Int) (x1 : (List Int)) : Option (Int × Bool × Bool) :=
  (p_impl_isMade fu x0 (x1.length : Int)).bind (fun r1 => (if ((!r1) || (!(p_impl_areThrows x1))) = true then some (0, false, false) else (p_impl_taken fu x0 (x1.length : Int)).bind (fun r8 => (if r8 ≤ (p_impl_numberOf x1) then some (0, false, true) else if x0 ≠ 0 then some (((p_impl_numberOf x1).tmod x0), true, true) else none))))
/-- loop.example/g01210/spec.l1In -/
def p_spec_l1In (x0 : Int) (x1 : Int) (x2 : Int) : Bool :=
  ((decide (x1 ≤ x0)) && (decide (x0 ≤ x2)))
/-- loop.example/g01210/spec.l9Throws -/
def p_spec_l9Throws (x0 : (List Int)) (x1 : Int) : Bool :=
  cnt (fun i2 (s1 : Unit) c3 k17 => (if ((decide (i2 < (x0.length : Int))) && (decide (i2 ≤ x1))) = true then (if (p_spec_l1In (x0.getD i2.toNat 0) 0 5) = true then c3 () else false) else k17 i2 s1)) (fun i2 (s1 : Unit) => (decide ((x0.length : Int) ≤ x1))) (Int.toNat ((x0.length : Int) - 0)) 0 ()
/-- loop.example/g01210/spec.l2All -/
def p_spec_l2All (fu : Nat) (x0 : Int) : Option (Int) :=
  whl (fun (s1 : Int × Int) c3 => (if s1.2 < x0 then c3 ((IntKind.wrap .i64 (s1.1 * 6)), (IntKind.wrap .i64 (s1.2 + 1))) else some s1.1)) fu (1, 0)
/-- loop.example/g01210/spec.l9Good -/
def p_spec_l9Good (fu : Nat) (x0 : Int) (x1 : Int) : Option (Bool) :=
  if (((p_spec_l1In x0 1 1000) && (p_spec_l1In x1 1 6)) = true → (p_spec_l2All fu x1).isSome = true) then some (((p_spec_l1In x0 1 1000) && (p_spec_l1In x1 1 6)) && (decide (x0 ≤ ((p_spec_l2All fu x1).getD 0)))) else none
/-- loop.example/g01210/spec.l9Number -/
def p_spec_l9Number (x0 : (List Int)) : Int :=
  cnt (fun i2 (s1 : Int) c3 _ => c3 (IntKind.wrap .i64 ((IntKind.wrap .i64 (6 * s1)) + (x0.getD i2.toNat 0)))) (fun i2 (s1 : Int) => s1) (Int.toNat ((x0.length : Int) - 0)) 0 0
/-- loop.example/g01210/spec.l9Taken -/
def p_spec_l9Taken (fu : Nat) (x0 : Int) (x1 : Int) : Option (Int) :=
  (p_spec_l2All fu x1).bind (fun r1 => if x0 ≠ 0 then some (IntKind.wrap .i64 ((IntKind.wrap .i64 (r1.tdiv x0)) * x0)) else none)
/-- loop.example/g01210/spec.MakeNumber -/
def p_spec_MakeNumber (fu : Nat) (x0 : Int) (x1 : (List Int)) : Option (Int × Bool × Bool) :=
  if ((!(!(p_spec_l9Throws x1 6))) = true → (p_spec_l9Good fu x0 (x1.length : Int)).isSome = true) then (if ((!(p_spec_l9Throws x1 6)) || (!((p_spec_l9Good fu x0 (x1.length : Int)).getD false))) = true then some (0, false, false) else (p_spec_l9Taken fu x0 (x1.length : Int)).bind (fun r10 => (if r10 ≤ (p_spec_l9Number x1) then some (0, false, true) else if x0 ≠ 0 then some (((p_spec_l9Number x1).tmod x0), true, true) else none))) else none
/-- loop.example/g01210/spec.DrawNumberOfThrows -/
def p_spec_DrawNumberOfThrows (fu : Nat) (x0 : (List Int)) : Option ((List Int)) :=
  (p_spec_l1Cur_throws fu [2, 3, 1, 6, 4, 0, 7] x0 0 0).bind (fun r1 => some r1.1)
/-- loop.example/g01210/impl.NumberOfThrows -/
def p_impl_NumberOfThrows (x0 : (List Int)) : Int × Bool :=
  (if ((!(p_impl_within (x0.length : Int) 1 6)) || (!(p_impl_areThrows x0))) = true then (0, false) else ((p_impl_numberOf x0), true))
/-- loop.example/g01210/spec.NumberOfThrows -/
def p_spec_NumberOfThrows (x0 : (List Int)) : Int × Bool :=
  (if ((!(p_spec_l9Throws x0 6)) || (decide ((x0.length : Int) = 0))) = true then (0, false) else ((p_spec_l9Number x0), true))
/-- loop.example/g01210/spec.DrawTakenOf -/
def p_spec_DrawTakenOf (x0 : (List Int)) : Option (Int × Int) :=
  (p_spec_l1Cur_size x0 0 0).bind (fun r1 => (p_spec_l1Cur_among [2, 1, 3, 4, 6, 0, 7, 5] x0 r1.2.1 r1.2.2).bind (fun r2 => some (r1.1, r2.1)))
/-- loop.example/g01210/impl.TakenOf -/
def p_impl_TakenOf (fu : Nat) (x0 : Int) (x1 : Int) : Option (Int × Bool) :=
  (p_impl_isMade fu x0 x1).bind (fun r1 => (if r1 = true then (p_impl_taken fu x0 x1).bind (fun r3 => some (r3, true)) else some (0, false)))
/-- loop.example/g01210/spec.TakenOf -/
def p_spec_TakenOf (fu : Nat) (x0 : Int) (x1 : Int) : Option (Int × Bool) :=
  (p_spec_l9Good fu x0 x1).bind (fun r1 => (if r1 = true then (p_spec_l9Taken fu x0 x1).bind (fun r3 => some (r3, true)) else some (0, false)))
/-- loop.example/g01210/impl.fraction -/
def p_impl_fraction (fu : Nat) (x0 : Int) (x1 : Int) : Option ((List Int)) :=
  whl (fun (s1 : Int × Int) c3 => (if s1.2 = 0 then if s1.1 ≠ 0 then if s1.1 ≠ 0 then some [(IntKind.wrap .i64 (x0.tdiv s1.1)), (IntKind.wrap .i64 (x1.tdiv s1.1))] else none else none else if s1.2 ≠ 0 then c3 (s1.2, (s1.1.tmod s1.2)) else none)) fu (x0, x1)
/-- loop.example/g01210/impl.MeanThrows -/
def p_impl_MeanThrows (fu : Nat) (x0 : Int) (x1 : Int) : Option ((List Int) × Bool) :=
  (p_impl_isMade fu x0 x1).bind (fun r1 => (if r1 = true then (p_impl_power fu x1).bind (fun r3 => (p_impl_taken fu x0 x1).bind (fun r4 => (p_impl_fraction fu (IntKind.wrap .i64 (x1 * r3)) r4).bind (fun r5 => some (r5, true)))) else some ((List.replicate 2 0), false)))
/-- loop.example/g01210/spec.l1Most -/
def p_spec_l1Most (x0 : Int) (x1 : Int) : Int :=
  (if x1 < x0 then x0 else x1)
/-- loop.example/g01210/spec.l2Cut -/
def p_spec_l2Cut (fu : Nat) (x0 : Int) (x1 : Int) : Option ((List Int)) :=
  whl (fun (s1 : Int × Int) c3 => (if 0 < s1.2 then c3 (s1.2, (s1.1.tmod s1.2)) else if (p_spec_l1Most s1.1 1) ≠ 0 then if (p_spec_l1Most s1.1 1) ≠ 0 then some [(IntKind.wrap .i64 (x0.tdiv (p_spec_l1Most s1.1 1))), (IntKind.wrap .i64 (x1.tdiv (p_spec_l1Most s1.1 1)))] else none else none)) fu (x0, x1)
/-- loop.example/g01210/spec.MeanThrows -/
def p_spec_MeanThrows (fu : Nat) (x0 : Int) (x1 : Int) : Option ((List Int) × Bool) :=
  (p_spec_l9Good fu x0 x1).bind (fun r1 => (if r1 = true then (p_spec_l2All fu x1).bind (fun r3 => (p_spec_l9Taken fu x0 x1).bind (fun r4 => (p_spec_l2Cut fu (IntKind.wrap .i64 (x1 * r3)) r4).bind (fun r5 => some (r5, true)))) else some ((List.replicate 2 0), false)))
/-- loop.example/g01210/spec.DrawBestThrows -/
def p_spec_DrawBestThrows (x0 : (List Int)) : Option (Int) :=
  (p_spec_l1Cur_one 2 x0 0 0).bind (fun r1 => (if r1.1 = true then (p_spec_l1Cur_pick 1000 x0 r1.2.1 r1.2.2).bind (fun r3 => some (IntKind.wrap .i64 (1 + r3.1))) else (p_spec_l1Cur_size x0 r1.2.1 r1.2.2).bind (fun r4 => some r4.1)))
/-- loop.example/g01210/impl.BestThrows -/
def p_impl_BestThrows (fu : Nat) (x0 : Int) : Option (Int × (List Int) × Bool) :=
  whl (fun (s1 : Int × Int × (List Int)) c3 => (if s1.2.1 ≤ 6 then (p_impl_MeanThrows fu x0 s1.2.1).bind (fun r8 => (if (r8.2 && ((decide (s1.1 = 0)) || (decide ((IntKind.wrap .i64 ((r8.1.getD 0 0) * (s1.2.2.getD 1 0))) < (IntKind.wrap .i64 ((s1.2.2.getD 0 0) * (r8.1.getD 1 0))))))) = true then c3 (s1.2.1, (s1.2.1 + 1), r8.1) else c3 (s1.1, (s1.2.1 + 1), s1.2.2))) else some (s1.1, s1.2.2, (decide (0 < s1.1))))) fu (0, 1, (List.replicate 2 0))
/-- loop.example/g01210/spec.l2Less -/
def p_spec_l2Less (x0 : (List Int)) (x1 : (List Int)) : Bool :=
  (decide ((IntKind.wrap .i64 ((x0.getD 0 0) * (x1.getD 1 0))) < (IntKind.wrap .i64 ((x1.getD 0 0) * (x0.getD 1 0)))))
/-- loop.example/g01210/spec.BestThrows -/
def p_spec_BestThrows (fu : Nat) (x0 : Int) : Option (Int × (List Int) × Bool) :=
  whl (fun (s1 : Int × Int × (List Int)) c3 => (if s1.2.1 ≤ 6 then (p_spec_MeanThrows fu x0 s1.2.1).bind (fun r8 => (if (r8.2 && ((decide (s1.1 = 0)) || (p_spec_l2Less r8.1 s1.2.2))) = true then c3 (s1.2.1, (s1.2.1 + 1), r8.1) else c3 (s1.1, (s1.2.1 + 1), s1.2.2))) else some (s1.1, s1.2.2, (decide (0 < s1.1))))) fu (0, 1, (List.replicate 2 0))
/-- loop.example/g01210/spec.DrawMakeList -/
def p_spec_DrawMakeList (fu : Nat) (x0 : (List Int)) : Option (Int × Int × (List Int)) :=
  (p_spec_l1Cur_size x0 0 0).bind (fun r1 => (p_spec_l1Cur_among [1, 2, 3, 2, 4, 0] x0 r1.2.1 r1.2.2).bind (fun r2 => (p_spec_l1Cur_throws fu [12, 20, 5, 1, 0, 40, 41] x0 r2.2.1 r2.2.2).bind (fun r3 => some (r1.1, r2.1, r3.1))))
/-- loop.example/g01210/impl.isList -/
def p_impl_isList (x0 : (List Int)) : Bool :=
  (decide ((x0.length : Int) ≤ 40))
/-- slices.Chunk[[]int,int] -/
def p_slices_Chunk_int_int (x0 : (List Int)) (x1 : Int) : Option ((List Int) × Int) :=
  (if x1 < 1 then none else some (x0, x1))
/-- loop.example/g01210/impl.MakeList -/
def p_impl_MakeList (fu : Nat) (x0 : Int) (x1 : Int) (x2 : (List Int)) : Option ((List Int) × Int × Bool) :=
  (p_impl_isMade fu x0 x1).bind (fun r1 => (if (((!r1) || (!(p_impl_isList x2))) || (!(p_impl_areThrows x2))) = true then some ([], 0, false) else (p_slices_Chunk_int_int x2 x1).bind (fun r19 => whl (fun (s20 : Int × Int × (List Int)) c22 => (if s20.1 < (r19.1.length : Int) then if 0 ≤ s20.1 then if s20.1 ≤ (IntKind.wrap .i64 (s20.1 + (if ((r19.1.length : Int) - s20.1) < r19.2 then ((r19.1.length : Int) - s20.1) else r19.2))) then if (IntKind.wrap .i64 (s20.1 + (if ((r19.1.length : Int) - s20.1) < r19.2 then ((r19.1.length : Int) - s20.1) else r19.2))) ≤ (r19.1.length : Int) then (if ((IntKind.wrap .i64 (s20.1 + (if ((r19.1.length : Int) - s20.1) < r19.2 then ((r19.1.length : Int) - s20.1) else r19.2))) - s20.1) < x1 then some (s20.2.2, s20.2.1, true) else (p_impl_MakeNumber fu x0 ((r19.1.take (IntKind.wrap .i64 (s20.1 + (if ((r19.1.length : Int) - s20.1) < r19.2 then ((r19.1.length : Int) - s20.1) else r19.2))).toNat).drop s20.1.toNat)).bind (fun r33 => (if r33.2.1 = true then if (s20.2.2.length : Int) + 1 ≤ 1000000000 then c22 ((IntKind.wrap .i64 (s20.1 + r19.2)), s20.2.1, (s20.2.2 ++ [r33.1])) else none else c22 ((IntKind.wrap .i64 (s20.1 + r19.2)), (IntKind.wrap .i64 (s20.2.1 + 1)), s20.2.2)))) else none else none else none else some (s20.2.2, s20.2.1, true))) fu (0, 0, []))))
/-- loop.example/g01210/spec.MakeList -/
def p_spec_MakeList (fu : Nat) (x0 : Int) (x1 : Int) (x2 : (List Int)) : Option ((List Int) × Int × Bool) :=
  (p_spec_l9Good fu x0 x1).bind (fun r1 => (if ((!r1) || (!(p_spec_l9Throws x2 40))) = true then some ([], 0, false) else whl (fun (s8 : Int × Int × (List Int)) c10 => (if (IntKind.wrap .i64 (s8.2.1 + x1)) ≤ (x2.length : Int) then if s8.2.1 ≤ (IntKind.wrap .i64 (s8.2.1 + x1)) then (p_spec_l9Taken fu x0 x1).bind (fun r16 => (if (p_spec_l9Number ((x2.take (IntKind.wrap .i64 (s8.2.1 + x1)).toNat).drop s8.2.1.toNat)) < r16 then if x0 ≠ 0 then if (s8.2.2.length : Int) + 1 ≤ 1000000000 then c10 (s8.1, (IntKind.wrap .i64 (s8.2.1 + x1)), (s8.2.2 ++ [((p_spec_l9Number ((x2.take (IntKind.wrap .i64 (s8.2.1 + x1)).toNat).drop s8.2.1.toNat)).tmod x0)])) else none else none else c10 ((IntKind.wrap .i64 (s8.1 + 1)), (IntKind.wrap .i64 (s8.2.1 + x1)), s8.2.2))) else none else some (s8.2.2, s8.1, true))) fu (0, 0, [])))
/-- loop.example/g01210/laws.rInts -/
def p_laws_rInts (x0 : (List Int)) (x1 : (List Int)) : Bool :=
  (if (x0.length : Int) = (x1.length : Int) then cnt (fun i5 (s4 : Unit) c6 _ => (if (x0.getD i5.toNat 0) = (x1.getD i5.toNat 0) then c6 () else false)) (fun i5 (s4 : Unit) => true) (Int.toNat ((x0.length : Int) - 0)) 0 () else false)
/-- loop.example/g01210/spec.DrawRoomForBits -/
def p_spec_DrawRoomForBits (x0 : (List Int)) : Option (Int) :=
  (p_spec_l1Cur_pick 23 x0 0 0).bind (fun r1 => some (IntKind.wrap .i64 (r1.1 - 1)))
/-- loop.example/g01210/impl.RoomForBits -/
def p_impl_RoomForBits (fu : Nat) (x0 : Int) : Option (Int × Bool) :=
  (if (p_impl_within x0 0 20) = true then whl (fun (s2 : Int) c4 => if 0 ≤ (IntKind.wrap .i64 (s2 + 1)) then (p_impl_power fu x0).bind (fun r7 => (if (shlI .i64 1 (IntKind.wrap .i64 (s2 + 1))) ≤ r7 then c4 (IntKind.wrap .i64 (s2 + 1)) else some (s2, true))) else none) fu 0 else some (0, false))
/-- loop.example/g01210/spec.RoomForBits -/
def p_spec_RoomForBits (fu : Nat) (x0 : Int) : Option (Int × Bool) :=
  (if (p_spec_l1In x0 0 20) = true then (p_spec_l2All fu x0).bind (fun r2 => whl (fun (s3 : Int) c5 => if 0 ≤ s3 then (if (shlI .i64 2 s3) ≤ r2 then c5 (IntKind.wrap .i64 (s3 + 1)) else some (s3, true)) else none) fu 0) else some (0, false))
/-- loop.example/g01210/laws.FnMade -/
def p_laws_FnMade (fu : Nat) (x0 : (List Int)) : Option (Bool) :=
  (if (p_laws_rBig x0) = true then some true else (p_spec_DrawMakeNumber fu x0).bind (fun r2 => (p_impl_MakeNumber fu r2.1 r2.2).bind (fun r4 => (p_spec_MakeNumber fu r2.1 r2.2).bind (fun r5 => (if (((!(decide (r4.1 = r5.1))) || (r4.2.1 != r5.2.1)) || (r4.2.2 != r5.2.2)) = true then some false else (p_spec_DrawNumberOfThrows fu x0).bind (fun r30 => (if ((!(decide ((p_impl_NumberOfThrows r30).1 = (p_spec_NumberOfThrows r30).1))) || (((p_impl_NumberOfThrows r30).2) != ((p_spec_NumberOfThrows r30).2))) = true then some false else (p_spec_DrawTakenOf x0).bind (fun r42 => (p_impl_TakenOf fu r42.1 r42.2).bind (fun r43 => (p_spec_TakenOf fu r42.1 r42.2).bind (fun r44 => (if ((!(decide (r43.1 = r44.1))) || (r43.2 != r44.2)) = true then some false else (p_impl_MeanThrows fu r42.1 r42.2).bind (fun r55 => (p_spec_MeanThrows fu r42.1 r42.2).bind (fun r56 => (if (((!(decide (r55.1 = r56.1))) || (r55.2 != r56.2)) || (r55.2 != r43.2)) = true then some false else (p_spec_DrawBestThrows x0).bind (fun r74 => (p_impl_BestThrows fu r74).bind (fun r75 => (p_spec_BestThrows fu r74).bind (fun r76 => (if (((!(decide (r75.1 = r76.1))) || (!(decide (r75.2.1 = r76.2.1)))) || (r75.2.2 != r76.2.2)) = true then some false else (p_spec_DrawMakeList fu x0).bind (fun r101 => (p_impl_MakeList fu r101.1 r101.2.1 r101.2.2).bind (fun r103 => (p_spec_MakeList fu r101.1 r101.2.1 r101.2.2).bind (fun r105 => (if (((!(decide (r103.2.1 = r105.2.1))) || (r103.2.2 != r105.2.2)) || (!(p_laws_rInts r103.1 r105.1))) = true then some false else (p_spec_DrawRoomForBits x0).bind (fun r135 => (p_impl_RoomForBits fu r135).bind (fun r136 => (p_spec_RoomForBits fu r135).bind (fun r137 => (if ((!(decide (r136.1 = r137.1))) || (r136.2 != r137.2)) = true then some false else jn (fun (s148 : Unit) => jn (fun (s151 : Unit) => jn (fun (s154 : Unit) => (if r103.2.2 = true then (if ((decide ((r101.2.2.length : Int) < (IntKind.wrap .i64 (r101.2.1 * (IntKind.wrap .i64 ((r103.1.length : Int) + r103.2.1)))))) || (decide ((IntKind.wrap .i64 (r101.2.1 * (IntKind.wrap .i64 ((IntKind.wrap .i64 ((r103.1.length : Int) + r103.2.1)) + 1)))) ≤ (r101.2.2.length : Int)))) = true then some false else cnt (fun i184 (s183 : Unit) c185 _ => (if ((decide ((r103.1.getD i184.toNat 0) < 0)) || (decide (r101.1 ≤ (r103.1.getD i184.toNat 0)))) = true then some false else c185 ())) (fun i184 (s183 : Unit) => some true) (Int.toNat ((r103.1.length : Int) - 0)) 0 ()) else some true)) (fun k155 => (if r75.2.2 = true then whl (fun (s208 : Int) c210 => (if s208 ≤ 6 then (p_impl_MeanThrows fu r74 s208).bind (fun r215 => (if (r215.2 && ((decide ((IntKind.wrap .i64 ((r215.1.getD 0 0) * (r75.2.1.getD 1 0))) < (IntKind.wrap .i64 ((r75.2.1.getD 0 0) * (r215.1.getD 1 0))))) || ((decide (s208 < r75.1)) && (decide (r215.1 = r75.2.1))))) = true then some false else c210 (s208 + 1))) else k155 ())) fu 1 else k155 ()))) (fun k152 => (if r43.2 = true then whl (fun (s274 : Int × Int) c276 => (if s274.2 < r42.2 then c276 ((IntKind.wrap .i64 (6 * s274.1)), (IntKind.wrap .i64 (s274.2 + 1))) else if r42.1 ≠ 0 then (if (((((!(decide ((r43.1.tmod r42.1) = 0))) || (decide (s274.1 < r43.1))) || (decide ((IntKind.wrap .i64 (r43.1 + r42.1)) ≤ s274.1))) || (!(decide ((IntKind.wrap .i64 ((r55.1.getD 0 0) * r43.1)) = (IntKind.wrap .i64 ((IntKind.wrap .i64 (r42.2 * s274.1)) * (r55.1.getD 1 0))))))) || ((decide (r55.1 = [r42.2, 1])) != (decide (r43.1 = s274.1)))) = true then some false else k152 ()) else none)) fu (1, 0) else k152 ()))) (fun k149 => (if r4.2.2 = true then (p_impl_TakenOf fu r2.1 (r2.2.length : Int)).bind (fun r503 => if (((!(((!((p_impl_NumberOfThrows r2.2).2)) || (!r503.2)) || (r4.2.1 != (decide ((p_impl_NumberOfThrows r2.2).1 < r503.1))))) && r4.2.1) = true → r2.1 ≠ 0) then (if (((((!((p_impl_NumberOfThrows r2.2).2)) || (!r503.2)) || (r4.2.1 != (decide ((p_impl_NumberOfThrows r2.2).1 < r503.1)))) || (r4.2.1 && (!(decide (r4.1 = (((p_impl_NumberOfThrows r2.2).1).tmod r2.1)))))) || ((!r4.2.1) && (!(decide (r4.1 = 0))))) = true then some false else k149 ()) else none) else k149 ()))))))))))))))))))))))))))))
end Go.GA
