/- Walks: what the Go functions compute, by the printed lines below; no further conditions. -/
import Derived.Test.YtnomfaepgmbogaaGaD
namespace Go.GA
open Go
set_option maxRecDepth 100000
set_option maxHeartbeats 2000000
set_option linter.unusedVariables false
set_option linter.unusedSimpArgs false
abbrev dy8 : Type := (List Int)
abbrev ty7 : Ty := (.int .i64)
abbrev dy6 : Type := (List dy8)
abbrev ty5 : Ty := (.slice (.int .u8))
abbrev ty4 : Ty := (.arr 6 ty7)
abbrev ty3 : Ty := (.slice ty7)
abbrev ty2 : Ty := (.slice ty4)
abbrev ty1 : Ty := (.pair (.arr 4 ty7) .unit)
/-- loop.example/g01210/laws.vBig -/
def p_laws_vBig (x0 : dy8) : Bool :=
  (decide (65536 < (x0.length : Int)))
/-- (*loop.example/g01210/spec.l1Cur).next -/
def p_spec_l1Cur_next (x0 : dy8) (x1 : Int) (x2 : Int) : Option (Int × Int × Int) :=
  jn (fun (s1 : Int) => (if (IntKind.wrap .i64 (x1 + 1)) ≤ (x0.length : Int) then some (s1, (IntKind.wrap .i64 (x1 + 1)), (IntKind.wrap .u64 ((IntKind.wrap .u64 ((IntKind.wrap .u64 (x2 * 6364136223846793005)) + (IntKind.wrap .u64 s1))) + 462197))) else some ((IntKind.wrap .i64 (andI .u64 (shrI .u64 (IntKind.wrap .u64 ((IntKind.wrap .u64 ((IntKind.wrap .u64 (x2 * 6364136223846793005)) + (IntKind.wrap .u64 s1))) + 462197)) 40) 255)), (IntKind.wrap .i64 (x1 + 1)), (IntKind.wrap .u64 ((IntKind.wrap .u64 ((IntKind.wrap .u64 (x2 * 6364136223846793005)) + (IntKind.wrap .u64 s1))) + 462197))))) (fun k2 => (if x1 < (x0.length : Int) then if 0 ≤ x1 then k2 (IntKind.wrap .i64 (x0.getD x1.toNat 0)) else none else k2 0))
/-- (*loop.example/g01210/spec.l1Cur).pick -/
def p_spec_l1Cur_pick (x0 : Int) (x1 : dy8) (x2 : Int) (x3 : Int) : Option (Int × Int × Int) :=
  (if x0 ≤ 1 then some (0, x2, x3) else (p_spec_l1Cur_next x1 x2 x3).bind (fun r4 => (if 200 < x0 then (p_spec_l1Cur_next x1 r4.2.1 r4.2.2).bind (fun r8 => some (((IntKind.wrap .i64 ((IntKind.wrap .i64 (r4.1 * 256)) + r8.1)).tmod x0), r8.2.1, r8.2.2)) else some ((r4.1.tmod x0), r4.2.1, r4.2.2))))
/-- (*loop.example/g01210/spec.l1Cur).among -/
def p_spec_l1Cur_among (x0 : dy8) (x1 : dy8) (x2 : Int) (x3 : Int) : Option (Int × Int × Int) :=
  (p_spec_l1Cur_pick (x0.length : Int) x1 x2 x3).bind (fun r1 => if 0 ≤ r1.1 then if r1.1 < (x0.length : Int) then some ((x0.getD r1.1.toNat 0), r1.2.1, r1.2.2) else none else none)
/-- (*loop.example/g01210/spec.l1Cur).one -/
def p_spec_l1Cur_one (x0 : Int) (x1 : dy8) (x2 : Int) (x3 : Int) : Option (Bool × Int × Int) :=
  (p_spec_l1Cur_pick x0 x1 x2 x3).bind (fun r1 => some ((decide (r1.1 = 0)), r1.2.1, r1.2.2))
/-- (*loop.example/g01210/spec.l1Cur).letters10 -/
def p_spec_l1Cur_letters10 (fu : Nat) (x0 : dy8) (x1 : Int) (x2 : Int) : Option (dy8 × Int × Int) :=
  (p_spec_l1Cur_among [2, 3, 2, 1] x0 x1 x2).bind (fun r1 => jn (fun (s2 : Int × Int × Int) => whl (fun (s5 : Int × Int × dy8 × dy8) c7 => (if (s5.2.2.1.length : Int) < (IntKind.wrap .i64 (6 * s2.1)) then (p_spec_l1Cur_pick s2.1 x0 s5.1 s5.2.1).bind (fun r12 => if 0 ≤ r12.1 then if r12.1 < 4 then (if (s5.2.2.2.getD r12.1.toNat 0) < 6 then if (s5.2.2.1.length : Int) + 1 ≤ 1000000000 then c7 (r12.2.1, r12.2.2, (s5.2.2.1 ++ [r12.1]), (s5.2.2.2.set r12.1.toNat (IntKind.wrap .i64 ((s5.2.2.2.getD r12.1.toNat 0) + 1)))) else none else c7 (r12.2.1, r12.2.2, s5.2.2.1, s5.2.2.2)) else none else none) else (p_spec_l1Cur_pick 40 x0 s5.1 s5.2.1).bind (fun r19 => (if r19.1 = 0 then (p_spec_l1Cur_pick (s5.2.2.1.length : Int) x0 r19.2.1 r19.2.2).bind (fun r23 => (p_spec_l1Cur_among [(-1), 0, s2.1, 4, 4611686018427387904] x0 r23.2.1 r23.2.2).bind (fun r24 => if 0 ≤ r23.1 then if r23.1 < (s5.2.2.1.length : Int) then some ((s5.2.2.1.set r23.1.toNat r24.1), r24.2.1, r24.2.2) else none else none)) else (if r19.1 = 1 then if 0 ≤ (IntKind.wrap .i64 ((s5.2.2.1.length : Int) - 1)) then if (IntKind.wrap .i64 ((s5.2.2.1.length : Int) - 1)) ≤ (s5.2.2.1.length : Int) then some ((s5.2.2.1.take (IntKind.wrap .i64 ((s5.2.2.1.length : Int) - 1)).toNat), r19.2.1, r19.2.2) else none else none else (if r19.1 = 2 then some ([], r19.2.1, r19.2.2) else some (s5.2.2.1, r19.2.1, r19.2.2))))))) fu (s2.2.1, s2.2.2, [], (List.replicate 4 0))) (fun k3 => (p_spec_l1Cur_one 12 x0 r1.2.1 r1.2.2).bind (fun r35 => (if r35.1 = true then k3 (4, r35.2.1, r35.2.2) else k3 (r1.1, r35.2.1, r35.2.2)))))
/-- loop.example/g01210/spec.DrawMendLetters -/
def p_spec_DrawMendLetters (fu : Nat) (x0 : dy8) : Option (dy8) :=
  (p_spec_l1Cur_letters10 fu x0 0 0).bind (fun r1 => (if 18 < (r1.1.length : Int) then some (r1.1.take 18) else some r1.1))
/-- loop.example/g01210/impl.within -/
def p_impl_within (x0 : Int) (x1 : Int) (x2 : Int) : Bool :=
  ((decide (x1 ≤ x0)) && (decide (x0 ≤ x2)))
/-- loop.example/g01210/impl.fromLetters -/
def p_impl_fromLetters (x0 : dy8) : Option (dy6 × Bool) :=
  (if ((!(decide (((x0.length : Int).tmod 6) = 0))) || (!(p_impl_within (IntKind.wrap .i64 ((x0.length : Int).tdiv 6)) 1 4))) = true then some ([], false) else if 0 ≤ (IntKind.wrap .i64 ((x0.length : Int).tdiv 6)) then if (IntKind.wrap .i64 ((x0.length : Int).tdiv 6)) ≤ 1000000000 then cnt (fun i14 (s13 : dy6 × dy8) c15 _ => if ((!(!(p_impl_within (x0.getD i14.toNat 0) 0 ((IntKind.wrap .i64 ((x0.length : Int).tdiv 6)) - 1)))) = true → 0 ≤ (x0.getD i14.toNat 0)) then if ((!(!(p_impl_within (x0.getD i14.toNat 0) 0 ((IntKind.wrap .i64 ((x0.length : Int).tdiv 6)) - 1)))) = true → (x0.getD i14.toNat 0) < (IntKind.wrap .i64 ((x0.length : Int).tdiv 6))) then (if ((!(p_impl_within (x0.getD i14.toNat 0) 0 ((IntKind.wrap .i64 ((x0.length : Int).tdiv 6)) - 1))) || (decide ((s13.2.getD (x0.getD i14.toNat 0).toNat 0) = 6))) = true then some ([], false) else if 0 ≤ (x0.getD i14.toNat 0) then if (x0.getD i14.toNat 0) < (IntKind.wrap .i64 ((x0.length : Int).tdiv 6)) then if 0 ≤ (s13.2.getD (x0.getD i14.toNat 0).toNat 0) then if (s13.2.getD (x0.getD i14.toNat 0).toNat 0) < 6 then c15 ((s13.1.set (x0.getD i14.toNat 0).toNat ((s13.1.getD (x0.getD i14.toNat 0).toNat (List.replicate 6 0)).set (s13.2.getD (x0.getD i14.toNat 0).toNat 0).toNat (i14 + 1))), (s13.2.set (x0.getD i14.toNat 0).toNat ((s13.2.getD (x0.getD i14.toNat 0).toNat 0) + 1))) else none else none else none else none) else none else none) (fun i14 (s13 : dy6 × dy8) => some (s13.1, true)) (Int.toNat ((x0.length : Int) - 0)) 0 ((List.replicate (IntKind.wrap .i64 ((x0.length : Int).tdiv 6)).toNat (List.replicate 6 0)), (List.replicate (IntKind.wrap .i64 ((x0.length : Int).tdiv 6)).toNat 0)) else none else none)
/-- loop.example/g01210/impl.FromLetters -/
def p_impl_FromLetters (x0 : dy8) : Option (dy6 × Bool) :=
  (p_impl_fromLetters x0).bind (fun r1 => some (r1.1, r1.2))
/-- loop.example/g01210/spec.l1In -/
def p_spec_l1In (x0 : Int) (x1 : Int) (x2 : Int) : Bool :=
  ((decide (x1 ≤ x0)) && (decide (x0 ≤ x2)))
/-- loop.example/g01210/spec.l10Letters -/
def p_spec_l10Letters (x0 : dy8) : Option (Bool) :=
  (if ((!(decide (((x0.length : Int).tmod 6) = 0))) || (!(p_spec_l1In (x0.length : Int) 6 24))) = true then some false else cnt (fun i14 (s13 : dy8) c15 _ => (if (p_spec_l1In (x0.getD i14.toNat 0) 0 (IntKind.wrap .i64 ((IntKind.wrap .i64 ((x0.length : Int).tdiv 6)) - 1))) = true then if 0 ≤ (x0.getD i14.toNat 0) then if (x0.getD i14.toNat 0) < 4 then c15 (s13.set (x0.getD i14.toNat 0).toNat (IntKind.wrap .i64 ((s13.getD (x0.getD i14.toNat 0).toNat 0) + 1))) else none else none else some false)) (fun i14 (s13 : dy8) => cnt (fun i24 (s23 : Unit) c25 _ => if i24 < 4 then (if (s13.getD i24.toNat 0) = 6 then c25 () else some false) else none) (fun i24 (s23 : Unit) => some true) (Int.toNat ((IntKind.wrap .i64 ((x0.length : Int).tdiv 6)) - 0)) 0 ()) (Int.toNat ((x0.length : Int) - 0)) 0 (List.replicate 4 0))
/-- loop.example/g01210/spec.l10Pool -/
def p_spec_l10Pool (x0 : dy8) : Option (dy6) :=
  if 0 ≤ (IntKind.wrap .i64 ((x0.length : Int).tdiv 6)) then if (IntKind.wrap .i64 ((x0.length : Int).tdiv 6)) ≤ 1000000000 then cnt (fun i4 (s3 : dy6 × dy8) c5 _ => if 0 ≤ (x0.getD i4.toNat 0) then if (x0.getD i4.toNat 0) < 4 then if (x0.getD i4.toNat 0) < (IntKind.wrap .i64 ((x0.length : Int).tdiv 6)) then if 0 ≤ (s3.2.getD (x0.getD i4.toNat 0).toNat 0) then if (s3.2.getD (x0.getD i4.toNat 0).toNat 0) < 6 then c5 ((s3.1.set (x0.getD i4.toNat 0).toNat ((s3.1.getD (x0.getD i4.toNat 0).toNat (List.replicate 6 0)).set (s3.2.getD (x0.getD i4.toNat 0).toNat 0).toNat (i4 + 1))), (s3.2.set (x0.getD i4.toNat 0).toNat ((s3.2.getD (x0.getD i4.toNat 0).toNat 0) + 1))) else none else none else none else none else none) (fun i4 (s3 : dy6 × dy8) => some s3.1) (Int.toNat ((x0.length : Int) - 0)) 0 ((List.replicate (IntKind.wrap .i64 ((x0.length : Int).tdiv 6)).toNat (List.replicate 6 0)), (List.replicate 4 0)) else none else none
/-- loop.example/g01210/spec.FromLetters -/
def p_spec_FromLetters (x0 : dy8) : Option (dy6 × Bool) :=
  (p_spec_l10Letters x0).bind (fun r1 => (if r1 = true then (p_spec_l10Pool x0).bind (fun r3 => some (r3, true)) else some ([], false)))
/-- slices.Clone[[]int,int] -/
def p_slices_Clone_int_int (x0 : dy8) : Option (dy8) :=
  if 0 + (x0.length : Int) ≤ 1000000000 then some ([] ++ x0) else none
/-- slices.Reverse[[]int,int] -/
def p_slices_Reverse_int_int (fu : Nat) (x0 : dy8) : Option (dy8) :=
  whl (fun (s1 : Int × Int × dy8) c3 => (if s1.1 < s1.2.1 then c3 ((s1.1 + 1), (s1.2.1 - 1), ((s1.2.2.set s1.1.toNat (s1.2.2.getD s1.2.1.toNat 0)).set s1.2.1.toNat (s1.2.2.getD s1.1.toNat 0))) else some s1.2.2)) fu (0, ((x0.length : Int) - 1), x0)
/-- loop.example/g01210/impl.TurnLetters -/
def p_impl_TurnLetters (fu : Nat) (x0 : dy8) : Option (dy8 × Bool) :=
  (p_impl_fromLetters x0).bind (fun r1 => (if r1.2 = true then (p_slices_Clone_int_int x0).bind (fun r4 => (p_slices_Reverse_int_int fu r4).bind (fun r6 => some (r6, true))) else some ([], false)))
/-- loop.example/g01210/spec.TurnLetters -/
def p_spec_TurnLetters (fu : Nat) (x0 : dy8) : Option (dy8 × Bool) :=
  (p_spec_l10Letters x0).bind (fun r1 => (if r1 = true then whl (fun (s3 : Int × dy8) c5 => (if 0 ≤ s3.1 then if (s3.2.length : Int) + 1 ≤ 1000000000 then c5 ((s3.1 - 1), (s3.2 ++ [(x0.getD s3.1.toNat 0)])) else none else some (s3.2, true))) fu (((x0.length : Int) - 1), []) else some ([], false)))
/-- slices.Index[[]int,int] -/
def p_slices_Index_int_int (x0 : dy8) (x1 : Int) : Int :=
  cnt (fun i2 (s1 : Unit) c3 _ => (if x1 = (x0.getD i2.toNat 0) then i2 else c3 ())) (fun i2 (s1 : Unit) => (-1)) (Int.toNat ((x0.length : Int) - 0)) 0 ()
/-- slices.Contains[[]int,int] -/
def p_slices_Contains_int_int (x0 : dy8) (x1 : Int) : Bool :=
  (decide (0 ≤ (p_slices_Index_int_int x0 x1)))
/-- loop.example/g01210/impl.orders$1 -/
def p_impl_orders_1 : Nat → Int → Int → dy8 → (List (dy8 × Unit)) → Option (dy8 × (List (dy8 × Unit)))
  | 0, _, _, _, _ => none
  | fu + 1, x0, x1, x2, x3 => (if x0 = x1 then if (x3.length : Int) + 1 ≤ 1000000000 then some (x2, (x3 ++ [(x2, ())])) else none else whl (fun (s5 : Int × dy8 × (List (dy8 × Unit))) c7 => (if s5.1 < x1 then if 0 ≤ x0 then if x0 ≤ 4 then (if (p_slices_Contains_int_int ((s5.2.1.drop 0).take (x0 - 0).toNat) s5.1) = true then c7 ((IntKind.wrap .i64 (s5.1 + 1)), s5.2.1, s5.2.2) else if x0 < 4 then (p_impl_orders_1 fu (x0 + 1) x1 (s5.2.1.set x0.toNat s5.1) s5.2.2).bind (fun r16 => c7 ((IntKind.wrap .i64 (s5.1 + 1)), r16.1, r16.2)) else none) else none else none else if 0 ≤ x0 then if x0 < 4 then some ((s5.2.1.set x0.toNat (-1)), s5.2.2) else none else none)) fu (0, x2, x3))
/-- loop.example/g01210/impl.orders -/
def p_impl_orders (fu : Nat) (x0 : Int) : Option ((List (dy8 × Unit))) :=
  (p_impl_orders_1 fu 0 x0 [(-1), (-1), (-1), (-1)] []).bind (fun r1 => some r1.2)
/-- loop.example/g01210/impl.power -/
def p_impl_power (fu : Nat) (x0 : Int) : Option (Int) :=
  whl (fun (s1 : Int × Int) c3 => (if s1.2 < x0 then c3 ((IntKind.wrap .i64 (s1.1 * 6)), (IntKind.wrap .i64 (s1.2 + 1))) else some s1.1)) fu (1, 0)
/-- loop.example/g01210/impl.rollAt -/
def p_impl_rollAt (fu : Nat) (x0 : dy6) (x1 : Int) : Option (dy8) :=
  if (x0.length : Int) ≤ 1000000000 then whl (fun (s2 : Int × Int × dy8) c4 => (if 0 ≤ s2.2.1 then if 0 ≤ (s2.1.tmod 6) then if (s2.1.tmod 6) < 6 then c4 ((IntKind.wrap .i64 (s2.1.tdiv 6)), (s2.2.1 - 1), (s2.2.2.set s2.2.1.toNat ((x0.getD s2.2.1.toNat (List.replicate 6 0)).getD (s2.1.tmod 6).toNat 0))) else none else none else some s2.2.2)) fu (x1, ((x0.length : Int) - 1), (List.replicate (x0.length : Int).toNat 0)) else none
/-- loop.example/g01210/impl.truth -/
def p_impl_truth (x0 : Bool) : Int :=
  (if x0 = true then 1 else 0)
/-- loop.example/g01210/impl.orderOf -/
def p_impl_orderOf (x0 : dy8) : Option ((dy8 × Unit) × Bool) :=
  cnt (fun i2 (s1 : dy8) c3 _ => cnt (fun i9 (s8 : Int) c10 _ => (if ((!(decide (i9 = i2))) && (decide ((x0.getD i9.toNat 0) = (x0.getD i2.toNat 0)))) = true then some (((List.replicate 4 0), ()), false) else c10 (IntKind.wrap .i64 (s8 + (p_impl_truth (decide ((x0.getD i2.toNat 0) < (x0.getD i9.toNat 0)))))))) (fun i9 (s8 : Int) => if 0 ≤ s8 then if s8 < 4 then c3 (s1.set s8.toNat i2) else none else none) (Int.toNat ((x0.length : Int) - 0)) 0 0) (fun i2 (s1 : dy8) => some ((s1, ()), true)) (Int.toNat ((x0.length : Int) - 0)) 0 [(-1), (-1), (-1), (-1)]
/-- slices.Index[[]loop.example/g01210/impl.Order,loop.example/g01210/impl.Order] -/
def p_slices_Index_impl_Order_impl_Order (x0 : (List (dy8 × Unit))) (x1 : (dy8 × Unit)) : Int :=
  cnt (fun i2 (s1 : Unit) c3 _ => (if x1.1 = (x0.getD i2.toNat ((List.replicate 4 0), ())).1 then i2 else c3 ())) (fun i2 (s1 : Unit) => (-1)) (Int.toNat ((x0.length : Int) - 0)) 0 ()
/-- loop.example/g01210/impl.orderWays -/
def p_impl_orderWays (fu : Nat) (x0 : dy6) : Option (dy8) :=
  (p_impl_orders fu (x0.length : Int)).bind (fun r1 => if (r1.length : Int) ≤ 1000000000 then (p_impl_power fu (x0.length : Int)).bind (fun r4 => whl (fun (s5 : Int × dy8) c7 => (if s5.1 < r4 then (p_impl_rollAt fu x0 s5.1).bind (fun r12 => (p_impl_orderOf r12).bind (fun r14 => (if r14.2 = true then if 0 ≤ (p_slices_Index_impl_Order_impl_Order r1 (r14.1.1, ())) then if (p_slices_Index_impl_Order_impl_Order r1 (r14.1.1, ())) < (r1.length : Int) then c7 ((IntKind.wrap .i64 (s5.1 + 1)), (s5.2.set (p_slices_Index_impl_Order_impl_Order r1 (r14.1.1, ())).toNat (IntKind.wrap .i64 ((s5.2.getD (p_slices_Index_impl_Order_impl_Order r1 (r14.1.1, ())).toNat 0) + 1)))) else none else none else c7 ((IntKind.wrap .i64 (s5.1 + 1)), s5.2)))) else some s5.2)) fu (0, (List.replicate (r1.length : Int).toNat 0))) else none)
/-- loop.example/g01210/impl.LettersWays -/
def p_impl_LettersWays (fu : Nat) (x0 : dy8) : Option (dy8 × Bool) :=
  (p_impl_fromLetters x0).bind (fun r1 => (if r1.2 = true then (p_impl_orderWays fu r1.1).bind (fun r4 => some (r4, true)) else some ([], false)))
/-- loop.example/g01210/spec.l8Power -/
def p_spec_l8Power (fu : Nat) (x0 : Int) (x1 : Int) : Option (Int) :=
  whl (fun (s1 : Int × Int) c3 => (if s1.2 < x1 then c3 ((IntKind.wrap .i64 (s1.1 * x0)), (IntKind.wrap .i64 (s1.2 + 1))) else some s1.1)) fu (1, 0)
/-- loop.example/g01210/spec.l10Orders -/
def p_spec_l10Orders (fu : Nat) (x0 : Int) : Option ((List (dy8 × Unit))) :=
  whl (fun (s1 : Int × (List (dy8 × Unit))) c3 => (p_spec_l8Power fu x0 x0).bind (fun r5 => (if s1.1 < r5 then whl (fun (s9 : Int × Int × Int × dy8) c11 => (if 0 ≤ s9.2.2.1 then if x0 ≠ 0 then if s9.2.2.1 < 4 then if x0 ≠ 0 then if 0 ≤ (s9.2.1.tmod x0) then if x0 ≠ 0 then c11 ((orI .i64 s9.1 (shlI .i64 1 (s9.2.1.tmod x0))), (IntKind.wrap .i64 (s9.2.1.tdiv x0)), (s9.2.2.1 - 1), (s9.2.2.2.set s9.2.2.1.toNat (s9.2.1.tmod x0))) else none else none else none else none else none else if 0 ≤ x0 then (if s9.1 = (IntKind.wrap .i64 ((shlI .i64 1 x0) - 1)) then if (s1.2.length : Int) + 1 ≤ 1000000000 then c3 ((IntKind.wrap .i64 (s1.1 + 1)), (s1.2 ++ [(s9.2.2.2, ())])) else none else c3 ((IntKind.wrap .i64 (s1.1 + 1)), s1.2)) else none)) fu (0, s1.1, (IntKind.wrap .i64 (x0 - 1)), [(-1), (-1), (-1), (-1)]) else some s1.2))) fu (0, [])
/-- loop.example/g01210/spec.l2All -/
def p_spec_l2All (fu : Nat) (x0 : Int) : Option (Int) :=
  whl (fun (s1 : Int × Int) c3 => (if s1.2 < x0 then c3 ((IntKind.wrap .i64 (s1.1 * 6)), (IntKind.wrap .i64 (s1.2 + 1))) else some s1.1)) fu (1, 0)
/-- loop.example/g01210/spec.l2Roll -/
def p_spec_l2Roll (fu : Nat) (x0 : dy6) (x1 : Int) : Option (dy8) :=
  if (x0.length : Int) ≤ 1000000000 then whl (fun (s2 : Int × Int × dy8) c4 => (if 0 ≤ s2.2.1 then if 0 ≤ (s2.1.tmod 6) then if (s2.1.tmod 6) < 6 then c4 ((IntKind.wrap .i64 (s2.1.tdiv 6)), (s2.2.1 - 1), (s2.2.2.set s2.2.1.toNat ((x0.getD s2.2.1.toNat (List.replicate 6 0)).getD (s2.1.tmod 6).toNat 0))) else none else none else some s2.2.2)) fu (x1, ((x0.length : Int) - 1), (List.replicate (x0.length : Int).toNat 0)) else none
/-- loop.example/g01210/spec.l10Order -/
def p_spec_l10Order (x0 : dy8) : Option ((dy8 × Unit) × Bool) :=
  cnt (fun i2 (s1 : dy8) c3 _ => cnt (fun i9 (s8 : Int) c10 _ => (if ((!(decide (i9 = i2))) && (decide ((x0.getD i9.toNat 0) = (x0.getD i2.toNat 0)))) = true then some (((List.replicate 4 0), ()), false) else (if (x0.getD i2.toNat 0) < (x0.getD i9.toNat 0) then c10 (IntKind.wrap .i64 (s8 + 1)) else c10 s8))) (fun i9 (s8 : Int) => if 0 ≤ s8 then if s8 < 4 then c3 (s1.set s8.toNat i2) else none else none) (Int.toNat ((x0.length : Int) - 0)) 0 0) (fun i2 (s1 : dy8) => some ((s1, ()), true)) (Int.toNat ((x0.length : Int) - 0)) 0 [(-1), (-1), (-1), (-1)]
/-- loop.example/g01210/spec.l10Ways -/
def p_spec_l10Ways (fu : Nat) (x0 : dy6) : Option (dy8) :=
  (p_spec_l10Orders fu (x0.length : Int)).bind (fun r1 => if (r1.length : Int) ≤ 1000000000 then whl (fun (s4 : Int × dy8) c6 => (p_spec_l2All fu (x0.length : Int)).bind (fun r8 => (if s4.1 < r8 then (p_spec_l2Roll fu x0 s4.1).bind (fun r12 => (p_spec_l10Order r12).bind (fun r14 => cnt (fun i16 (s15 : dy8) c17 _ => (if (r14.2 && (decide ((r1.getD i16.toNat ((List.replicate 4 0), ())).1 = r14.1.1))) = true then c17 (s15.set i16.toNat (IntKind.wrap .i64 ((s15.getD i16.toNat 0) + 1))) else c17 s15)) (fun i16 (s15 : dy8) => c6 ((IntKind.wrap .i64 (s4.1 + 1)), s15)) (Int.toNat ((r1.length : Int) - 0)) 0 s4.2)) else some s4.2))) fu (0, (List.replicate (r1.length : Int).toNat 0)) else none)
/-- loop.example/g01210/spec.LettersWays -/
def p_spec_LettersWays (fu : Nat) (x0 : dy8) : Option (dy8 × Bool) :=
  (p_spec_l10Letters x0).bind (fun r1 => (if r1 = true then (p_spec_l10Pool x0).bind (fun r3 => (p_spec_l10Ways fu r3).bind (fun r5 => some (r5, true))) else some ([], false)))
/-- slices.Max[[]int,int] -/
def p_slices_Max_int_int (x0 : dy8) : Option (Int) :=
  (if (x0.length : Int) < 1 then none else cnt (fun i5 (s4 : Int) c6 _ => c6 (if (x0.getD i5.toNat 0) > s4 then (x0.getD i5.toNat 0) else s4)) (fun i5 (s4 : Int) => some s4) (Int.toNat ((x0.length : Int) - 1)) 1 (x0.getD 0 0))
/-- slices.Min[[]int,int] -/
def p_slices_Min_int_int (x0 : dy8) : Option (Int) :=
  (if (x0.length : Int) < 1 then none else cnt (fun i5 (s4 : Int) c6 _ => c6 (if (x0.getD i5.toNat 0) < s4 then (x0.getD i5.toNat 0) else s4)) (fun i5 (s4 : Int) => some s4) (Int.toNat ((x0.length : Int) - 1)) 1 (x0.getD 0 0))
/-- loop.example/g01210/impl.MendLetters -/
def p_impl_MendLetters (fu : Nat) (x0 : dy8) : Option (dy8 × Int × Bool) :=
  (p_impl_LettersWays fu x0).bind (fun r1 => (if r1.2 = true then (p_slices_Clone_int_int x0).bind (fun r4 => (p_slices_Max_int_int r1.1).bind (fun r6 => (p_slices_Min_int_int r1.1).bind (fun r7 => cnt (fun i9 (s8 : Int × dy8) c10 _ => (p_slices_Clone_int_int x0).bind (fun r15 => if i9 < (r15.length : Int) then (p_impl_LettersWays fu ((r15.set (i9 - 1).toNat (r15.getD i9.toNat 0)).set i9.toNat (r15.getD (i9 - 1).toNat 0))).bind (fun r18 => (p_slices_Max_int_int r18.1).bind (fun r20 => (p_slices_Min_int_int r18.1).bind (fun r21 => (if (IntKind.wrap .i64 (r20 - r21)) < s8.1 then c10 ((IntKind.wrap .i64 (r20 - r21)), ((r15.set (i9 - 1).toNat (r15.getD i9.toNat 0)).set i9.toNat (r15.getD (i9 - 1).toNat 0))) else c10 (s8.1, s8.2))))) else none)) (fun i9 (s8 : Int × dy8) => some (s8.2, s8.1, true)) (Int.toNat ((x0.length : Int) - 1)) 1 ((IntKind.wrap .i64 (r6 - r7)), r4)))) else some ([], 0, false)))
/-- loop.example/g01210/spec.l1Own -/
def p_spec_l1Own (x0 : dy8) : Option (dy8) :=
  if 0 + (x0.length : Int) ≤ 1000000000 then some ([] ++ x0) else none
/-- loop.example/g01210/spec.l1Least -/
def p_spec_l1Least (x0 : Int) (x1 : Int) : Int :=
  (if x0 < x1 then x0 else x1)
/-- loop.example/g01210/spec.l1Most -/
def p_spec_l1Most (x0 : Int) (x1 : Int) : Int :=
  (if x1 < x0 then x0 else x1)
/-- loop.example/g01210/spec.l10Spread -/
def p_spec_l10Spread (fu : Nat) (x0 : dy8) : Option (Int) :=
  (p_spec_l10Pool x0).bind (fun r1 => (p_spec_l10Ways fu r1).bind (fun r3 => if 0 < (r3.length : Int) then cnt (fun i7 (s6 : Int × Int) c8 _ => c8 ((p_spec_l1Least s6.1 (r3.getD i7.toNat 0)), (p_spec_l1Most s6.2 (r3.getD i7.toNat 0)))) (fun i7 (s6 : Int × Int) => some (IntKind.wrap .i64 (s6.2 - s6.1))) (Int.toNat ((r3.length : Int) - 0)) 0 ((r3.getD 0 0), (r3.getD 0 0)) else none))
/-- loop.example/g01210/spec.MendLetters -/
def p_spec_MendLetters (fu : Nat) (x0 : dy8) : Option (dy8 × Int × Bool) :=
  (p_spec_l10Letters x0).bind (fun r1 => (if r1 = true then (p_spec_l1Own x0).bind (fun r3 => (p_spec_l10Spread fu x0).bind (fun r5 => whl (fun (s6 : Int × Int × dy8) c8 => (if (IntKind.wrap .i64 (s6.2.1 + 1)) < (x0.length : Int) then (p_spec_l1Own x0).bind (fun r13 => if 0 ≤ (IntKind.wrap .i64 (s6.2.1 + 1)) then if s6.2.1 < (r13.length : Int) then if s6.2.1 < (x0.length : Int) then if (s6.2.1 + 1) < (r13.length : Int) then (p_spec_l10Spread fu ((r13.set s6.2.1.toNat (x0.getD (IntKind.wrap .i64 (s6.2.1 + 1)).toNat 0)).set (s6.2.1 + 1).toNat (x0.getD s6.2.1.toNat 0))).bind (fun r19 => (if r19 < s6.1 then c8 (r19, (s6.2.1 + 1), ((r13.set s6.2.1.toNat (x0.getD (IntKind.wrap .i64 (s6.2.1 + 1)).toNat 0)).set (s6.2.1 + 1).toNat (x0.getD s6.2.1.toNat 0))) else c8 (s6.1, (s6.2.1 + 1), s6.2.2))) else none else none else none else none) else some (s6.2.2, s6.1, true))) fu (r5, 0, r3))) else some ([], 0, false)))
/-- loop.example/g01210/laws.vCut -/
def p_laws_vCut (x0 : dy8) (x1 : Int) : Option (dy8) :=
  jn (fun (s1 : Int) => if 0 ≤ s1 then if s1 ≤ (x0.length : Int) then if 0 + ((x0.length : Int) - s1) ≤ 1000000000 then if (0 + ((x0.length : Int) - s1)) + 1 ≤ 1000000000 then some (([] ++ (x0.drop s1.toNat)) ++ [(IntKind.wrap .u8 s1)]) else none else none else none else none) (fun k2 => (if (x0.length : Int) < x1 then k2 (x0.length : Int) else k2 x1))
/-- (*loop.example/g01210/spec.l1Cur).face -/
def p_spec_l1Cur_face (x0 : dy8) (x1 : Int) (x2 : Int) : Option (Int × Int × Int) :=
  (p_spec_l1Cur_among [1, 2, 3, 4, 5, 6, 6, 0, 8, 9, 4, 3, 30, 12] x0 x1 x2).bind (fun r1 => some (r1.1, r1.2.1, r1.2.2))
/-- loop.example/g01210/spec.l2Sorted -/
def p_spec_l2Sorted (x0 : dy8) : dy8 :=
  cnt (fun i2 (s1 : dy8) c3 _ => cnt (fun i9 (s8 : dy8) c10 _ => (if (s8.getD (i9 + 1).toNat 0) < (s8.getD i9.toNat 0) then c10 ((s8.set i9.toNat (s8.getD (i9 + 1).toNat 0)).set (i9 + 1).toNat (s8.getD i9.toNat 0)) else c10 s8)) (fun i9 (s8 : dy8) => c3 s8) (Int.toNat (5 - 0)) 0 s1) (fun i2 (s1 : dy8) => s1) (Int.toNat (6 - 0)) 0 x0
/-- (*loop.example/g01210/spec.l1Cur).die -/
def p_spec_l1Cur_die (x0 : dy8) (x1 : Int) (x2 : Int) : Option (dy8 × Int × Int) :=
  jn (fun (s1 : Int × Int × dy8) => (p_spec_l1Cur_pick 50 x0 s1.1 s1.2.1).bind (fun r4 => (if r4.1 = 0 then (p_spec_l1Cur_pick 6 x0 r4.2.1 r4.2.2).bind (fun r8 => (p_spec_l1Cur_among [(-1), 31, 0, 4611686018427387904] x0 r8.2.1 r8.2.2).bind (fun r9 => if 0 ≤ r8.1 then if r8.1 < 6 then some (((p_spec_l2Sorted s1.2.2).set r8.1.toNat r9.1), r9.2.1, r9.2.2) else none else none)) else (if r4.1 = 1 then some (((p_spec_l2Sorted s1.2.2).set 0 30), r4.2.1, r4.2.2) else some ((p_spec_l2Sorted s1.2.2), r4.2.1, r4.2.2))))) (fun k2 => (p_spec_l1Cur_pick 6 x0 x1 x2).bind (fun r15 => (if r15.1 = 0 then some ([1, 2, 3, 4, 5, 6], r15.2.1, r15.2.2) else (if r15.1 = 1 then k2 (r15.2.1, r15.2.2, [1, 2, 2, 3, 3, 4]) else (if r15.1 = 2 then (p_spec_l1Cur_face x0 r15.2.1 r15.2.2).bind (fun r25 => (p_spec_l1Cur_face x0 r25.2.1 r25.2.2).bind (fun r26 => cnt (fun i28 (s27 : Int × Int × dy8) c29 _ => (p_spec_l1Cur_one 3 x0 s27.1 s27.2.1).bind (fun r34 => (if r34.1 = true then c29 (r34.2.1, r34.2.2, ((s27.2.2.set i28.toNat r25.1).set i28.toNat r26.1)) else c29 (r34.2.1, r34.2.2, (s27.2.2.set i28.toNat r25.1))))) (fun i28 (s27 : Int × Int × dy8) => k2 (s27.1, s27.2.1, s27.2.2)) (Int.toNat (6 - 0)) 0 (r26.2.1, r26.2.2, [1, 2, 3, 4, 5, 6]))) else cnt (fun i37 (s36 : Int × Int × dy8) c38 _ => (p_spec_l1Cur_face x0 s36.1 s36.2.1).bind (fun r43 => c38 (r43.2.1, r43.2.2, (s36.2.2.set i37.toNat r43.1)))) (fun i37 (s36 : Int × Int × dy8) => k2 (s36.1, s36.2.1, s36.2.2)) (Int.toNat (6 - 0)) 0 (r15.2.1, r15.2.2, [1, 2, 3, 4, 5, 6]))))))
/-- (*loop.example/g01210/spec.l1Cur).pool -/
def p_spec_l1Cur_pool (fu : Nat) (x0 : dy8) (x1 : Int) (x2 : Int) : Option (dy6 × Int × Int) :=
  (p_spec_l1Cur_among [2, 3, 1, 2, 4] x0 x1 x2).bind (fun r1 => whl (fun (s2 : Int × Int × Int × dy6) c4 => (if 0 < s2.1 then (p_spec_l1Cur_die x0 s2.2.1 s2.2.2.1).bind (fun r9 => (if 0 < (s2.2.2.2.length : Int) then (p_spec_l1Cur_one 3 x0 r9.2.1 r9.2.2).bind (fun r13 => (if r13.1 = true then if (s2.2.2.2.length : Int) + 1 ≤ 1000000000 then c4 ((IntKind.wrap .i64 (s2.1 - 1)), r13.2.1, r13.2.2, (s2.2.2.2 ++ [(s2.2.2.2.getD 0 (List.replicate 6 0))])) else none else if (s2.2.2.2.length : Int) + 1 ≤ 1000000000 then c4 ((IntKind.wrap .i64 (s2.1 - 1)), r13.2.1, r13.2.2, (s2.2.2.2 ++ [r9.1])) else none)) else c4 ((IntKind.wrap .i64 (s2.1 - 1)), r9.2.1, r9.2.2, (s2.2.2.2 ++ [r9.1])))) else (p_spec_l1Cur_pick 50 x0 s2.2.1 s2.2.2.1).bind (fun r17 => (if r17.1 = 0 then some ([], r17.2.1, r17.2.2) else (if r17.1 = 1 then whl (fun (s24 : dy6) c26 => (if (s24.length : Int) < 5 then if 0 < (s24.length : Int) then c26 (s24 ++ [(s24.getD 0 (List.replicate 6 0))]) else none else some (s24, r17.2.1, r17.2.2))) fu s2.2.2.2 else some (s2.2.2.2, r17.2.1, r17.2.2)))))) fu (r1.1, r1.2.1, r1.2.2, []))
/-- (*loop.example/g01210/spec.l1Cur).few -/
def p_spec_l1Cur_few (fu : Nat) (x0 : dy8) (x1 : Int) (x2 : Int) : Option (dy6 × Int × Int) :=
  (p_spec_l1Cur_pool fu x0 x1 x2).bind (fun r1 => (if (r1.1.length : Int) = 4 then (p_spec_l1Cur_one 8 x0 r1.2.1 r1.2.2).bind (fun r6 => (if r6.1 = true then some (r1.1, r6.2.1, r6.2.2) else some ((r1.1.take 3), r6.2.1, r6.2.2))) else some (r1.1, r1.2.1, r1.2.2)))
/-- (*loop.example/g01210/spec.l1Cur).tieless10 -/
def p_spec_l1Cur_tieless10 (fu : Nat) (x0 : dy8) (x1 : Int) (x2 : Int) : Option (dy6 × Int × Int) :=
  (p_spec_l1Cur_letters10 fu x0 x1 x2).bind (fun r1 => (p_spec_l10Letters r1.1).bind (fun r3 => (if r3 = true then (p_spec_l1Cur_one 4 x0 r1.2.1 r1.2.2).bind (fun r5 => (if r5.1 = true then (p_spec_l1Cur_few fu x0 r5.2.1 r5.2.2).bind (fun r9 => some (r9.1, r9.2.1, r9.2.2)) else (p_spec_l10Pool r1.1).bind (fun r7 => some (r7, r5.2.1, r5.2.2)))) else (p_spec_l1Cur_few fu x0 r1.2.1 r1.2.2).bind (fun r11 => some (r11.1, r11.2.1, r11.2.2)))))
/-- loop.example/g01210/spec.DrawOrderWays -/
def p_spec_DrawOrderWays (fu : Nat) (x0 : dy8) : Option (dy6) :=
  (p_spec_l1Cur_tieless10 fu x0 0 0).bind (fun r1 => some r1.1)
/-- loop.example/g01210/spec.DrawLettersOf -/
def p_spec_DrawLettersOf (fu : Nat) (x0 : dy8) : Option (dy6) :=
  (p_spec_DrawOrderWays fu x0).bind (fun r1 => some r1)
/-- loop.example/g01210/impl.isFace -/
def p_impl_isFace (x0 : Int) : Bool :=
  (p_impl_within x0 0 30)
/-- loop.example/g01210/impl.areAll[int]$1 -/
def p_impl_areAll_int_1 (x0 : Int) : Bool :=
  (!(p_impl_isFace x0))
/-- slices.IndexFunc[[]int,int] -/
def p_slices_IndexFunc_int_int (x0 : dy8) : Int :=
  cnt (fun i2 (s1 : Unit) c3 _ => (if (p_impl_areAll_int_1 (x0.getD i2.toNat 0)) = true then i2 else c3 ())) (fun i2 (s1 : Unit) => (-1)) (Int.toNat ((x0.length : Int) - 0)) 0 ()
/-- slices.ContainsFunc[[]int,int] -/
def p_slices_ContainsFunc_int_int (x0 : dy8) : Bool :=
  (decide (0 ≤ (p_slices_IndexFunc_int_int x0)))
/-- loop.example/g01210/impl.areAll[int] -/
def p_impl_areAll_int (x0 : dy8) : Bool :=
  (!(p_slices_ContainsFunc_int_int x0))
/-- cmp.isNaN[int] -/
def p_cmp_isNaN_int (x0 : Int) : Bool :=
  (!(decide (x0 = x0)))
/-- cmp.Less[int] -/
def p_cmp_Less_int (x0 : Int) (x1 : Int) : Bool :=
  (((p_cmp_isNaN_int x0) && (!(p_cmp_isNaN_int x1))) || (decide (x0 < x1)))
/-- slices.IsSorted[[]int,int] -/
def p_slices_IsSorted_int_int (x0 : dy8) : Bool :=
  cntd (fun i2 (s1 : Unit) c3 _ => (if (p_cmp_Less_int (x0.getD i2.toNat 0) (x0.getD (i2 - 1).toNat 0)) = true then false else c3 ())) (fun i2 (s1 : Unit) => true) (Int.toNat (((x0.length : Int) - 1) - 0)) ((x0.length : Int) - 1) ()
/-- loop.example/g01210/impl.IsDie -/
def p_impl_IsDie (x0 : dy8) : Bool :=
  ((p_impl_areAll_int x0) && (p_slices_IsSorted_int_int x0))
/-- loop.example/g01210/impl.areAll[[6]int]$1 -/
def p_impl_areAll_6_int_1 (x0 : dy8) : Bool :=
  (!(p_impl_IsDie x0))
/-- slices.IndexFunc[[][6]int,[6]int] -/
def p_slices_IndexFunc_6_int_6_int (x0 : dy6) : Int :=
  cnt (fun i2 (s1 : Unit) c3 _ => (if (p_impl_areAll_6_int_1 (x0.getD i2.toNat (List.replicate 6 0))) = true then i2 else c3 ())) (fun i2 (s1 : Unit) => (-1)) (Int.toNat ((x0.length : Int) - 0)) 0 ()
/-- slices.ContainsFunc[[][6]int,[6]int] -/
def p_slices_ContainsFunc_6_int_6_int (x0 : dy6) : Bool :=
  (decide (0 ≤ (p_slices_IndexFunc_6_int_6_int x0)))
/-- loop.example/g01210/impl.areAll[[6]int] -/
def p_impl_areAll_6_int (x0 : dy6) : Bool :=
  (!(p_slices_ContainsFunc_6_int_6_int x0))
/-- loop.example/g01210/impl.IsPool -/
def p_impl_IsPool (x0 : dy6) : Bool :=
  ((p_impl_within (x0.length : Int) 1 4) && (p_impl_areAll_6_int x0))
/-- loop.example/g01210/impl.has -/
def p_impl_has (x0 : dy8) (x1 : Int) : Bool :=
  (p_slices_Contains_int_int x0 x1)
/-- loop.example/g01210/impl.isTieless$1 -/
def p_impl_isTieless_1 (x0 : Int) (x1 : dy8) : Bool :=
  (p_impl_has x1 x0)
/-- slices.IndexFunc[[]int,int] -/
def p_slices_IndexFunc_int_intv1 (x0 : dy8) (x1 : dy8) : Int :=
  cnt (fun i2 (s1 : Unit) c3 _ => (if (p_impl_isTieless_1 (x0.getD i2.toNat 0) x1) = true then i2 else c3 ())) (fun i2 (s1 : Unit) => (-1)) (Int.toNat ((x0.length : Int) - 0)) 0 ()
/-- slices.ContainsFunc[[]int,int] -/
def p_slices_ContainsFunc_int_intv1 (x0 : dy8) (x1 : dy8) : Bool :=
  (decide (0 ≤ (p_slices_IndexFunc_int_intv1 x0 x1)))
/-- loop.example/g01210/impl.isTieless -/
def p_impl_isTieless (fu : Nat) (x0 : dy6) : Option (Bool) :=
  cnt (fun i2 (s1 : Unit) c3 _ => cnt (fun i9 (s8 : Unit) c10 _ => (if (p_slices_ContainsFunc_int_intv1 (x0.getD i2.toNat (List.replicate 6 0)) ((x0.take i2.toNat).getD i9.toNat (List.replicate 6 0))) = true then some false else c10 ())) (fun i9 (s8 : Unit) => c3 ()) (Int.toNat ((i2 - 0) - 0)) 0 ()) (fun i2 (s1 : Unit) => some true) (Int.toNat ((x0.length : Int) - 0)) 0 ()
/-- loop.example/g01210/impl.weight -/
def p_impl_weight (x0 : dy8) (x1 : Int) : Int :=
  cnt (fun i2 (s1 : Int) c3 _ => c3 (IntKind.wrap .i64 (s1 + (p_impl_truth (decide ((x0.getD i2.toNat 0) = x1)))))) (fun i2 (s1 : Int) => s1) (Int.toNat (6 - 0)) 0 0
/-- loop.example/g01210/impl.LettersOf -/
def p_impl_LettersOf (fu : Nat) (x0 : dy6) : Option (dy8 × Bool) :=
  if ((!(!(p_impl_IsPool x0))) = true → (p_impl_isTieless fu x0).isSome = true) then (if ((!(p_impl_IsPool x0)) || (!((p_impl_isTieless fu x0).getD false))) = true then some ([], false) else cnt (fun i9 (s8 : dy8) c10 _ => cnt (fun i16 (s15 : dy8) c17 _ => (p_slices_Repeat [i16] (p_impl_weight (x0.getD i16.toNat (List.replicate 6 0)) i9)).bind (fun r22 => if (s15.length : Int) + (r22.length : Int) ≤ 1000000000 then c17 (s15 ++ r22) else none)) (fun i16 (s15 : dy8) => c10 s15) (Int.toNat ((x0.length : Int) - 0)) 0 s8) (fun i9 (s8 : dy8) => some (s8, true)) (Int.toNat (31 - 0)) 0 []) else none
/-- loop.example/g01210/spec.l2Die -/
def p_spec_l2Die (x0 : dy8) : Option (Bool) :=
  cnt (fun i2 (s1 : Unit) c3 _ => (if ((!(p_spec_l1In (x0.getD i2.toNat 0) 0 30)) || ((decide (0 < i2)) && (decide ((x0.getD i2.toNat 0) < (x0.getD (i2 - 1).toNat 0))))) = true then some false else c3 ())) (fun i2 (s1 : Unit) => some true) (Int.toNat (6 - 0)) 0 ()
/-- loop.example/g01210/spec.l2Pool -/
def p_spec_l2Pool (x0 : dy6) : Option (Bool) :=
  cnt (fun i2 (s1 : Unit) c3 k16 => (if ((decide (i2 < (x0.length : Int))) && (decide (i2 ≤ 4))) = true then (p_spec_l2Die (x0.getD i2.toNat (List.replicate 6 0))).bind (fun r14 => (if r14 = true then c3 () else some false)) else k16 i2 s1)) (fun i2 (s1 : Unit) => some (p_spec_l1In (x0.length : Int) 1 4)) (Int.toNat ((x0.length : Int) - 0)) 0 ()
/-- loop.example/g01210/spec.l8Weight -/
def p_spec_l8Weight (x0 : dy8) (x1 : Int) : Int :=
  cnt (fun i2 (s1 : Int) c3 _ => (if (x0.getD i2.toNat 0) = x1 then c3 (IntKind.wrap .i64 (s1 + 1)) else c3 s1)) (fun i2 (s1 : Int) => s1) (Int.toNat (6 - 0)) 0 0
/-- loop.example/g01210/spec.l10Tieless -/
def p_spec_l10Tieless (fu : Nat) (x0 : dy6) : Option (Bool) :=
  cnt (fun i2 (s1 : Unit) c3 _ => cnt (fun i9 (s8 : Unit) c10 _ => cnt (fun i16 (s15 : Unit) c17 _ => (if 0 < (p_spec_l8Weight (x0.getD i9.toNat (List.replicate 6 0)) ((x0.getD i2.toNat (List.replicate 6 0)).getD i16.toNat 0)) then some false else c17 ())) (fun i16 (s15 : Unit) => c10 ()) (Int.toNat (6 - 0)) 0 ()) (fun i9 (s8 : Unit) => c3 ()) (Int.toNat (i2 - 0)) 0 ()) (fun i2 (s1 : Unit) => some true) (Int.toNat ((x0.length : Int) - 0)) 0 ()
/-- loop.example/g01210/spec.LettersOf -/
def p_spec_LettersOf (fu : Nat) (x0 : dy6) : Option (dy8 × Bool) :=
  (p_spec_l2Pool x0).bind (fun r1 => if ((!(!r1)) = true → (p_spec_l10Tieless fu x0).isSome = true) then (if ((!r1) || (!((p_spec_l10Tieless fu x0).getD false))) = true then some ([], false) else whl (fun (s9 : Int × dy8) c11 => (if s9.1 ≤ 30 then cnt (fun i17 (s16 : dy8) c18 _ => whl (fun (s23 : Int × dy8) c25 => (if s23.1 < (p_spec_l8Weight (x0.getD i17.toNat (List.replicate 6 0)) s9.1) then if (s23.2.length : Int) + 1 ≤ 1000000000 then c25 ((IntKind.wrap .i64 (s23.1 + 1)), (s23.2 ++ [i17])) else none else c18 s23.2)) fu (0, s16)) (fun i17 (s16 : dy8) => c11 ((s9.1 + 1), s16)) (Int.toNat ((x0.length : Int) - 0)) 0 s9.2 else some (s9.2, true))) fu (0, [])) else none)
/-- loop.example/g01210/impl.IsTieless -/
def p_impl_IsTieless (fu : Nat) (x0 : dy6) : Option (Bool × Bool) :=
  (if (p_impl_IsPool x0) = true then (p_impl_isTieless fu x0).bind (fun r2 => some (r2, true)) else some (false, false))
/-- loop.example/g01210/spec.IsTieless -/
def p_spec_IsTieless (fu : Nat) (x0 : dy6) : Option (Bool × Bool) :=
  (p_spec_l2Pool x0).bind (fun r1 => (if r1 = true then (p_spec_l10Tieless fu x0).bind (fun r3 => some (r3, true)) else some (false, false)))
/-- loop.example/g01210/spec.DrawCountEven -/
def p_spec_DrawCountEven (x0 : dy8) : Option (Int) :=
  (p_spec_l1Cur_among [6, 2, 4, 1, 3, 5, 0, 7, (-1)] x0 0 0).bind (fun r1 => some r1.1)
/-- loop.example/g01210/impl.isIn -/
def p_impl_isIn (x0 : Int) (x1 : Int) : Option (Bool) :=
  if 0 ≤ x1 then some (decide ((andI .i64 (shrI .i64 x0 x1) 1) = 1)) else none
/-- loop.example/g01210/impl.CountEven -/
def p_impl_CountEven (fu : Nat) (x0 : Int) : Option (Int × Bool) :=
  (if (p_impl_within x0 1 6) = true then if 0 ≤ (IntKind.wrap .i64 (2 * x0)) then whl (fun (s3 : Int × Int) c5 => (if s3.2 < (shlI .i64 1 (IntKind.wrap .i64 (2 * x0))) then whl (fun (s10 : Int × Int × Int) c12 => (if s10.2.2 < (IntKind.wrap .i64 (2 * x0)) then (p_impl_isIn s3.2 s10.2.2).bind (fun r17 => (if r17 = true then c12 ((IntKind.wrap .i64 (s10.1 + 1)), s10.2.1, (IntKind.wrap .i64 (s10.2.2 + 1))) else c12 (s10.1, (IntKind.wrap .i64 (s10.2.1 + s10.1)), (IntKind.wrap .i64 (s10.2.2 + 1))))) else c5 ((IntKind.wrap .i64 (s3.1 + (p_impl_truth ((decide (s10.1 = x0)) && (decide ((IntKind.wrap .i64 (2 * s10.2.1)) = (IntKind.wrap .i64 (x0 * x0)))))))), (IntKind.wrap .i64 (s3.2 + 1))))) fu (0, 0, 0) else some (s3.1, true))) fu (0, 0) else none else some (0, false))
/-- loop.example/g01210/spec.CountEven -/
def p_spec_CountEven (fu : Nat) (x0 : Int) : Option (Int × Bool) :=
  (if (p_spec_l1In x0 1 6) = true then whl (fun (s2 : Int × Int) c4 => if 0 ≤ (IntKind.wrap .i64 (2 * x0)) then (if s2.2 < (shlI .i64 1 (IntKind.wrap .i64 (2 * x0))) then whl (fun (s10 : Int × Int × Int) c12 => (if s10.2.2 < (IntKind.wrap .i64 (2 * x0)) then if 0 ≤ s10.2.2 then (if (andI .i64 (shrI .i64 s2.2 s10.2.2) 1) = 1 then c12 ((IntKind.wrap .i64 (s10.1 + 1)), s10.2.1, (IntKind.wrap .i64 (s10.2.2 + 1))) else c12 (s10.1, (IntKind.wrap .i64 (s10.2.1 + s10.1)), (IntKind.wrap .i64 (s10.2.2 + 1)))) else none else (if ((decide (s10.1 = x0)) && (decide ((IntKind.wrap .i64 (2 * s10.2.1)) = (IntKind.wrap .i64 (x0 * x0))))) = true then c4 ((IntKind.wrap .i64 (s2.1 + 1)), (IntKind.wrap .i64 (s2.2 + 1))) else c4 (s2.1, (IntKind.wrap .i64 (s2.2 + 1)))))) fu (0, 0, 0) else some (s2.1, true)) else none) fu (0, 0) else some (0, false))
/-- loop.example/g01210/laws.vPools -/
def p_laws_vPools (x0 : dy6) (x1 : dy6) : Bool :=
  (if (x0.length : Int) = (x1.length : Int) then cnt (fun i5 (s4 : Unit) c6 _ => (if (x0.getD i5.toNat (List.replicate 6 0)) = (x1.getD i5.toNat (List.replicate 6 0)) then c6 () else false)) (fun i5 (s4 : Unit) => true) (Int.toNat ((x0.length : Int) - 0)) 0 () else false)
/-- loop.example/g01210/laws.vInts -/
def p_laws_vInts (x0 : dy8) (x1 : dy8) : Bool :=
  (if (x0.length : Int) = (x1.length : Int) then cnt (fun i5 (s4 : Unit) c6 _ => (if (x0.getD i5.toNat 0) = (x1.getD i5.toNat 0) then c6 () else false)) (fun i5 (s4 : Unit) => true) (Int.toNat ((x0.length : Int) - 0)) 0 () else false)
/-- loop.example/g01210/impl.OrderWays -/
def p_impl_OrderWays (fu : Nat) (x0 : dy6) : Option (dy8 × Bool) :=
  (if (p_impl_IsPool x0) = true then (p_impl_orderWays fu x0).bind (fun r2 => some (r2, true)) else some ([], false))
/-- loop.example/g01210/impl.total -/
def p_impl_total (x0 : dy8) : Int :=
  cnt (fun i2 (s1 : Int) c3 _ => c3 (IntKind.wrap .i64 (s1 + (x0.getD i2.toNat 0)))) (fun i2 (s1 : Int) => s1) (Int.toNat ((x0.length : Int) - 0)) 0 0
/-- loop.example/g01210/impl.ties -/
def p_impl_ties (fu : Nat) (x0 : dy6) : Option (Int) :=
  (p_impl_power fu (x0.length : Int)).bind (fun r1 => (p_impl_orderWays fu x0).bind (fun r2 => some (IntKind.wrap .i64 (r1 - (p_impl_total r2)))))
/-- loop.example/g01210/impl.TieWays -/
def p_impl_TieWays (fu : Nat) (x0 : dy6) : Option (Int × Bool) :=
  (if (p_impl_IsPool x0) = true then (p_impl_ties fu x0).bind (fun r2 => some (r2, true)) else some (0, false))
/-- loop.example/g01210/impl.OrdersOf -/
def p_impl_OrdersOf (fu : Nat) (x0 : Int) : Option ((List (dy8 × Unit)) × Bool) :=
  (if (p_impl_within x0 1 4) = true then (p_impl_orders fu x0).bind (fun r2 => some (r2, true)) else some ([], false))
/-- loop.example/g01210/laws.FnLetters -/
def p_laws_FnLetters (fu : Nat) (x0 : dy8) : Option (Bool) :=
  (if (p_laws_vBig x0) = true then some true else (p_spec_DrawMendLetters fu x0).bind (fun r2 => (p_impl_FromLetters r2).bind (fun r4 => (p_spec_FromLetters r2).bind (fun r6 => (p_impl_TurnLetters fu r2).bind (fun r8 => (p_spec_TurnLetters fu r2).bind (fun r10 => (p_impl_LettersWays fu r2).bind (fun r12 => (p_spec_LettersWays fu r2).bind (fun r14 => (p_impl_MendLetters fu r2).bind (fun r16 => (p_spec_MendLetters fu r2).bind (fun r18 => (p_laws_vCut x0 1).bind (fun r20 => (p_spec_DrawLettersOf fu r20).bind (fun r22 => (p_impl_LettersOf fu r22).bind (fun r24 => (p_spec_LettersOf fu r22).bind (fun r26 => (p_impl_IsTieless fu r22).bind (fun r28 => (p_spec_IsTieless fu r22).bind (fun r29 => (p_laws_vCut x0 2).bind (fun r30 => (p_spec_DrawCountEven r30).bind (fun r32 => (p_impl_CountEven fu r32).bind (fun r33 => (p_spec_CountEven fu r32).bind (fun r34 => (if (((((((((((((((((((r4.2 != r6.2) || (!(p_laws_vPools r4.1 r6.1))) || (r8.2 != r10.2)) || (!(p_laws_vInts r8.1 r10.1))) || (r12.2 != r14.2)) || (!(p_laws_vInts r12.1 r14.1))) || (r16.2.2 != r18.2.2)) || (!(p_laws_vInts r16.1 r18.1))) || (!(decide (r16.2.1 = r18.2.1)))) || (r24.2 != r26.2)) || (!(p_laws_vInts r24.1 r26.1))) || (r28.1 != r29.1)) || (r28.2 != r29.2)) || (!(decide (r33.1 = r34.1)))) || (r33.2 != r34.2)) || (r4.2 != r8.2)) || (r4.2 != r12.2)) || (r4.2 != r16.2.2)) || (r24.2 != (r28.2 && r28.1))) = true then some false else jn (fun (s1252 : Unit) => (if (r33.2 && ((decide (((IntKind.wrap .i64 (r32 * r32)).tmod 2) = 1)) != (decide (r33.1 = 0)))) = true then some false else (if r4.2 = true then (p_impl_LettersOf fu r4.1).bind (fun r1267 => (p_impl_TieWays fu r4.1).bind (fun r1269 => (p_impl_LettersWays fu r8.1).bind (fun r1270 => (p_impl_OrdersOf fu (r4.1.length : Int)).bind (fun r1272 => (if ((((((((!r1267.2) || (!r1269.2)) || (!r1270.2)) || (!r1272.2)) || (!(p_laws_vInts r1267.1 r2))) || (!(decide (r1269.1 = 0)))) || (!(decide ((r1270.1.length : Int) = (r12.1.length : Int))))) || (!(decide ((r1272.1.length : Int) = (r12.1.length : Int))))) = true then some false else if 0 < (r12.1.length : Int) then cnt (fun i1493 (s1492 : Int × Int) c1494 _ => jn (fun (s1499 : Int) => jn (fun (s1502 : Int) => cnt (fun i1506 (s1505 : dy8) c1507 _ => if (((r4.1.length : Int) - 1) - i1506) < 4 then if i1506 < 4 then c1507 (s1505.set i1506.toNat ((r1272.1.getD i1493.toNat ((List.replicate 4 0), ())).1.getD (((r4.1.length : Int) - 1) - i1506).toNat 0)) else none else none) (fun i1506 (s1505 : dy8) => cnt (fun i1515 (s1514 : Unit) c1516 _ => (if ((decide ((r1272.1.getD i1515.toNat ((List.replicate 4 0), ())).1 = s1505)) && (!(decide ((r1270.1.getD i1515.toNat 0) = (r12.1.getD i1493.toNat 0))))) = true then some false else c1516 ())) (fun i1515 (s1514 : Unit) => c1494 (s1499, s1502)) (Int.toNat ((r1272.1.length : Int) - 0)) 0 ()) (Int.toNat ((r4.1.length : Int) - 0)) 0 ((r1272.1.getD i1493.toNat ((List.replicate 4 0), ())).1)) (fun k1503 => (if s1492.2 < (r12.1.getD i1493.toNat 0) then k1503 (r12.1.getD i1493.toNat 0) else k1503 s1492.2))) (fun k1500 => (if (r12.1.getD i1493.toNat 0) < s1492.1 then k1500 (r12.1.getD i1493.toNat 0) else k1500 s1492.1))) (fun i1493 (s1492 : Int × Int) => some (((decide (r16.2.1 ≤ (IntKind.wrap .i64 (s1492.2 - s1492.1)))) && (decide (0 ≤ r16.2.1))) && (decide ((r16.1.length : Int) = (r2.length : Int))))) (Int.toNat ((r12.1.length : Int) - 0)) 0 ((r12.1.getD 0 0), (r12.1.getD 0 0)) else none))))) else some true))) (fun k1253 => (if r24.2 = true then (p_impl_FromLetters r24.1).bind (fun r1570 => (p_impl_OrderWays fu r1570.1).bind (fun r1572 => (p_impl_OrderWays fu r22).bind (fun r1574 => (if (((((!r1570.2) || (!r1572.2)) || (!r1574.2)) || (!(p_laws_vInts r1572.1 r1574.1))) || (!(decide ((r24.1.length : Int) = (IntKind.wrap .i64 (6 * (r22.length : Int))))))) = true then some false else k1253 ())))) else k1253 ())))))))))))))))))))))))
end Go.GA
