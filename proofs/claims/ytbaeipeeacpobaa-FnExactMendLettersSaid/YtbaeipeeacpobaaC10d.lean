/- Walks: what the Go functions compute, by the printed lines below. -/
import Derived.Test.YtbaeipeeacpobaaGa30
namespace Go.GA
open Go
set_option maxRecDepth 100000
set_option maxHeartbeats 2000000
set_option linter.unusedVariables false
set_option linter.unusedSimpArgs false
/-- loop.example/g01210/laws.szIntA6S -/
def p_laws_szIntA6S (x0 : (List (List Int))) (x1 : Int) : Int :=
  (if (IntKind.wrap .i64 (x1 - (x0.length : Int))) < 0 then (-1) else (IntKind.wrap .i64 (x1 - (x0.length : Int))))
/-- loop.example/g01210/laws.toIntA6 -/
def p_laws_toIntA6 (x0 : (List Int)) : (List Int) :=
  cnt (fun i2 (s1 : (List Int)) c3 _ => c3 (s1.set i2.toNat (x0.getD i2.toNat 0))) (fun i2 (s1 : (List Int)) => s1) (Int.toNat (6 - 0)) 0 (List.replicate 6 0)
/-- loop.example/g01210/laws.toIntA6S -/
def p_laws_toIntA6S (x0 : (List (List Int))) : Option ((List (List Int))) :=
  if (x0.length : Int) ≤ 1000000000 then cnt (fun i3 (s2 : (List (List Int))) c4 _ => c4 (s2.set i3.toNat (p_laws_toIntA6 (x0.getD i3.toNat (List.replicate 6 0))))) (fun i3 (s2 : (List (List Int))) => some s2) (Int.toNat ((x0.length : Int) - 0)) 0 (List.replicate (x0.length : Int).toNat (List.replicate 6 0)) else none
/-- loop.example/g01210/spec.l1In -/
def p_spec_l1In (x0 : Int) (x1 : Int) (x2 : Int) : Bool :=
  ((decide (x1 ≤ x0)) && (decide (x0 ≤ x2)))
/-- loop.example/g01210/spec.l2Die -/
def p_spec_l2Die (x0 : (List Int)) : Option (Bool) :=
  cnt (fun i2 (s1 : Unit) c3 _ => (if ((!(p_spec_l1In (x0.getD i2.toNat 0) 0 30)) || ((decide (0 < i2)) && (decide ((x0.getD i2.toNat 0) < (x0.getD (i2 - 1).toNat 0))))) = true then some false else c3 ())) (fun i2 (s1 : Unit) => some true) (Int.toNat (6 - 0)) 0 ()
/-- loop.example/g01210/spec.l2Pool -/
def p_spec_l2Pool (x0 : (List (List Int))) : Option (Bool) :=
  cnt (fun i2 (s1 : Unit) c3 k16 => (if ((decide (i2 < (x0.length : Int))) && (decide (i2 ≤ 4))) = true then (p_spec_l2Die (x0.getD i2.toNat (List.replicate 6 0))).bind (fun r14 => (if r14 = true then c3 () else some false)) else k16 i2 s1)) (fun i2 (s1 : Unit) => some (p_spec_l1In (x0.length : Int) 1 4)) (Int.toNat ((x0.length : Int) - 0)) 0 ()
/-- loop.example/g01210/spec.l8Power -/
def p_spec_l8Power (fu : Nat) (x0 : Int) (x1 : Int) : Option (Int) :=
  whl (fun (s1 : Int × Int) c3 => (if s1.2 < x1 then c3 ((IntKind.wrap .i64 (s1.1 * x0)), (IntKind.wrap .i64 (s1.2 + 1))) else some s1.1)) fu (1, 0)
/-- loop.example/g01210/spec.l10Orders -/
def p_spec_l10Orders (fu : Nat) (x0 : Int) : Option ((List ((List Int) × Unit))) :=
  whl (fun (s1 : Int × (List ((List Int) × Unit))) c3 => (p_spec_l8Power fu x0 x0).bind (fun r5 => (if s1.1 < r5 then whl (fun (s9 : Int × Int × Int × (List Int)) c11 => (if 0 ≤ s9.2.2.1 then if x0 ≠ 0 then if s9.2.2.1 < 4 then if x0 ≠ 0 then if 0 ≤ (s9.2.1.tmod x0) then if x0 ≠ 0 then c11 ((orI .i64 s9.1 (shlI .i64 1 (s9.2.1.tmod x0))), (IntKind.wrap .i64 (s9.2.1.tdiv x0)), (s9.2.2.1 - 1), (s9.2.2.2.set s9.2.2.1.toNat (s9.2.1.tmod x0))) else none else none else none else none else none else if 0 ≤ x0 then (if s9.1 = (IntKind.wrap .i64 ((shlI .i64 1 x0) - 1)) then if (s1.2.length : Int) + 1 ≤ 1000000000 then c3 ((IntKind.wrap .i64 (s1.1 + 1)), (s1.2 ++ [(s9.2.2.2, ())])) else none else c3 ((IntKind.wrap .i64 (s1.1 + 1)), s1.2)) else none)) fu (0, s1.1, (IntKind.wrap .i64 (x0 - 1)), [(-1), (-1), (-1), (-1)]) else some s1.2))) fu (0, [])
/-- loop.example/g01210/spec.l2All -/
def p_spec_l2All (fu : Nat) (x0 : Int) : Option (Int) :=
  whl (fun (s1 : Int × Int) c3 => (if s1.2 < x0 then c3 ((IntKind.wrap .i64 (s1.1 * 6)), (IntKind.wrap .i64 (s1.2 + 1))) else some s1.1)) fu (1, 0)
/-- loop.example/g01210/spec.l2Roll -/
def p_spec_l2Roll (fu : Nat) (x0 : (List (List Int))) (x1 : Int) : Option ((List Int)) :=
  if (x0.length : Int) ≤ 1000000000 then whl (fun (s2 : Int × Int × (List Int)) c4 => (if 0 ≤ s2.2.1 then if 0 ≤ (s2.1.tmod 6) then if (s2.1.tmod 6) < 6 then c4 ((IntKind.wrap .i64 (s2.1.tdiv 6)), (s2.2.1 - 1), (s2.2.2.set s2.2.1.toNat ((x0.getD s2.2.1.toNat (List.replicate 6 0)).getD (s2.1.tmod 6).toNat 0))) else none else none else some s2.2.2)) fu (x1, ((x0.length : Int) - 1), (List.replicate (x0.length : Int).toNat 0)) else none
/-- loop.example/g01210/spec.l10Order -/
def p_spec_l10Order (x0 : (List Int)) : Option (((List Int) × Unit) × Bool) :=
  cnt (fun i2 (s1 : (List Int)) c3 _ => cnt (fun i9 (s8 : Int) c10 _ => (if ((!(decide (i9 = i2))) && (decide ((x0.getD i9.toNat 0) = (x0.getD i2.toNat 0)))) = true then some (((List.replicate 4 0), ()), false) else (if (x0.getD i2.toNat 0) < (x0.getD i9.toNat 0) then c10 (IntKind.wrap .i64 (s8 + 1)) else c10 s8))) (fun i9 (s8 : Int) => if 0 ≤ s8 then if s8 < 4 then c3 (s1.set s8.toNat i2) else none else none) (Int.toNat ((x0.length : Int) - 0)) 0 0) (fun i2 (s1 : (List Int)) => some ((s1, ()), true)) (Int.toNat ((x0.length : Int) - 0)) 0 [(-1), (-1), (-1), (-1)]
/-- loop.example/g01210/spec.l10Ways -/
def p_spec_l10Ways (fu : Nat) (x0 : (List (List Int))) : Option ((List Int)) :=
  (p_spec_l10Orders fu (x0.length : Int)).bind (fun r1 => if (r1.length : Int) ≤ 1000000000 then whl (fun (s4 : Int × (List Int)) c6 => (p_spec_l2All fu (x0.length : Int)).bind (fun r8 => (if s4.1 < r8 then (p_spec_l2Roll fu x0 s4.1).bind (fun r12 => (p_spec_l10Order r12).bind (fun r14 => cnt (fun i16 (s15 : (List Int)) c17 _ => (if (r14.2 && (decide ((r1.getD i16.toNat ((List.replicate 4 0), ())).1 = r14.1.1))) = true then c17 (s15.set i16.toNat (IntKind.wrap .i64 ((s15.getD i16.toNat 0) + 1))) else c17 s15)) (fun i16 (s15 : (List Int)) => c6 ((IntKind.wrap .i64 (s4.1 + 1)), s15)) (Int.toNat ((r1.length : Int) - 0)) 0 s4.2)) else some s4.2))) fu (0, (List.replicate (r1.length : Int).toNat 0)) else none)
/-- loop.example/g01210/spec.OrderWays -/
def p_spec_OrderWays (fu : Nat) (x0 : (List (List Int))) : Option ((List Int) × Bool) :=
  (p_spec_l2Pool x0).bind (fun r1 => (if r1 = true then (p_spec_l10Ways fu x0).bind (fun r3 => some (r3, true)) else some ([], false)))
/-- loop.example/g01210/impl.within -/
def p_impl_within (x0 : Int) (x1 : Int) (x2 : Int) : Bool :=
  ((decide (x1 ≤ x0)) && (decide (x0 ≤ x2)))
/-- loop.example/g01210/impl.isFace -/
def p_impl_isFace (x0 : Int) : Bool :=
  (p_impl_within x0 0 30)
/-- loop.example/g01210/impl.areAll[int]$1 -/
def p_impl_areAll_int_1 (x0 : Int) : Bool :=
  (!(p_impl_isFace x0))
/-- slices.IndexFunc[[]int,int] -/
def p_slices_IndexFunc_int_int (x0 : (List Int)) : Int :=
  cnt (fun i2 (s1 : Unit) c3 _ => (if (p_impl_areAll_int_1 (x0.getD i2.toNat 0)) = true then i2 else c3 ())) (fun i2 (s1 : Unit) => (-1)) (Int.toNat ((x0.length : Int) - 0)) 0 ()
/-- slices.ContainsFunc[[]int,int] -/
def p_slices_ContainsFunc_int_int (x0 : (List Int)) : Bool :=
  (decide (0 ≤ (p_slices_IndexFunc_int_int x0)))
/-- loop.example/g01210/impl.areAll[int] -/
def p_impl_areAll_int (x0 : (List Int)) : Bool :=
  (!(p_slices_ContainsFunc_int_int x0))
/-- cmp.isNaN[int] -/
def p_cmp_isNaN_int (x0 : Int) : Bool :=
  (!(decide (x0 = x0)))
/-- cmp.Less[int] -/
def p_cmp_Less_int (x0 : Int) (x1 : Int) : Bool :=
  (((p_cmp_isNaN_int x0) && (!(p_cmp_isNaN_int x1))) || (decide (x0 < x1)))
/-- slices.IsSorted[[]int,int] -/
def p_slices_IsSorted_int_int (x0 : (List Int)) : Bool :=
  cntd (fun i2 (s1 : Unit) c3 _ => (if (p_cmp_Less_int (x0.getD i2.toNat 0) (x0.getD (i2 - 1).toNat 0)) = true then false else c3 ())) (fun i2 (s1 : Unit) => true) (Int.toNat (((x0.length : Int) - 1) - 0)) ((x0.length : Int) - 1) ()
/-- loop.example/g01210/impl.IsDie -/
def p_impl_IsDie (x0 : (List Int)) : Bool :=
  ((p_impl_areAll_int x0) && (p_slices_IsSorted_int_int x0))
/-- loop.example/g01210/impl.areAll[[6]int]$1 -/
def p_impl_areAll_6_int_1 (x0 : (List Int)) : Bool :=
  (!(p_impl_IsDie x0))
/-- slices.IndexFunc[[][6]int,[6]int] -/
def p_slices_IndexFunc_6_int_6_int (x0 : (List (List Int))) : Int :=
  cnt (fun i2 (s1 : Unit) c3 _ => (if (p_impl_areAll_6_int_1 (x0.getD i2.toNat (List.replicate 6 0))) = true then i2 else c3 ())) (fun i2 (s1 : Unit) => (-1)) (Int.toNat ((x0.length : Int) - 0)) 0 ()
/-- slices.ContainsFunc[[][6]int,[6]int] -/
def p_slices_ContainsFunc_6_int_6_int (x0 : (List (List Int))) : Bool :=
  (decide (0 ≤ (p_slices_IndexFunc_6_int_6_int x0)))
/-- loop.example/g01210/impl.areAll[[6]int] -/
def p_impl_areAll_6_int (x0 : (List (List Int))) : Bool :=
  (!(p_slices_ContainsFunc_6_int_6_int x0))
/-- loop.example/g01210/impl.IsPool -/
def p_impl_IsPool (x0 : (List (List Int))) : Bool :=
  ((p_impl_within (x0.length : Int) 1 4) && (p_impl_areAll_6_int x0))
/-- slices.Index[[]int,int] -/
def p_slices_Index_int_int (x0 : (List Int)) (x1 : Int) : Int :=
  cnt (fun i2 (s1 : Unit) c3 _ => (if x1 = (x0.getD i2.toNat 0) then i2 else c3 ())) (fun i2 (s1 : Unit) => (-1)) (Int.toNat ((x0.length : Int) - 0)) 0 ()
/-- slices.Contains[[]int,int] -/
def p_slices_Contains_int_int (x0 : (List Int)) (x1 : Int) : Bool :=
  (decide (0 ≤ (p_slices_Index_int_int x0 x1)))
/-- loop.example/g01210/impl.orders$1 -/
def p_impl_orders_1 : Nat → Int → Int → (List Int) → (List ((List Int) × Unit)) → Option ((List Int) × (List ((List Int) × Unit)))
  | 0, _, _, _, _ => none
  | fu + 1, x0, x1, x2, x3 => (if x0 = x1 then if (x3.length : Int) + 1 ≤ 1000000000 then some (x2, (x3 ++ [(x2, ())])) else none else whl (fun (s5 : Int × (List Int) × (List ((List Int) × Unit))) c7 => (if s5.1 < x1 then if 0 ≤ x0 then if x0 ≤ 4 then (if (p_slices_Contains_int_int ((s5.2.1.drop 0).take (x0 - 0).toNat) s5.1) = true then c7 ((IntKind.wrap .i64 (s5.1 + 1)), s5.2.1, s5.2.2) else if x0 < 4 then (p_impl_orders_1 fu (x0 + 1) x1 (s5.2.1.set x0.toNat s5.1) s5.2.2).bind (fun r16 => c7 ((IntKind.wrap .i64 (s5.1 + 1)), r16.1, r16.2)) else none) else none else none else if 0 ≤ x0 then if x0 < 4 then some ((s5.2.1.set x0.toNat (-1)), s5.2.2) else none else none)) fu (0, x2, x3))
/-- loop.example/g01210/impl.orders -/
def p_impl_orders (fu : Nat) (x0 : Int) : Option ((List ((List Int) × Unit))) :=
  (p_impl_orders_1 fu 0 x0 [(-1), (-1), (-1), (-1)] []).bind (fun r1 => some r1.2)
/-- loop.example/g01210/impl.power -/
def p_impl_power (fu : Nat) (x0 : Int) : Option (Int) :=
  whl (fun (s1 : Int × Int) c3 => (if s1.2 < x0 then c3 ((IntKind.wrap .i64 (s1.1 * 6)), (IntKind.wrap .i64 (s1.2 + 1))) else some s1.1)) fu (1, 0)
/-- loop.example/g01210/impl.rollAt -/
def p_impl_rollAt (fu : Nat) (x0 : (List (List Int))) (x1 : Int) : Option ((List Int)) :=
  if (x0.length : Int) ≤ 1000000000 then whl (fun (s2 : Int × Int × (List Int)) c4 => (if 0 ≤ s2.2.1 then if 0 ≤ (s2.1.tmod 6) then if (s2.1.tmod 6) < 6 then c4 ((IntKind.wrap .i64 (s2.1.tdiv 6)), (s2.2.1 - 1), (s2.2.2.set s2.2.1.toNat ((x0.getD s2.2.1.toNat (List.replicate 6 0)).getD (s2.1.tmod 6).toNat 0))) else none else none else some s2.2.2)) fu (x1, ((x0.length : Int) - 1), (List.replicate (x0.length : Int).toNat 0)) else none
/-- loop.example/g01210/impl.truth -/
def p_impl_truth (x0 : Bool) : Int :=
  (if x0 = true then 1 else 0)
/-- loop.example/g01210/impl.orderOf -/
def p_impl_orderOf (x0 : (List Int)) : Option (((List Int) × Unit) × Bool) :=
  cnt (fun i2 (s1 : (List Int)) c3 _ => cnt (fun i9 (s8 : Int) c10 _ => (if ((!(decide (i9 = i2))) && (decide ((x0.getD i9.toNat 0) = (x0.getD i2.toNat 0)))) = true then some (((List.replicate 4 0), ()), false) else c10 (IntKind.wrap .i64 (s8 + (p_impl_truth (decide ((x0.getD i2.toNat 0) < (x0.getD i9.toNat 0)))))))) (fun i9 (s8 : Int) => if 0 ≤ s8 then if s8 < 4 then c3 (s1.set s8.toNat i2) else none else none) (Int.toNat ((x0.length : Int) - 0)) 0 0) (fun i2 (s1 : (List Int)) => some ((s1, ()), true)) (Int.toNat ((x0.length : Int) - 0)) 0 [(-1), (-1), (-1), (-1)]
/-- slices.Index[[]loop.example/g01210/impl.Order,loop.example/g01210/impl.Order] -/
def p_slices_Index_impl_Order_impl_Order (x0 : (List ((List Int) × Unit))) (x1 : ((List Int) × Unit)) : Int :=
  cnt (fun i2 (s1 : Unit) c3 _ => (if x1.1 = (x0.getD i2.toNat ((List.replicate 4 0), ())).1 then i2 else c3 ())) (fun i2 (s1 : Unit) => (-1)) (Int.toNat ((x0.length : Int) - 0)) 0 ()
/-- loop.example/g01210/impl.orderWays -/
def p_impl_orderWays (fu : Nat) (x0 : (List (List Int))) : Option ((List Int)) :=
  (p_impl_orders fu (x0.length : Int)).bind (fun r1 => if (r1.length : Int) ≤ 1000000000 then (p_impl_power fu (x0.length : Int)).bind (fun r4 => whl (fun (s5 : Int × (List Int)) c7 => (if s5.1 < r4 then (p_impl_rollAt fu x0 s5.1).bind (fun r12 => (p_impl_orderOf r12).bind (fun r14 => (if r14.2 = true then if 0 ≤ (p_slices_Index_impl_Order_impl_Order r1 (r14.1.1, ())) then if (p_slices_Index_impl_Order_impl_Order r1 (r14.1.1, ())) < (r1.length : Int) then c7 ((IntKind.wrap .i64 (s5.1 + 1)), (s5.2.set (p_slices_Index_impl_Order_impl_Order r1 (r14.1.1, ())).toNat (IntKind.wrap .i64 ((s5.2.getD (p_slices_Index_impl_Order_impl_Order r1 (r14.1.1, ())).toNat 0) + 1)))) else none else none else c7 ((IntKind.wrap .i64 (s5.1 + 1)), s5.2)))) else some s5.2)) fu (0, (List.replicate (r1.length : Int).toNat 0))) else none)
/-- loop.example/g01210/impl.OrderWays -/
def p_impl_OrderWays (fu : Nat) (x0 : (List (List Int))) : Option ((List Int) × Bool) :=
  (if (p_impl_IsPool x0) = true then (p_impl_orderWays fu x0).bind (fun r2 => some (r2, true)) else some ([], false))
/-- loop.example/g01210/laws.eqIntS -/
def p_laws_eqIntS (x0 : (List Int)) (x1 : (List Int)) : Bool :=
  (if (x0.length : Int) = (x1.length : Int) then cnt (fun i5 (s4 : Unit) c6 _ => (if (x0.getD i5.toNat 0) = (x1.getD i5.toNat 0) then c6 () else false)) (fun i5 (s4 : Unit) => true) (Int.toNat ((x0.length : Int) - 0)) 0 () else false)
/-- loop.example/g01210/laws.eqIntA6 -/
def p_laws_eqIntA6 (x0 : (List Int)) (x1 : (List Int)) : Bool :=
  cnt (fun i2 (s1 : Unit) c3 _ => (if (x0.getD i2.toNat 0) = (x1.getD i2.toNat 0) then c3 () else false)) (fun i2 (s1 : Unit) => true) (Int.toNat (6 - 0)) 0 ()
/-- loop.example/g01210/laws.eqIntA6S -/
def p_laws_eqIntA6S (x0 : (List (List Int))) (x1 : (List (List Int))) : Bool :=
  (if (x0.length : Int) = (x1.length : Int) then cnt (fun i5 (s4 : Unit) c6 _ => (if (p_laws_eqIntA6 (x0.getD i5.toNat (List.replicate 6 0)) (x1.getD i5.toNat (List.replicate 6 0))) = true then c6 () else false)) (fun i5 (s4 : Unit) => true) (Int.toNat ((x0.length : Int) - 0)) 0 () else false)
/-- loop.example/g01210/laws.markIntA6S -/
def p_laws_markIntA6S (x0 : (List (List Int))) (x1 : Int) : Int × (List (List Int)) :=
  cnt (fun i2 (s1 : Int × (List (List Int))) c3 _ => cnt (fun i9 (s8 : Int × (List (List Int))) c10 _ => c10 ((IntKind.wrap .i64 (s8.1 + 1)), (s8.2.set i2.toNat ((s8.2.getD i2.toNat (List.replicate 6 0)).set i9.toNat s8.1)))) (fun i9 (s8 : Int × (List (List Int))) => c3 (s8.1, s8.2)) (Int.toNat (6 - 0)) 0 (s1.1, s1.2)) (fun i2 (s1 : Int × (List (List Int))) => (s1.1, s1.2)) (Int.toNat ((x0.length : Int) - 0)) 0 (x1, x0)
/-- loop.example/g01210/laws.markIntS -/
def p_laws_markIntS (x0 : (List Int)) (x1 : Int) : Int × (List Int) :=
  cnt (fun i2 (s1 : Int × (List Int)) c3 _ => c3 ((IntKind.wrap .i64 (s1.1 + 1)), (s1.2.set i2.toNat s1.1))) (fun i2 (s1 : Int × (List Int)) => (s1.1, s1.2)) (Int.toNat ((x0.length : Int) - 0)) 0 (x1, x0)
/-- loop.example/g01210/laws.heldIntS -/
def p_laws_heldIntS (x0 : (List Int)) (x1 : Int) : Int :=
  cnt (fun i2 (s1 : Int) c3 _ => (if (x0.getD i2.toNat 0) = s1 then c3 (IntKind.wrap .i64 (s1 + 1)) else (-1))) (fun i2 (s1 : Int) => s1) (Int.toNat ((x0.length : Int) - 0)) 0 x1
/-- loop.example/g01210/laws.FnExactOrderWays -/
def p_laws_FnExactOrderWays (fu : Nat) (x0 : (List (List Int))) : Option (Bool) :=
  (if (p_laws_szIntA6S x0 1048576) < 0 then some true else (p_laws_toIntA6S x0).bind (fun r4 => (p_spec_OrderWays fu r4).bind (fun r6 => (p_laws_toIntA6S x0).bind (fun r8 => (p_impl_OrderWays fu r8).bind (fun r10 => (if ((!(p_laws_eqIntS r10.1 r6.1)) || (r10.2 != r6.2)) = true then some false else (p_laws_toIntA6S x0).bind (fun r18 => (if (p_laws_eqIntA6S r8 r18) = true then (if (((decide ((p_laws_markIntA6S r8 1).1 < 0)) || (!(p_laws_eqIntS r10.1 r6.1))) || (r10.2 != r6.2)) = true then some false else (if (p_laws_heldIntS ((p_laws_markIntS r10.1 1).2) 1) < 0 then some false else (if (p_laws_heldIntS ((p_laws_markIntS r10.1 1).2) 1) = (p_laws_markIntS r10.1 1).1 then (p_laws_toIntA6S x0).bind (fun r53 => (p_impl_OrderWays fu r53).bind (fun r55 => (if ((!(p_laws_eqIntS r55.1 r6.1)) || (r55.2 != r6.2)) = true then some false else (if (p_laws_heldIntS ((p_laws_markIntS r10.1 1).2) 1) < 0 then some false else (if (p_laws_heldIntS ((p_laws_markIntS r10.1 1).2) 1) = (p_laws_markIntS r10.1 1).1 then some true else some false))))) else some false))) else some false))))))))
/-- loop.example/g01210/spec.l10At -/
def p_spec_l10At (fu : Nat) (x0 : Int) (x1 : (List Int)) (x2 : Int) (x3 : Int) : Option (Int) :=
  (p_spec_l10Orders fu x0).bind (fun r1 => cnt (fun i4 (s3 : Int) c5 _ => if 0 ≤ x3 then if x3 < 4 then (if ((r1.getD i4.toNat ((List.replicate 4 0), ())).1.getD x3.toNat 0) = x2 then if i4 < (x1.length : Int) then c5 (IntKind.wrap .i64 (s3 + (x1.getD i4.toNat 0))) else none else c5 s3) else none else none) (fun i4 (s3 : Int) => some s3) (Int.toNat ((r1.length : Int) - 0)) 0 0)
/-- loop.example/g01210/spec.WaysAt -/
def p_spec_WaysAt (fu : Nat) (x0 : (List (List Int))) (x1 : Int) (x2 : Int) : Option (Int × Bool) :=
  (p_spec_l2Pool x0).bind (fun r1 => (if (((!r1) || (!(p_spec_l1In x1 0 ((x0.length : Int) - 1)))) || (!(p_spec_l1In x2 0 ((x0.length : Int) - 1)))) = true then some (0, false) else (p_spec_l10Ways fu x0).bind (fun r31 => (p_spec_l10At fu (x0.length : Int) r31 x1 x2).bind (fun r33 => some (r33, true)))))
/-- loop.example/g01210/impl.isPlayer -/
def p_impl_isPlayer (x0 : (List (List Int))) (x1 : Int) : Bool :=
  (p_impl_within x1 0 ((x0.length : Int) - 1))
/-- loop.example/g01210/impl.waysAt -/
def p_impl_waysAt (fu : Nat) (x0 : (List (List Int))) (x1 : Int) (x2 : Int) : Option (Int) :=
  (p_impl_orderWays fu x0).bind (fun r1 => (p_impl_orders fu (x0.length : Int)).bind (fun r3 => cnt (fun i6 (s5 : Int) c7 _ => if 0 ≤ x2 then if x2 < 4 then (if (((r3.getD i6.toNat ((List.replicate 4 0), ())).1).getD x2.toNat 0) = x1 then if i6 < (r1.length : Int) then c7 (IntKind.wrap .i64 (s5 + (r1.getD i6.toNat 0))) else none else c7 s5) else none else none) (fun i6 (s5 : Int) => some s5) (Int.toNat ((r3.length : Int) - 0)) 0 0))
/-- loop.example/g01210/impl.WaysAt -/
def p_impl_WaysAt (fu : Nat) (x0 : (List (List Int))) (x1 : Int) (x2 : Int) : Option (Int × Bool) :=
  (if (((!(p_impl_IsPool x0)) || (!(p_impl_isPlayer x0 x1))) || (!(p_impl_isPlayer x0 x2))) = true then some (0, false) else (p_impl_waysAt fu x0 x1 x2).bind (fun r22 => some (r22, true)))
/-- loop.example/g01210/laws.FnExactWaysAt -/
def p_laws_FnExactWaysAt (fu : Nat) (x0 : (List (List Int))) (x1 : Int) (x2 : Int) : Option (Bool) :=
  (if (p_laws_szIntA6S x0 1048576) < 0 then some true else (p_laws_toIntA6S x0).bind (fun r4 => (p_spec_WaysAt fu r4 x1 x2).bind (fun r6 => (p_laws_toIntA6S x0).bind (fun r7 => (p_impl_WaysAt fu r7 x1 x2).bind (fun r9 => (if ((!(decide (r9.1 = r6.1))) || (r9.2 != r6.2)) = true then some false else (p_laws_toIntA6S x0).bind (fun r20 => (if (p_laws_eqIntA6S r7 r20) = true then some true else some false))))))))
/-- loop.example/g01210/spec.l10Ties -/
def p_spec_l10Ties (fu : Nat) (x0 : (List (List Int))) (x1 : (List Int)) : Option (Int) :=
  (p_spec_l2All fu (x0.length : Int)).bind (fun r1 => cnt (fun i3 (s2 : Int) c4 _ => c4 (IntKind.wrap .i64 (s2 - (x1.getD i3.toNat 0)))) (fun i3 (s2 : Int) => some s2) (Int.toNat ((x1.length : Int) - 0)) 0 r1)
/-- loop.example/g01210/spec.IsOrderFair -/
def p_spec_IsOrderFair (fu : Nat) (x0 : (List (List Int))) : Option (Bool × Bool) :=
  (p_spec_l2Pool x0).bind (fun r1 => (if r1 = true then (p_spec_l10Ways fu x0).bind (fun r3 => cnt (fun i6 (s5 : Unit) c7 _ => (if (r3.getD i6.toNat 0) = (r3.getD 0 0) then c7 () else some (false, true))) (fun i6 (s5 : Unit) => (p_spec_l10Ties fu x0 r3).bind (fun r15 => some ((decide (r15 = 0)), true))) (Int.toNat ((r3.length : Int) - 0)) 0 ()) else some (false, false)))
/-- loop.example/g01210/impl.total -/
def p_impl_total (x0 : (List Int)) : Int :=
  cnt (fun i2 (s1 : Int) c3 _ => c3 (IntKind.wrap .i64 (s1 + (x0.getD i2.toNat 0)))) (fun i2 (s1 : Int) => s1) (Int.toNat ((x0.length : Int) - 0)) 0 0
/-- loop.example/g01210/impl.ties -/
def p_impl_ties (fu : Nat) (x0 : (List (List Int))) : Option (Int) :=
  (p_impl_power fu (x0.length : Int)).bind (fun r1 => (p_impl_orderWays fu x0).bind (fun r2 => some (IntKind.wrap .i64 (r1 - (p_impl_total r2)))))
/-- slices.Max[[]int,int] -/
def p_slices_Max_int_int (x0 : (List Int)) : Option (Int) :=
  (if (x0.length : Int) < 1 then none else cnt (fun i5 (s4 : Int) c6 _ => c6 (if (x0.getD i5.toNat 0) > s4 then (x0.getD i5.toNat 0) else s4)) (fun i5 (s4 : Int) => some s4) (Int.toNat ((x0.length : Int) - 1)) 1 (x0.getD 0 0))
/-- slices.Min[[]int,int] -/
def p_slices_Min_int_int (x0 : (List Int)) : Option (Int) :=
  (if (x0.length : Int) < 1 then none else cnt (fun i5 (s4 : Int) c6 _ => c6 (if (x0.getD i5.toNat 0) < s4 then (x0.getD i5.toNat 0) else s4)) (fun i5 (s4 : Int) => some s4) (Int.toNat ((x0.length : Int) - 1)) 1 (x0.getD 0 0))
/-- loop.example/g01210/impl.areSame -/
def p_impl_areSame (x0 : (List Int)) : Option (Bool) :=
  (p_slices_Max_int_int x0).bind (fun r1 => (p_slices_Min_int_int x0).bind (fun r2 => some (decide (r1 = r2))))
/-- loop.example/g01210/impl.IsOrderFair -/
def p_impl_IsOrderFair (fu : Nat) (x0 : (List (List Int))) : Option (Bool × Bool) :=
  (if (p_impl_IsPool x0) = true then (p_impl_ties fu x0).bind (fun r2 => (if r2 = 0 then (p_impl_orderWays fu x0).bind (fun r6 => (p_impl_areSame r6).bind (fun r8 => some (r8, true))) else some (false, true))) else some (false, false))
/-- loop.example/g01210/laws.FnExactIsOrderFair -/
def p_laws_FnExactIsOrderFair (fu : Nat) (x0 : (List (List Int))) : Option (Bool) :=
  (if (p_laws_szIntA6S x0 1048576) < 0 then some true else (p_laws_toIntA6S x0).bind (fun r4 => (p_spec_IsOrderFair fu r4).bind (fun r6 => (p_laws_toIntA6S x0).bind (fun r7 => (p_impl_IsOrderFair fu r7).bind (fun r9 => (if ((r9.1 != r6.1) || (r9.2 != r6.2)) = true then some false else (p_laws_toIntA6S x0).bind (fun r16 => (if (p_laws_eqIntA6S r7 r16) = true then some true else some false))))))))
/-- loop.example/g01210/spec.IsFirstFair -/
def p_spec_IsFirstFair (fu : Nat) (x0 : (List (List Int))) : Option (Bool × Bool) :=
  (p_spec_l2Pool x0).bind (fun r1 => (if r1 = true then (p_spec_l10Ways fu x0).bind (fun r3 => cnt (fun i6 (s5 : Unit) c7 _ => (p_spec_l10At fu (x0.length : Int) r3 i6 0).bind (fun r12 => (p_spec_l10At fu (x0.length : Int) r3 0 0).bind (fun r13 => (if r12 = r13 then c7 () else some (false, true))))) (fun i6 (s5 : Unit) => some (true, true)) (Int.toNat ((x0.length : Int) - 1)) 1 ()) else some (false, false)))
/-- loop.example/g01210/impl.isFairAt -/
def p_impl_isFairAt (fu : Nat) (x0 : (List (List Int))) (x1 : Int) : Option (Bool) :=
  cnt (fun i2 (s1 : (List Int)) c3 _ => (p_impl_waysAt fu x0 i2 x1).bind (fun r8 => if (s1.length : Int) + 1 ≤ 1000000000 then c3 (s1 ++ [r8]) else none)) (fun i2 (s1 : (List Int)) => (p_impl_areSame s1).bind (fun r10 => some r10)) (Int.toNat ((x0.length : Int) - 0)) 0 []
/-- loop.example/g01210/impl.IsFirstFair -/
def p_impl_IsFirstFair (fu : Nat) (x0 : (List (List Int))) : Option (Bool × Bool) :=
  (if (p_impl_IsPool x0) = true then (p_impl_isFairAt fu x0 0).bind (fun r2 => some (r2, true)) else some (false, false))
/-- loop.example/g01210/laws.FnExactIsFirstFair -/
def p_laws_FnExactIsFirstFair (fu : Nat) (x0 : (List (List Int))) : Option (Bool) :=
  (if (p_laws_szIntA6S x0 1048576) < 0 then some true else (p_laws_toIntA6S x0).bind (fun r4 => (p_spec_IsFirstFair fu r4).bind (fun r6 => (p_laws_toIntA6S x0).bind (fun r7 => (p_impl_IsFirstFair fu r7).bind (fun r9 => (if ((r9.1 != r6.1) || (r9.2 != r6.2)) = true then some false else (p_laws_toIntA6S x0).bind (fun r16 => (if (p_laws_eqIntA6S r7 r16) = true then some true else some false))))))))
/-- loop.example/g01210/spec.IsPlaceFair -/
def p_spec_IsPlaceFair (fu : Nat) (x0 : (List (List Int))) : Option (Bool × Bool) :=
  (p_spec_l2Pool x0).bind (fun r1 => (if r1 = true then (p_spec_l10Ways fu x0).bind (fun r3 => cnt (fun i6 (s5 : Unit) c7 _ => cnt (fun i13 (s12 : Unit) c14 _ => (p_spec_l10At fu (x0.length : Int) r3 i6 i13).bind (fun r19 => (p_spec_l2All fu (x0.length : Int)).bind (fun r20 => (if (IntKind.wrap .i64 (r19 * (x0.length : Int))) = r20 then c14 () else some (false, true))))) (fun i13 (s12 : Unit) => c7 ()) (Int.toNat ((x0.length : Int) - 0)) 0 ()) (fun i6 (s5 : Unit) => some (true, true)) (Int.toNat ((x0.length : Int) - 0)) 0 ()) else some (false, false)))
/-- loop.example/g01210/impl.IsPlaceFair -/
def p_impl_IsPlaceFair (fu : Nat) (x0 : (List (List Int))) : Option (Bool × Bool) :=
  (if (p_impl_IsPool x0) = true then cnt (fun i3 (s2 : Unit) c4 _ => (p_impl_isFairAt fu x0 i3).bind (fun r9 => (if r9 = true then c4 () else some (false, true)))) (fun i3 (s2 : Unit) => (p_impl_ties fu x0).bind (fun r11 => some ((decide (r11 = 0)), true))) (Int.toNat ((x0.length : Int) - 0)) 0 () else some (false, false))
/-- loop.example/g01210/laws.FnExactIsPlaceFair -/
def p_laws_FnExactIsPlaceFair (fu : Nat) (x0 : (List (List Int))) : Option (Bool) :=
  (if (p_laws_szIntA6S x0 1048576) < 0 then some true else (p_laws_toIntA6S x0).bind (fun r4 => (p_spec_IsPlaceFair fu r4).bind (fun r6 => (p_laws_toIntA6S x0).bind (fun r7 => (p_impl_IsPlaceFair fu r7).bind (fun r9 => (if ((r9.1 != r6.1) || (r9.2 != r6.2)) = true then some false else (p_laws_toIntA6S x0).bind (fun r16 => (if (p_laws_eqIntA6S r7 r16) = true then some true else some false))))))))
/-- loop.example/g01210/laws.toIntS -/
def p_laws_toIntS (x0 : (List Int)) : Option ((List Int)) :=
  if (x0.length : Int) ≤ 1000000000 then cnt (fun i3 (s2 : (List Int)) c4 _ => c4 (s2.set i3.toNat (x0.getD i3.toNat 0))) (fun i3 (s2 : (List Int)) => some s2) (Int.toNat ((x0.length : Int) - 0)) 0 (List.replicate (x0.length : Int).toNat 0) else none
/-- loop.example/g01210/spec.l10Letters -/
def p_spec_l10Letters (x0 : (List Int)) : Option (Bool) :=
  (if ((!(decide (((x0.length : Int).tmod 6) = 0))) || (!(p_spec_l1In (x0.length : Int) 6 24))) = true then some false else cnt (fun i14 (s13 : (List Int)) c15 _ => (if (p_spec_l1In (x0.getD i14.toNat 0) 0 (IntKind.wrap .i64 ((IntKind.wrap .i64 ((x0.length : Int).tdiv 6)) - 1))) = true then if 0 ≤ (x0.getD i14.toNat 0) then if (x0.getD i14.toNat 0) < 4 then c15 (s13.set (x0.getD i14.toNat 0).toNat (IntKind.wrap .i64 ((s13.getD (x0.getD i14.toNat 0).toNat 0) + 1))) else none else none else some false)) (fun i14 (s13 : (List Int)) => cnt (fun i24 (s23 : Unit) c25 _ => if i24 < 4 then (if (s13.getD i24.toNat 0) = 6 then c25 () else some false) else none) (fun i24 (s23 : Unit) => some true) (Int.toNat ((IntKind.wrap .i64 ((x0.length : Int).tdiv 6)) - 0)) 0 ()) (Int.toNat ((x0.length : Int) - 0)) 0 (List.replicate 4 0))
/-- loop.example/g01210/spec.l1Own -/
def p_spec_l1Own (x0 : (List Int)) : Option ((List Int)) :=
  if 0 + (x0.length : Int) ≤ 1000000000 then some ([] ++ x0) else none
/-- loop.example/g01210/spec.l10Pool -/
def p_spec_l10Pool (x0 : (List Int)) : Option ((List (List Int))) :=
  if 0 ≤ (IntKind.wrap .i64 ((x0.length : Int).tdiv 6)) then if (IntKind.wrap .i64 ((x0.length : Int).tdiv 6)) ≤ 1000000000 then cnt (fun i4 (s3 : (List (List Int)) × (List Int)) c5 _ => if 0 ≤ (x0.getD i4.toNat 0) then if (x0.getD i4.toNat 0) < 4 then if (x0.getD i4.toNat 0) < (IntKind.wrap .i64 ((x0.length : Int).tdiv 6)) then if 0 ≤ (s3.2.getD (x0.getD i4.toNat 0).toNat 0) then if (s3.2.getD (x0.getD i4.toNat 0).toNat 0) < 6 then c5 ((s3.1.set (x0.getD i4.toNat 0).toNat ((s3.1.getD (x0.getD i4.toNat 0).toNat (List.replicate 6 0)).set (s3.2.getD (x0.getD i4.toNat 0).toNat 0).toNat (i4 + 1))), (s3.2.set (x0.getD i4.toNat 0).toNat ((s3.2.getD (x0.getD i4.toNat 0).toNat 0) + 1))) else none else none else none else none else none) (fun i4 (s3 : (List (List Int)) × (List Int)) => some s3.1) (Int.toNat ((x0.length : Int) - 0)) 0 ((List.replicate (IntKind.wrap .i64 ((x0.length : Int).tdiv 6)).toNat (List.replicate 6 0)), (List.replicate 4 0)) else none else none
/-- loop.example/g01210/spec.l1Least -/
def p_spec_l1Least (x0 : Int) (x1 : Int) : Int :=
  (if x0 < x1 then x0 else x1)
/-- loop.example/g01210/spec.l1Most -/
def p_spec_l1Most (x0 : Int) (x1 : Int) : Int :=
  (if x1 < x0 then x0 else x1)
/-- loop.example/g01210/spec.l10Spread -/
def p_spec_l10Spread (fu : Nat) (x0 : (List Int)) : Option (Int) :=
  (p_spec_l10Pool x0).bind (fun r1 => (p_spec_l10Ways fu r1).bind (fun r3 => if 0 < (r3.length : Int) then cnt (fun i7 (s6 : Int × Int) c8 _ => c8 ((p_spec_l1Least s6.1 (r3.getD i7.toNat 0)), (p_spec_l1Most s6.2 (r3.getD i7.toNat 0)))) (fun i7 (s6 : Int × Int) => some (IntKind.wrap .i64 (s6.2 - s6.1))) (Int.toNat ((r3.length : Int) - 0)) 0 ((r3.getD 0 0), (r3.getD 0 0)) else none))
/-- loop.example/g01210/spec.MendLetters -/
def p_spec_MendLetters (fu : Nat) (x0 : (List Int)) : Option ((List Int) × Int × Bool) :=
  (p_spec_l10Letters x0).bind (fun r1 => (if r1 = true then (p_spec_l1Own x0).bind (fun r3 => (p_spec_l10Spread fu x0).bind (fun r5 => whl (fun (s6 : Int × Int × (List Int)) c8 => (if (IntKind.wrap .i64 (s6.2.1 + 1)) < (x0.length : Int) then (p_spec_l1Own x0).bind (fun r13 => if 0 ≤ (IntKind.wrap .i64 (s6.2.1 + 1)) then if s6.2.1 < (r13.length : Int) then if s6.2.1 < (x0.length : Int) then if (s6.2.1 + 1) < (r13.length : Int) then (p_spec_l10Spread fu ((r13.set s6.2.1.toNat (x0.getD (IntKind.wrap .i64 (s6.2.1 + 1)).toNat 0)).set (s6.2.1 + 1).toNat (x0.getD s6.2.1.toNat 0))).bind (fun r19 => (if r19 < s6.1 then c8 (r19, (s6.2.1 + 1), ((r13.set s6.2.1.toNat (x0.getD (IntKind.wrap .i64 (s6.2.1 + 1)).toNat 0)).set (s6.2.1 + 1).toNat (x0.getD s6.2.1.toNat 0))) else c8 (s6.1, (s6.2.1 + 1), s6.2.2))) else none else none else none else none) else some (s6.2.2, s6.1, true))) fu (r5, 0, r3))) else some ([], 0, false)))
/-- loop.example/g01210/impl.fromLetters -/
def p_impl_fromLetters (x0 : (List Int)) : Option ((List (List Int)) × Bool) :=
  (if ((!(decide (((x0.length : Int).tmod 6) = 0))) || (!(p_impl_within (IntKind.wrap .i64 ((x0.length : Int).tdiv 6)) 1 4))) = true then some ([], false) else if 0 ≤ (IntKind.wrap .i64 ((x0.length : Int).tdiv 6)) then if (IntKind.wrap .i64 ((x0.length : Int).tdiv 6)) ≤ 1000000000 then cnt (fun i14 (s13 : (List (List Int)) × (List Int)) c15 _ => if ((!(!(p_impl_within (x0.getD i14.toNat 0) 0 ((IntKind.wrap .i64 ((x0.length : Int).tdiv 6)) - 1)))) = true → 0 ≤ (x0.getD i14.toNat 0)) then if ((!(!(p_impl_within (x0.getD i14.toNat 0) 0 ((IntKind.wrap .i64 ((x0.length : Int).tdiv 6)) - 1)))) = true → (x0.getD i14.toNat 0) < (IntKind.wrap .i64 ((x0.length : Int).tdiv 6))) then (if ((!(p_impl_within (x0.getD i14.toNat 0) 0 ((IntKind.wrap .i64 ((x0.length : Int).tdiv 6)) - 1))) || (decide ((s13.2.getD (x0.getD i14.toNat 0).toNat 0) = 6))) = true then some ([], false) else if 0 ≤ (x0.getD i14.toNat 0) then if (x0.getD i14.toNat 0) < (IntKind.wrap .i64 ((x0.length : Int).tdiv 6)) then if 0 ≤ (s13.2.getD (x0.getD i14.toNat 0).toNat 0) then if (s13.2.getD (x0.getD i14.toNat 0).toNat 0) < 6 then c15 ((s13.1.set (x0.getD i14.toNat 0).toNat ((s13.1.getD (x0.getD i14.toNat 0).toNat (List.replicate 6 0)).set (s13.2.getD (x0.getD i14.toNat 0).toNat 0).toNat (i14 + 1))), (s13.2.set (x0.getD i14.toNat 0).toNat ((s13.2.getD (x0.getD i14.toNat 0).toNat 0) + 1))) else none else none else none else none) else none else none) (fun i14 (s13 : (List (List Int)) × (List Int)) => some (s13.1, true)) (Int.toNat ((x0.length : Int) - 0)) 0 ((List.replicate (IntKind.wrap .i64 ((x0.length : Int).tdiv 6)).toNat (List.replicate 6 0)), (List.replicate (IntKind.wrap .i64 ((x0.length : Int).tdiv 6)).toNat 0)) else none else none)
/-- loop.example/g01210/impl.LettersWays -/
def p_impl_LettersWays (fu : Nat) (x0 : (List Int)) : Option ((List Int) × Bool) :=
  (p_impl_fromLetters x0).bind (fun r1 => (if r1.2 = true then (p_impl_orderWays fu r1.1).bind (fun r4 => some (r4, true)) else some ([], false)))
/-- slices.Clone[[]int,int] -/
def p_slices_Clone_int_int (x0 : (List Int)) : Option ((List Int)) :=
  if 0 + (x0.length : Int) ≤ 1000000000 then some ([] ++ x0) else none
/-- loop.example/g01210/impl.MendLetters -/
def p_impl_MendLetters (fu : Nat) (x0 : (List Int)) : Option ((List Int) × Int × Bool) :=
  (p_impl_LettersWays fu x0).bind (fun r1 => (if r1.2 = true then (p_slices_Clone_int_int x0).bind (fun r4 => (p_slices_Max_int_int r1.1).bind (fun r6 => (p_slices_Min_int_int r1.1).bind (fun r7 => cnt (fun i9 (s8 : Int × (List Int)) c10 _ => (p_slices_Clone_int_int x0).bind (fun r15 => if i9 < (r15.length : Int) then (p_impl_LettersWays fu ((r15.set (i9 - 1).toNat (r15.getD i9.toNat 0)).set i9.toNat (r15.getD (i9 - 1).toNat 0))).bind (fun r18 => (p_slices_Max_int_int r18.1).bind (fun r20 => (p_slices_Min_int_int r18.1).bind (fun r21 => (if (IntKind.wrap .i64 (r20 - r21)) < s8.1 then c10 ((IntKind.wrap .i64 (r20 - r21)), ((r15.set (i9 - 1).toNat (r15.getD i9.toNat 0)).set i9.toNat (r15.getD (i9 - 1).toNat 0))) else c10 (s8.1, s8.2))))) else none)) (fun i9 (s8 : Int × (List Int)) => some (s8.2, s8.1, true)) (Int.toNat ((x0.length : Int) - 1)) 1 ((IntKind.wrap .i64 (r6 - r7)), r4)))) else some ([], 0, false)))
/-- loop.example/g01210/laws.FnExactMendLetters -/
def p_laws_FnExactMendLetters (fu : Nat) (x0 : (List Int)) : Option (Bool) :=
  (if 1048576 < (x0.length : Int) then some true else (p_laws_toIntS x0).bind (fun r4 => (p_spec_MendLetters fu r4).bind (fun r6 => (p_laws_toIntS x0).bind (fun r8 => (p_impl_MendLetters fu r8).bind (fun r10 => (if (((!(p_laws_eqIntS r10.1 r6.1)) || (!(decide (r10.2.1 = r6.2.1)))) || (r10.2.2 != r6.2.2)) = true then some false else (p_laws_toIntS x0).bind (fun r33 => (if (p_laws_eqIntS r8 r33) = true then (if ((((decide ((p_laws_markIntS r8 1).1 < 0)) || (!(p_laws_eqIntS r10.1 r6.1))) || (!(decide (r10.2.1 = r6.2.1)))) || (r10.2.2 != r6.2.2)) = true then some false else (if (p_laws_heldIntS ((p_laws_markIntS r10.1 1).2) 1) < 0 then some false else (if (p_laws_heldIntS ((p_laws_markIntS r10.1 1).2) 1) = (p_laws_markIntS r10.1 1).1 then (p_laws_toIntS x0).bind (fun r92 => (p_impl_MendLetters fu r92).bind (fun r94 => (if (((!(p_laws_eqIntS r94.1 r6.1)) || (!(decide (r94.2.1 = r6.2.1)))) || (r94.2.2 != r6.2.2)) = true then some false else (if (p_laws_heldIntS ((p_laws_markIntS r10.1 1).2) 1) < 0 then some false else (if (p_laws_heldIntS ((p_laws_markIntS r10.1 1).2) 1) = (p_laws_markIntS r10.1 1).1 then some true else some false))))) else some false))) else some false))))))))
end Go.GA
