/- Walks: what the Go functions compute, by the printed lines below. -/
import Derived.Test.YtkgfflnngmmniaaGa24
namespace Go.GA
open Go
set_option maxRecDepth 100000
set_option linter.unusedVariables false
/-- loop.example/g01210/laws.toIntA6 -/
def p_laws_toIntA6 (x0 : (List Int)) : (List Int) :=
  cnt (fun i2 (s1 : (List Int)) c3 _ => c3 (s1.set i2.toNat (x0.getD i2.toNat 0))) (fun i2 (s1 : (List Int)) => s1) (Int.toNat (6 - 0)) 0 (List.replicate 6 0)
/-- loop.example/g01210/laws.toIntS -/
def p_laws_toIntS (x0 : (List Int)) : Option ((List Int)) :=
  if (x0.length : Int) ≤ 1000000000 then cnt (fun i3 (s2 : (List Int)) c4 _ => c4 (s2.set i3.toNat (x0.getD i3.toNat 0))) (fun i3 (s2 : (List Int)) => some s2) (Int.toNat ((x0.length : Int) - 0)) 0 (List.replicate (x0.length : Int).toNat 0) else none
/-- loop.example/g01210/spec.l1In -/
def p_spec_l1In (x0 : Int) (x1 : Int) (x2 : Int) : Bool :=
  ((decide (x1 ≤ x0)) && (decide (x0 ≤ x2)))
/-- loop.example/g01210/spec.l2Die -/
def p_spec_l2Die (x0 : (List Int)) : Option (Bool) :=
  cnt (fun i2 (s1 : Unit) c3 _ => (if ((!(p_spec_l1In (x0.getD i2.toNat 0) 0 30)) || ((decide (0 < i2)) && (decide ((x0.getD i2.toNat 0) < (x0.getD (i2 - 1).toNat 0))))) = true then some false else c3 ())) (fun i2 (s1 : Unit) => some true) (Int.toNat (6 - 0)) 0 ()
/-- loop.example/g01210/spec.l11Rolls -/
def p_spec_l11Rolls (x0 : (List Int)) : Bool :=
  cnt (fun i2 (s1 : Unit) c3 k15 => (if ((decide (i2 < (x0.length : Int))) && (decide (i2 ≤ 12))) = true then (if (p_spec_l1In (x0.getD i2.toNat 0) 0 30) = true then c3 () else false) else k15 i2 s1)) (fun i2 (s1 : Unit) => (decide ((x0.length : Int) ≤ 12))) (Int.toNat ((x0.length : Int) - 0)) 0 ()
/-- loop.example/g01210/spec.l1Put -/
def p_spec_l1Put (x0 : (List Int)) (x1 : Int) : Option ((List Int)) :=
  cnt (fun i2 (s1 : Unit) c3 k42 => (if ((decide (i2 < (x0.length : Int))) && (decide ((x0.getD i2.toNat 0) < x1))) = true then c3 () else k42 i2 s1)) (fun i2 (s1 : Unit) => (if ((decide (i2 < (x0.length : Int))) && (decide ((x0.getD i2.toNat 0) = x1))) = true then some x0 else if 0 + (i2 - 0) ≤ 1000000000 then if (0 + (i2 - 0)) + 1 ≤ 1000000000 then if ((0 + (i2 - 0)) + 1) + ((x0.length : Int) - i2) ≤ 1000000000 then some ((([] ++ ((x0.drop 0).take (i2 - 0).toNat)) ++ [x1]) ++ ((x0.drop i2.toNat).take ((x0.length : Int) - i2).toNat)) else none else none else none)) (Int.toNat ((x0.length : Int) - 0)) 0 ()
/-- loop.example/g01210/spec.l8Numbers -/
def p_spec_l8Numbers (x0 : (List Int)) : Option ((List Int)) :=
  cnt (fun i2 (s1 : (List Int)) c3 _ => (p_spec_l1Put s1 (x0.getD i2.toNat 0)).bind (fun r8 => c3 r8)) (fun i2 (s1 : (List Int)) => some s1) (Int.toNat (6 - 0)) 0 []
/-- loop.example/g01210/spec.CountRolls -/
def p_spec_CountRolls (x0 : (List Int)) (x1 : (List Int)) : Option ((List Int) × Bool) :=
  (p_spec_l2Die x0).bind (fun r1 => (if ((!r1) || (!(p_spec_l11Rolls x1))) = true then some ([], false) else (p_spec_l8Numbers x0).bind (fun r8 => if (r8.length : Int) ≤ 1000000000 then cnt (fun i12 (s11 : (List Int)) c13 _ => cnt (fun i19 (s18 : Unit) c20 k49 => (if ((decide (i19 < (r8.length : Int))) && (!(decide ((r8.getD i19.toNat 0) = (x1.getD i12.toNat 0))))) = true then c20 () else k49 i19 s18)) (fun i19 (s18 : Unit) => (if i19 = (r8.length : Int) then some ([], false) else if i19 < (r8.length : Int) then c13 (s11.set i19.toNat (IntKind.wrap .i64 ((s11.getD i19.toNat 0) + 1))) else none)) (Int.toNat ((r8.length : Int) - 0)) 0 ()) (fun i12 (s11 : (List Int)) => some (s11, true)) (Int.toNat ((x1.length : Int) - 0)) 0 (List.replicate (r8.length : Int).toNat 0) else none)))
/-- loop.example/g01210/impl.within -/
def p_impl_within (x0 : Int) (x1 : Int) (x2 : Int) : Bool :=
  ((decide (x1 ≤ x0)) && (decide (x0 ≤ x2)))
/-- loop.example/g01210/impl.isFace -/
def p_impl_isFace (x0 : Int) : Bool :=
  (p_impl_within x0 0 30)
/-- loop.example/g01210/impl.areAll[int]$1 -/
def p_impl_areAll_int_1 (x0 : Int) : Bool :=
  (!(p_impl_isFace x0))
/-- slices.IndexFunc[[]int,int] -/
def p_slices_IndexFunc_int_int (x0 : (List Int)) : Int :=
  cnt (fun i2 (s1 : Unit) c3 _ => (if (p_impl_areAll_int_1 (x0.getD i2.toNat 0)) = true then i2 else c3 ())) (fun i2 (s1 : Unit) => (-1)) (Int.toNat ((x0.length : Int) - 0)) 0 ()
/-- slices.ContainsFunc[[]int,int] -/
def p_slices_ContainsFunc_int_int (x0 : (List Int)) : Bool :=
  (decide (0 ≤ (p_slices_IndexFunc_int_int x0)))
/-- loop.example/g01210/impl.areAll[int] -/
def p_impl_areAll_int (x0 : (List Int)) : Bool :=
  (!(p_slices_ContainsFunc_int_int x0))
/-- cmp.isNaN[int] -/
def p_cmp_isNaN_int (x0 : Int) : Bool :=
  (!(decide (x0 = x0)))
/-- cmp.Less[int] -/
def p_cmp_Less_int (x0 : Int) (x1 : Int) : Bool :=
  (((p_cmp_isNaN_int x0) && (!(p_cmp_isNaN_int x1))) || (decide (x0 < x1)))
/-- slices.IsSorted[[]int,int] -/
def p_slices_IsSorted_int_int (x0 : (List Int)) : Bool :=
  cntd (fun i2 (s1 : Unit) c3 _ => (if (p_cmp_Less_int (x0.getD i2.toNat 0) (x0.getD (i2 - 1).toNat 0)) = true then false else c3 ())) (fun i2 (s1 : Unit) => true) (Int.toNat (((x0.length : Int) - 1) - 0)) ((x0.length : Int) - 1) ()
/-- loop.example/g01210/impl.IsDie -/
def p_impl_IsDie (x0 : (List Int)) : Bool :=
  ((p_impl_areAll_int x0) && (p_slices_IsSorted_int_int x0))
/-- slices.Index[[]int,int] -/
def p_slices_Index_int_int (x0 : (List Int)) (x1 : Int) : Int :=
  cnt (fun i2 (s1 : Unit) c3 _ => (if x1 = (x0.getD i2.toNat 0) then i2 else c3 ())) (fun i2 (s1 : Unit) => (-1)) (Int.toNat ((x0.length : Int) - 0)) 0 ()
/-- slices.Contains[[]int,int] -/
def p_slices_Contains_int_int (x0 : (List Int)) (x1 : Int) : Bool :=
  (decide (0 ≤ (p_slices_Index_int_int x0 x1)))
/-- loop.example/g01210/impl.has -/
def p_impl_has (x0 : (List Int)) (x1 : Int) : Bool :=
  (p_slices_Contains_int_int x0 x1)
/-- loop.example/g01210/impl.CountRolls$1 -/
def p_impl_CountRolls_1 (x0 : Int) (x1 : (List Int)) : Bool :=
  (p_impl_has x1 x0)
/-- loop.example/g01210/impl.areAll[int]$1 -/
def p_impl_areAll_int_1v1 (x0 : Int) (x1 : (List Int)) : Bool :=
  (!(p_impl_CountRolls_1 x0 x1))
/-- slices.IndexFunc[[]int,int] -/
def p_slices_IndexFunc_int_intv1 (x0 : (List Int)) (x1 : (List Int)) : Int :=
  cnt (fun i2 (s1 : Unit) c3 _ => (if (p_impl_areAll_int_1v1 (x0.getD i2.toNat 0) x1) = true then i2 else c3 ())) (fun i2 (s1 : Unit) => (-1)) (Int.toNat ((x0.length : Int) - 0)) 0 ()
/-- slices.ContainsFunc[[]int,int] -/
def p_slices_ContainsFunc_int_intv1 (x0 : (List Int)) (x1 : (List Int)) : Bool :=
  (decide (0 ≤ (p_slices_IndexFunc_int_intv1 x0 x1)))
/-- loop.example/g01210/impl.areAll[int] -/
def p_impl_areAll_intv1 (x0 : (List Int)) (x1 : (List Int)) : Bool :=
  (!(p_slices_ContainsFunc_int_intv1 x0 x1))
/-- slices.Clone[[]int,int] -/
def p_slices_Clone_int_int (x0 : (List Int)) : Option ((List Int)) :=
  if 0 + (x0.length : Int) ≤ 1000000000 then some ([] ++ x0) else none
/-- slices.Compact[[]int,int] -/
def p_slices_Compact_int_int (x0 : (List Int)) : Option ((List Int)) :=
  (if (x0.length : Int) < 2 then some x0 else cnt (fun i5 (s4 : Unit) c6 _ => (if (x0.getD i5.toNat 0) = (x0.getD (i5 - 1).toNat 0) then cnt (fun i15 (s14 : Int × (List Int)) c16 _ => (if (s14.2.getD (i5.toNat + i15.toNat) 0) = (s14.2.getD (i5.toNat + (i15 - 1).toNat) 0) then c16 (s14.1, s14.2) else if s14.1 < (x0.length : Int) then c16 ((s14.1 + 1), (s14.2.set s14.1.toNat (s14.2.getD (i5.toNat + i15.toNat) 0))) else none)) (fun i15 (s14 : Int × (List Int)) => if s14.1 ≤ (x0.length : Int) then some ((s14.2.take s14.1.toNat ++ (List.replicate ((s14.2.length : Int) - s14.1).toNat 0 ++ s14.2.drop (s14.1.toNat + ((s14.2.length : Int) - s14.1).toNat))).take s14.1.toNat) else none) (Int.toNat (((((x0.length : Int) - i5).toNat : Nat) : Int) - 1)) 1 (i5, x0) else c6 ())) (fun i5 (s4 : Unit) => some x0) (Int.toNat ((x0.length : Int) - 1)) 1 ())
/-- loop.example/g01210/impl.numbers -/
def p_impl_numbers (x0 : (List Int)) : Option ((List Int)) :=
  (p_slices_Clone_int_int x0).bind (fun r1 => (p_slices_Compact_int_int r1).bind (fun r3 => some r3))
/-- loop.example/g01210/impl.CountRolls -/
def p_impl_CountRolls (x0 : (List Int)) (x1 : (List Int)) : Option ((List Int) × Bool) :=
  (if (((!(p_impl_IsDie x0)) || (decide (12 < (x1.length : Int)))) || (!(p_impl_areAll_intv1 x1 x0))) = true then some ([], false) else (p_impl_numbers x0).bind (fun r26 => if (r26.length : Int) ≤ 1000000000 then cnt (fun i30 (s29 : (List Int)) c31 _ => if 0 ≤ (p_slices_Index_int_int r26 (x1.getD i30.toNat 0)) then if (p_slices_Index_int_int r26 (x1.getD i30.toNat 0)) < (r26.length : Int) then c31 (s29.set (p_slices_Index_int_int r26 (x1.getD i30.toNat 0)).toNat (IntKind.wrap .i64 ((s29.getD (p_slices_Index_int_int r26 (x1.getD i30.toNat 0)).toNat 0) + 1))) else none else none) (fun i30 (s29 : (List Int)) => some (s29, true)) (Int.toNat ((x1.length : Int) - 0)) 0 (List.replicate (r26.length : Int).toNat 0) else none))
/-- loop.example/g01210/laws.eqIntS -/
def p_laws_eqIntS (x0 : (List Int)) (x1 : (List Int)) : Bool :=
  (if (x0.length : Int) = (x1.length : Int) then cnt (fun i5 (s4 : Unit) c6 _ => (if (x0.getD i5.toNat 0) = (x1.getD i5.toNat 0) then c6 () else false)) (fun i5 (s4 : Unit) => true) (Int.toNat ((x0.length : Int) - 0)) 0 () else false)
/-- loop.example/g01210/laws.markIntS -/
def p_laws_markIntS (x0 : (List Int)) (x1 : Int) : Int × (List Int) :=
  cnt (fun i2 (s1 : Int × (List Int)) c3 _ => c3 ((IntKind.wrap .i64 (s1.1 + 1)), (s1.2.set i2.toNat s1.1))) (fun i2 (s1 : Int × (List Int)) => (s1.1, s1.2)) (Int.toNat ((x0.length : Int) - 0)) 0 (x1, x0)
/-- loop.example/g01210/laws.heldIntS -/
def p_laws_heldIntS (x0 : (List Int)) (x1 : Int) : Int :=
  cnt (fun i2 (s1 : Int) c3 _ => (if (x0.getD i2.toNat 0) = s1 then c3 (IntKind.wrap .i64 (s1 + 1)) else (-1))) (fun i2 (s1 : Int) => s1) (Int.toNat ((x0.length : Int) - 0)) 0 x1
/-- loop.example/g01210/laws.FnExactCountRolls -/
def p_laws_FnExactCountRolls (x0 : (List Int)) (x1 : (List Int)) : Option (Bool) :=
  (if 1048576 < (x1.length : Int) then some true else (p_laws_toIntS x1).bind (fun r4 => (p_spec_CountRolls (p_laws_toIntA6 x0) r4).bind (fun r6 => (p_laws_toIntS x1).bind (fun r8 => (p_impl_CountRolls (p_laws_toIntA6 x0) r8).bind (fun r10 => (if ((!(p_laws_eqIntS r10.1 r6.1)) || (r10.2 != r6.2)) = true then some false else (p_laws_toIntS x1).bind (fun r18 => (if (p_laws_eqIntS r8 r18) = true then (if (((decide ((p_laws_markIntS r8 1).1 < 0)) || (!(p_laws_eqIntS r10.1 r6.1))) || (r10.2 != r6.2)) = true then some false else (if (p_laws_heldIntS ((p_laws_markIntS r10.1 1).2) 1) < 0 then some false else (if (p_laws_heldIntS ((p_laws_markIntS r10.1 1).2) 1) = (p_laws_markIntS r10.1 1).1 then (p_laws_toIntS x1).bind (fun r53 => (p_impl_CountRolls (p_laws_toIntA6 x0) r53).bind (fun r55 => (if ((!(p_laws_eqIntS r55.1 r6.1)) || (r55.2 != r6.2)) = true then some false else (if (p_laws_heldIntS ((p_laws_markIntS r10.1 1).2) 1) < 0 then some false else (if (p_laws_heldIntS ((p_laws_markIntS r10.1 1).2) 1) = (p_laws_markIntS r10.1 1).1 then some true else some false))))) else some false))) else some false))))))))
/-- loop.example/g01210/spec.l11Counts -/
def p_spec_l11Counts (x0 : (List Int)) (x1 : (List Int)) : Option (Bool) :=
  (p_spec_l2Die x0).bind (fun r1 => (if r1 = true then (p_spec_l8Numbers x0).bind (fun r3 => (if (x1.length : Int) = (r3.length : Int) then cnt (fun i9 (s8 : Int) c10 _ => (if (p_spec_l1In (x1.getD i9.toNat 0) 0 12) = true then c10 (IntKind.wrap .i64 (s8 + (x1.getD i9.toNat 0))) else some false)) (fun i9 (s8 : Int) => some (decide (s8 ≤ 12))) (Int.toNat ((x1.length : Int) - 0)) 0 0 else some false)) else some false))
/-- loop.example/g01210/spec.l8Weight -/
def p_spec_l8Weight (x0 : (List Int)) (x1 : Int) : Int :=
  cnt (fun i2 (s1 : Int) c3 _ => (if (x0.getD i2.toNat 0) = x1 then c3 (IntKind.wrap .i64 (s1 + 1)) else c3 s1)) (fun i2 (s1 : Int) => s1) (Int.toNat (6 - 0)) 0 0
/-- loop.example/g01210/spec.l8Power -/
def p_spec_l8Power (fu : Nat) (x0 : Int) (x1 : Int) : Option (Int) :=
  whl (fun (s1 : Int × Int) c3 => (if s1.2 < x1 then c3 ((IntKind.wrap .i64 (s1.1 * x0)), (IntKind.wrap .i64 (s1.2 + 1))) else some s1.1)) fu (1, 0)
/-- loop.example/g01210/spec.l11Ways -/
def p_spec_l11Ways (fu : Nat) (x0 : (List Int)) (x1 : (List Int)) : Option (Int) :=
  (p_spec_l8Numbers x0).bind (fun r1 => cnt (fun i4 (s3 : Int) c5 _ => if i4 < (r1.length : Int) then (p_spec_l8Power fu (p_spec_l8Weight x0 (r1.getD i4.toNat 0)) (x1.getD i4.toNat 0)).bind (fun r11 => c5 (IntKind.wrap .i64 (s3 * r11))) else none) (fun i4 (s3 : Int) => some s3) (Int.toNat ((x1.length : Int) - 0)) 0 1)
/-- loop.example/g01210/spec.l11Sum -/
def p_spec_l11Sum (x0 : (List Int)) : Int :=
  cnt (fun i2 (s1 : Int) c3 _ => c3 (IntKind.wrap .i64 (s1 + (x0.getD i2.toNat 0)))) (fun i2 (s1 : Int) => s1) (Int.toNat ((x0.length : Int) - 0)) 0 0
/-- loop.example/g01210/spec.l2All -/
def p_spec_l2All (fu : Nat) (x0 : Int) : Option (Int) :=
  whl (fun (s1 : Int × Int) c3 => (if s1.2 < x0 then c3 ((IntKind.wrap .i64 (s1.1 * 6)), (IntKind.wrap .i64 (s1.2 + 1))) else some s1.1)) fu (1, 0)
/-- loop.example/g01210/spec.l1Most -/
def p_spec_l1Most (x0 : Int) (x1 : Int) : Int :=
  (if x1 < x0 then x0 else x1)
/-- loop.example/g01210/spec.l2Cut -/
def p_spec_l2Cut (fu : Nat) (x0 : Int) (x1 : Int) : Option ((List Int)) :=
  whl (fun (s1 : Int × Int) c3 => (if 0 < s1.2 then c3 (s1.2, (s1.1.tmod s1.2)) else if (p_spec_l1Most s1.1 1) ≠ 0 then if (p_spec_l1Most s1.1 1) ≠ 0 then some [(IntKind.wrap .i64 (x0.tdiv (p_spec_l1Most s1.1 1))), (IntKind.wrap .i64 (x1.tdiv (p_spec_l1Most s1.1 1)))] else none else none)) fu (x0, x1)
/-- loop.example/g01210/spec.LikelihoodOf -/
def p_spec_LikelihoodOf (fu : Nat) (x0 : (List Int)) (x1 : (List Int)) : Option ((List Int) × Bool) :=
  (p_spec_l11Counts x0 x1).bind (fun r1 => (if r1 = true then (p_spec_l11Ways fu x0 x1).bind (fun r3 => (p_spec_l2All fu (p_spec_l11Sum x1)).bind (fun r4 => (p_spec_l2Cut fu r3 r4).bind (fun r5 => some (r5, true)))) else some ((List.replicate 2 0), false)))
/-- loop.example/g01210/impl.areCounts$1 -/
def p_impl_areCounts_1 (x0 : Int) : Bool :=
  (p_impl_within x0 0 12)
/-- loop.example/g01210/impl.areAll[int]$1 -/
def p_impl_areAll_int_1v2 (x0 : Int) : Bool :=
  (!(p_impl_areCounts_1 x0))
/-- slices.IndexFunc[[]int,int] -/
def p_slices_IndexFunc_int_intv2 (x0 : (List Int)) : Int :=
  cnt (fun i2 (s1 : Unit) c3 _ => (if (p_impl_areAll_int_1v2 (x0.getD i2.toNat 0)) = true then i2 else c3 ())) (fun i2 (s1 : Unit) => (-1)) (Int.toNat ((x0.length : Int) - 0)) 0 ()
/-- slices.ContainsFunc[[]int,int] -/
def p_slices_ContainsFunc_int_intv2 (x0 : (List Int)) : Bool :=
  (decide (0 ≤ (p_slices_IndexFunc_int_intv2 x0)))
/-- loop.example/g01210/impl.areAll[int] -/
def p_impl_areAll_intv2 (x0 : (List Int)) : Bool :=
  (!(p_slices_ContainsFunc_int_intv2 x0))
/-- loop.example/g01210/impl.total -/
def p_impl_total (x0 : (List Int)) : Int :=
  cnt (fun i2 (s1 : Int) c3 _ => c3 (IntKind.wrap .i64 (s1 + (x0.getD i2.toNat 0)))) (fun i2 (s1 : Int) => s1) (Int.toNat ((x0.length : Int) - 0)) 0 0
/-- loop.example/g01210/impl.areCounts -/
def p_impl_areCounts (x0 : (List Int)) (x1 : (List Int)) : Option (Bool) :=
  (if (p_impl_IsDie x0) = true then (p_impl_numbers x0).bind (fun r2 => (if (x1.length : Int) = (r2.length : Int) then (if (p_impl_areAll_intv2 x1) = true then some (decide ((p_impl_total x1) ≤ 12)) else some false) else some false)) else some false)
/-- loop.example/g01210/impl.truth -/
def p_impl_truth (x0 : Bool) : Int :=
  (if x0 = true then 1 else 0)
/-- loop.example/g01210/impl.weight -/
def p_impl_weight (x0 : (List Int)) (x1 : Int) : Int :=
  cnt (fun i2 (s1 : Int) c3 _ => c3 (IntKind.wrap .i64 (s1 + (p_impl_truth (decide ((x0.getD i2.toNat 0) = x1)))))) (fun i2 (s1 : Int) => s1) (Int.toNat (6 - 0)) 0 0
/-- loop.example/g01210/impl.raised -/
def p_impl_raised (fu : Nat) (x0 : Int) (x1 : Int) : Option (Int) :=
  whl (fun (s1 : Int × Int) c3 => (if s1.2 < x1 then c3 ((IntKind.wrap .i64 (s1.1 * x0)), (IntKind.wrap .i64 (s1.2 + 1))) else some s1.1)) fu (1, 0)
/-- loop.example/g01210/impl.likelihood -/
def p_impl_likelihood (fu : Nat) (x0 : (List Int)) (x1 : (List Int)) : Option (Int) :=
  (p_impl_numbers x0).bind (fun r1 => cnt (fun i4 (s3 : Int) c5 _ => if i4 < (x1.length : Int) then (p_impl_raised fu (p_impl_weight x0 (r1.getD i4.toNat 0)) (x1.getD i4.toNat 0)).bind (fun r11 => c5 (IntKind.wrap .i64 (s3 * r11))) else none) (fun i4 (s3 : Int) => some s3) (Int.toNat ((r1.length : Int) - 0)) 0 1)
/-- loop.example/g01210/impl.power -/
def p_impl_power (fu : Nat) (x0 : Int) : Option (Int) :=
  whl (fun (s1 : Int × Int) c3 => (if s1.2 < x0 then c3 ((IntKind.wrap .i64 (s1.1 * 6)), (IntKind.wrap .i64 (s1.2 + 1))) else some s1.1)) fu (1, 0)
/-- loop.example/g01210/impl.fraction -/
def p_impl_fraction (fu : Nat) (x0 : Int) (x1 : Int) : Option ((List Int)) :=
  whl (fun (s1 : Int × Int) c3 => (if s1.2 = 0 then if s1.1 ≠ 0 then if s1.1 ≠ 0 then some [(IntKind.wrap .i64 (x0.tdiv s1.1)), (IntKind.wrap .i64 (x1.tdiv s1.1))] else none else none else if s1.2 ≠ 0 then c3 (s1.2, (s1.1.tmod s1.2)) else none)) fu (x0, x1)
/-- loop.example/g01210/impl.LikelihoodOf -/
def p_impl_LikelihoodOf (fu : Nat) (x0 : (List Int)) (x1 : (List Int)) : Option ((List Int) × Bool) :=
  (p_impl_areCounts x0 x1).bind (fun r1 => (if r1 = true then (p_impl_likelihood fu x0 x1).bind (fun r3 => (p_impl_power fu (p_impl_total x1)).bind (fun r4 => (p_impl_fraction fu r3 r4).bind (fun r5 => some (r5, true)))) else some ((List.replicate 2 0), false)))
/-- loop.example/g01210/laws.eqIntA2 -/
def p_laws_eqIntA2 (x0 : (List Int)) (x1 : (List Int)) : Bool :=
  cnt (fun i2 (s1 : Unit) c3 _ => (if (x0.getD i2.toNat 0) = (x1.getD i2.toNat 0) then c3 () else false)) (fun i2 (s1 : Unit) => true) (Int.toNat (2 - 0)) 0 ()
/-- loop.example/g01210/laws.FnExactLikelihoodOf -/
def p_laws_FnExactLikelihoodOf (fu : Nat) (x0 : (List Int)) (x1 : (List Int)) : Option (Bool) :=
  (if 1048576 < (x1.length : Int) then some true else (p_laws_toIntS x1).bind (fun r4 => (p_spec_LikelihoodOf fu (p_laws_toIntA6 x0) r4).bind (fun r6 => (p_laws_toIntS x1).bind (fun r7 => (p_impl_LikelihoodOf fu (p_laws_toIntA6 x0) r7).bind (fun r9 => (if ((!(p_laws_eqIntA2 r9.1 r6.1)) || (r9.2 != r6.2)) = true then some false else (p_laws_toIntS x1).bind (fun r16 => (if (p_laws_eqIntS r7 r16) = true then some true else some false))))))))
/-- loop.example/g01210/spec.l11Orders -/
def p_spec_l11Orders (fu : Nat) (x0 : (List Int)) : Option (Int) :=
  cnt (fun i2 (s1 : Int × Int) c3 _ => whl (fun (s8 : Int × Int × Int) c10 => (if s8.2.2 ≤ (x0.getD i2.toNat 0) then if s8.2.2 ≠ 0 then c10 ((IntKind.wrap .i64 ((IntKind.wrap .i64 (s8.1 * (IntKind.wrap .i64 (s8.2.1 + 1)))).tdiv s8.2.2)), (IntKind.wrap .i64 (s8.2.1 + 1)), (IntKind.wrap .i64 (s8.2.2 + 1))) else none else c3 (s8.1, s8.2.1))) fu (s1.1, s1.2, 1)) (fun i2 (s1 : Int × Int) => some s1.1) (Int.toNat ((x0.length : Int) - 0)) 0 (1, 0)
/-- loop.example/g01210/spec.l11Chance -/
def p_spec_l11Chance (fu : Nat) (x0 : (List Int)) (x1 : (List Int)) : Option (Int) :=
  (p_spec_l11Ways fu x0 x1).bind (fun r1 => (p_spec_l11Orders fu x1).bind (fun r2 => some (IntKind.wrap .i64 (r1 * r2))))
/-- loop.example/g01210/spec.ChanceOfCounts -/
def p_spec_ChanceOfCounts (fu : Nat) (x0 : (List Int)) (x1 : (List Int)) : Option ((List Int) × Bool) :=
  (p_spec_l11Counts x0 x1).bind (fun r1 => (if r1 = true then (p_spec_l11Chance fu x0 x1).bind (fun r3 => (p_spec_l2All fu (p_spec_l11Sum x1)).bind (fun r4 => (p_spec_l2Cut fu r3 r4).bind (fun r5 => some (r5, true)))) else some ((List.replicate 2 0), false)))
/-- loop.example/g01210/impl.arrangements -/
def p_impl_arrangements (fu : Nat) (x0 : (List Int)) : Option (Int) :=
  cnt (fun i2 (s1 : Int × Int) c3 _ => whl (fun (s8 : Int × Int × Int) c10 => (if s8.2.2 ≤ (x0.getD i2.toNat 0) then if s8.2.2 ≠ 0 then c10 ((IntKind.wrap .i64 ((IntKind.wrap .i64 (s8.1 * (IntKind.wrap .i64 (s8.2.1 + 1)))).tdiv s8.2.2)), (IntKind.wrap .i64 (s8.2.1 + 1)), (IntKind.wrap .i64 (s8.2.2 + 1))) else none else c3 (s8.1, s8.2.1))) fu (s1.1, s1.2, 1)) (fun i2 (s1 : Int × Int) => some s1.1) (Int.toNat ((x0.length : Int) - 0)) 0 (1, 0)
/-- loop.example/g01210/impl.chance -/
def p_impl_chance (fu : Nat) (x0 : (List Int)) (x1 : (List Int)) : Option (Int) :=
  (p_impl_arrangements fu x1).bind (fun r1 => (p_impl_likelihood fu x0 x1).bind (fun r2 => some (IntKind.wrap .i64 (r1 * r2))))
/-- loop.example/g01210/impl.ChanceOfCounts -/
def p_impl_ChanceOfCounts (fu : Nat) (x0 : (List Int)) (x1 : (List Int)) : Option ((List Int) × Bool) :=
  (p_impl_areCounts x0 x1).bind (fun r1 => (if r1 = true then (p_impl_chance fu x0 x1).bind (fun r3 => (p_impl_power fu (p_impl_total x1)).bind (fun r4 => (p_impl_fraction fu r3 r4).bind (fun r5 => some (r5, true)))) else some ((List.replicate 2 0), false)))
/-- loop.example/g01210/laws.FnExactChanceOfCounts -/
def p_laws_FnExactChanceOfCounts (fu : Nat) (x0 : (List Int)) (x1 : (List Int)) : Option (Bool) :=
  (if 1048576 < (x1.length : Int) then some true else (p_laws_toIntS x1).bind (fun r4 => (p_spec_ChanceOfCounts fu (p_laws_toIntA6 x0) r4).bind (fun r6 => (p_laws_toIntS x1).bind (fun r7 => (p_impl_ChanceOfCounts fu (p_laws_toIntA6 x0) r7).bind (fun r9 => (if ((!(p_laws_eqIntA2 r9.1 r6.1)) || (r9.2 != r6.2)) = true then some false else (p_laws_toIntS x1).bind (fun r16 => (if (p_laws_eqIntS r7 r16) = true then some true else some false))))))))
/-- loop.example/g01210/spec.l2Plus -/
def p_spec_l2Plus (fu : Nat) (x0 : (List Int)) (x1 : (List Int)) : Option ((List Int)) :=
  (p_spec_l2Cut fu (IntKind.wrap .i64 ((IntKind.wrap .i64 ((x0.getD 0 0) * (x1.getD 1 0))) + (IntKind.wrap .i64 ((x1.getD 0 0) * (x0.getD 1 0))))) (IntKind.wrap .i64 ((x0.getD 1 0) * (x1.getD 1 0)))).bind (fun r1 => some r1)
/-- loop.example/g01210/spec.l11Distance -/
def p_spec_l11Distance (fu : Nat) (x0 : (List Int)) (x1 : (List Int)) : Option ((List Int)) :=
  (p_spec_l8Numbers x0).bind (fun r1 => cnt (fun i4 (s3 : (List Int)) c5 k19 => (if ((decide (i4 < (x1.length : Int))) && (decide (0 < (p_spec_l11Sum x1)))) = true then if i4 < (r1.length : Int) then (p_spec_l2Cut fu (IntKind.wrap .i64 ((IntKind.wrap .i64 ((IntKind.wrap .i64 (6 * (x1.getD i4.toNat 0))) - (IntKind.wrap .i64 ((p_spec_l11Sum x1) * (p_spec_l8Weight x0 (r1.getD i4.toNat 0)))))) * (IntKind.wrap .i64 ((IntKind.wrap .i64 (6 * (x1.getD i4.toNat 0))) - (IntKind.wrap .i64 ((p_spec_l11Sum x1) * (p_spec_l8Weight x0 (r1.getD i4.toNat 0)))))))) (IntKind.wrap .i64 ((IntKind.wrap .i64 (6 * (p_spec_l11Sum x1))) * (p_spec_l8Weight x0 (r1.getD i4.toNat 0))))).bind (fun r17 => (p_spec_l2Plus fu s3 r17).bind (fun r18 => c5 r18)) else none else k19 i4 s3)) (fun i4 (s3 : (List Int)) => some s3) (Int.toNat ((x1.length : Int) - 0)) 0 [0, 1])
/-- loop.example/g01210/spec.DistanceOf -/
def p_spec_DistanceOf (fu : Nat) (x0 : (List Int)) (x1 : (List Int)) : Option ((List Int) × Bool) :=
  (p_spec_l11Counts x0 x1).bind (fun r1 => (if r1 = true then (p_spec_l11Distance fu x0 x1).bind (fun r3 => some (r3, true)) else some ((List.replicate 2 0), false)))
/-- loop.example/g01210/impl.distance -/
def p_impl_distance (x0 : (List Int)) (x1 : (List Int)) : Option (Int) :=
  (p_impl_numbers x0).bind (fun r1 => cnt (fun i4 (s3 : Int) c5 _ => if i4 < (x1.length : Int) then if (p_impl_weight x0 (r1.getD i4.toNat 0)) ≠ 0 then c5 (IntKind.wrap .i64 (s3 + (IntKind.wrap .i64 ((IntKind.wrap .i64 ((IntKind.wrap .i64 ((IntKind.wrap .i64 (6 * (x1.getD i4.toNat 0))) - (IntKind.wrap .i64 ((p_impl_total x1) * (p_impl_weight x0 (r1.getD i4.toNat 0)))))) * (IntKind.wrap .i64 ((IntKind.wrap .i64 (6 * (x1.getD i4.toNat 0))) - (IntKind.wrap .i64 ((p_impl_total x1) * (p_impl_weight x0 (r1.getD i4.toNat 0)))))))) * (IntKind.wrap .i64 ((60 : Int).tdiv (p_impl_weight x0 (r1.getD i4.toNat 0)))))))) else none else none) (fun i4 (s3 : Int) => some s3) (Int.toNat ((r1.length : Int) - 0)) 0 0)
/-- loop.example/g01210/impl.DistanceOf -/
def p_impl_DistanceOf (fu : Nat) (x0 : (List Int)) (x1 : (List Int)) : Option ((List Int) × Bool) :=
  (p_impl_areCounts x0 x1).bind (fun r1 => (if r1 = true then (p_impl_distance x0 x1).bind (fun r3 => (p_impl_fraction fu r3 (IntKind.wrap .i64 (360 * (if 1 > (p_impl_total x1) then 1 else (p_impl_total x1))))).bind (fun r4 => some (r4, true))) else some ((List.replicate 2 0), false)))
/-- loop.example/g01210/laws.FnExactDistanceOf -/
def p_laws_FnExactDistanceOf (fu : Nat) (x0 : (List Int)) (x1 : (List Int)) : Option (Bool) :=
  (if 1048576 < (x1.length : Int) then some true else (p_laws_toIntS x1).bind (fun r4 => (p_spec_DistanceOf fu (p_laws_toIntA6 x0) r4).bind (fun r6 => (p_laws_toIntS x1).bind (fun r7 => (p_impl_DistanceOf fu (p_laws_toIntA6 x0) r7).bind (fun r9 => (if ((!(p_laws_eqIntA2 r9.1 r6.1)) || (r9.2 != r6.2)) = true then some false else (p_laws_toIntS x1).bind (fun r16 => (if (p_laws_eqIntS r7 r16) = true then some true else some false))))))))
/-- loop.example/g01210/spec.l11Tested -/
def p_spec_l11Tested (x0 : (List Int)) (x1 : Int) : Option (Bool) :=
  (p_spec_l2Die x0).bind (fun r1 => some (r1 && (p_spec_l1In x1 0 8)))
/-- loop.example/g01210/spec.l11Vectors -/
def p_spec_l11Vectors : Nat → Int → Int → Option ((List (List Int)))
  | 0, _, _ => none
  | fu + 1, x0, x1 => (if x0 = 1 then some [[x1]] else whl (fun (s4 : Int × (List (List Int))) c6 => (if s4.1 ≤ x1 then (p_spec_l11Vectors fu (IntKind.wrap .i64 (x0 - 1)) (IntKind.wrap .i64 (x1 - s4.1))).bind (fun r11 => cnt (fun i14 (s13 : (List (List Int))) c15 _ => if 1 + ((r11.getD i14.toNat []).length : Int) ≤ 1000000000 then if (s13.length : Int) + 1 ≤ 1000000000 then c15 (s13 ++ [([s4.1] ++ (r11.getD i14.toNat []))]) else none else none) (fun i14 (s13 : (List (List Int))) => c6 ((IntKind.wrap .i64 (s4.1 + 1)), s13)) (Int.toNat ((r11.length : Int) - 0)) 0 s4.2) else some s4.2)) fu (0, []))
/-- loop.example/g01210/spec.ChanceMissing -/
def p_spec_ChanceMissing (fu : Nat) (x0 : (List Int)) (x1 : Int) (x2 : Int) : Option ((List Int) × Bool) :=
  (p_spec_l11Tested x0 x1).bind (fun r1 => (if ((!r1) || (!(p_spec_l1In x2 0 6))) = true then some ((List.replicate 2 0), false) else (p_spec_l8Numbers x0).bind (fun r8 => (p_spec_l11Vectors fu (r8.length : Int) x1).bind (fun r10 => cnt (fun i13 (s12 : Int) c14 _ => whl (fun (s19 : Int × Int) c21 => (if s19.2 < ((r10.getD i13.toNat []).length : Int) then if 0 ≤ s19.2 then (if ((r10.getD i13.toNat []).getD s19.2.toNat 0) = 0 then c21 ((IntKind.wrap .i64 (s19.1 + 1)), (IntKind.wrap .i64 (s19.2 + 1))) else c21 (s19.1, (IntKind.wrap .i64 (s19.2 + 1)))) else none else (if s19.1 = x2 then (p_spec_l11Chance fu x0 (r10.getD i13.toNat [])).bind (fun r33 => c14 (IntKind.wrap .i64 (s12 + r33))) else c14 s12))) fu (0, 0)) (fun i13 (s12 : Int) => (p_spec_l2All fu x1).bind (fun r34 => (p_spec_l2Cut fu s12 r34).bind (fun r35 => some (r35, true)))) (Int.toNat ((r10.length : Int) - 0)) 0 0))))
/-- loop.example/g01210/impl.isTested -/
def p_impl_isTested (x0 : Int) : Bool :=
  (p_impl_within x0 0 8)
/-- loop.example/g01210/impl.vectors -/
def p_impl_vectors : Nat → Int → Int → Option ((List (List Int)))
  | 0, _, _ => none
  | fu + 1, x0, x1 => (if x0 = 1 then some [[x1]] else whl (fun (s4 : Int × (List (List Int))) c6 => (if s4.1 < (IntKind.wrap .i64 (x1 + 1)) then (p_impl_vectors fu (IntKind.wrap .i64 (x0 - 1)) (IntKind.wrap .i64 (x1 - s4.1))).bind (fun r11 => cnt (fun i14 (s13 : (List (List Int))) c15 _ => if 1 + ((r11.getD i14.toNat []).length : Int) ≤ 1000000000 then if (s13.length : Int) + 1 ≤ 1000000000 then c15 (s13 ++ [([s4.1] ++ (r11.getD i14.toNat []))]) else none else none) (fun i14 (s13 : (List (List Int))) => c6 ((IntKind.wrap .i64 (s4.1 + 1)), s13)) (Int.toNat ((r11.length : Int) - 0)) 0 s4.2) else some s4.2)) fu (0, []))
/-- loop.example/g01210/impl.ChanceMissing$1 -/
def p_impl_ChanceMissing_1 (x0 : (List Int)) (x1 : Int) : Bool :=
  cnt (fun i2 (s1 : Int) c3 _ => c3 (IntKind.wrap .i64 (s1 + (p_impl_truth (decide ((x0.getD i2.toNat 0) = 0)))))) (fun i2 (s1 : Int) => (decide (s1 = x1))) (Int.toNat ((x0.length : Int) - 0)) 0 0
/-- loop.example/g01210/impl.chanceOf -/
def p_impl_chanceOf (fu : Nat) (x0 : (List Int)) (x1 : Int) (x2 : Int) : Option ((List Int)) :=
  (p_impl_numbers x0).bind (fun r1 => (p_impl_vectors fu (r1.length : Int) x1).bind (fun r3 => cnt (fun i6 (s5 : Int) c7 _ => (if (p_impl_ChanceMissing_1 (r3.getD i6.toNat []) x2) = true then (p_impl_chance fu x0 (r3.getD i6.toNat [])).bind (fun r13 => c7 (IntKind.wrap .i64 (s5 + r13))) else c7 s5)) (fun i6 (s5 : Int) => (p_impl_power fu x1).bind (fun r14 => (p_impl_fraction fu s5 r14).bind (fun r15 => some r15))) (Int.toNat ((r3.length : Int) - 0)) 0 0))
/-- loop.example/g01210/impl.ChanceMissing -/
def p_impl_ChanceMissing (fu : Nat) (x0 : (List Int)) (x1 : Int) (x2 : Int) : Option ((List Int) × Bool) :=
  (if (((!(p_impl_IsDie x0)) || (!(p_impl_isTested x1))) || (!(p_impl_within x2 0 6))) = true then some ((List.replicate 2 0), false) else (p_impl_chanceOf fu x0 x1 x2).bind (fun r18 => some (r18, true)))
/-- loop.example/g01210/laws.FnExactChanceMissing -/
def p_laws_FnExactChanceMissing (fu : Nat) (x0 : (List Int)) (x1 : Int) (x2 : Int) : Option (Bool) :=
  (p_spec_ChanceMissing fu (p_laws_toIntA6 x0) x1 x2).bind (fun r1 => (p_impl_ChanceMissing fu (p_laws_toIntA6 x0) x1 x2).bind (fun r2 => (if ((!(p_laws_eqIntA2 r2.1 r1.1)) || (r2.2 != r1.2)) = true then some false else some true)))
/-- loop.example/g01210/spec.ChanceAsRare -/
def p_spec_ChanceAsRare (fu : Nat) (x0 : (List Int)) (x1 : (List Int)) : Option ((List Int) × Bool) :=
  (p_spec_l11Counts x0 x1).bind (fun r1 => (if ((!r1) || (decide (8 < (p_spec_l11Sum x1)))) = true then some ((List.replicate 2 0), false) else (p_spec_l11Chance fu x0 x1).bind (fun r9 => (p_spec_l11Vectors fu (x1.length : Int) (p_spec_l11Sum x1)).bind (fun r10 => cnt (fun i13 (s12 : Int) c14 _ => (p_spec_l11Chance fu x0 (r10.getD i13.toNat [])).bind (fun r19 => (if r19 ≤ r9 then c14 (IntKind.wrap .i64 (s12 + r19)) else c14 s12))) (fun i13 (s12 : Int) => (p_spec_l2All fu (p_spec_l11Sum x1)).bind (fun r23 => (p_spec_l2Cut fu s12 r23).bind (fun r24 => some (r24, true)))) (Int.toNat ((r10.length : Int) - 0)) 0 0))))
/-- loop.example/g01210/impl.ChanceAsRare$1 -/
def p_impl_ChanceAsRare_1 (fu : Nat) (x0 : (List Int)) (x1 : (List Int)) (x2 : Int) : Option (Bool) :=
  (p_impl_chance fu x1 x0).bind (fun r1 => some (decide (r1 ≤ x2)))
/-- loop.example/g01210/impl.chanceOf -/
def p_impl_chanceOfv1 (fu : Nat) (x0 : (List Int)) (x1 : Int) (x2 : (List Int)) (x3 : Int) : Option ((List Int)) :=
  (p_impl_numbers x0).bind (fun r1 => (p_impl_vectors fu (r1.length : Int) x1).bind (fun r3 => cnt (fun i6 (s5 : Int) c7 _ => (p_impl_ChanceAsRare_1 fu (r3.getD i6.toNat []) x2 x3).bind (fun r12 => (if r12 = true then (p_impl_chance fu x0 (r3.getD i6.toNat [])).bind (fun r14 => c7 (IntKind.wrap .i64 (s5 + r14))) else c7 s5))) (fun i6 (s5 : Int) => (p_impl_power fu x1).bind (fun r15 => (p_impl_fraction fu s5 r15).bind (fun r16 => some r16))) (Int.toNat ((r3.length : Int) - 0)) 0 0))
/-- loop.example/g01210/impl.ChanceAsRare -/
def p_impl_ChanceAsRare (fu : Nat) (x0 : (List Int)) (x1 : (List Int)) : Option ((List Int) × Bool) :=
  (p_impl_areCounts x0 x1).bind (fun r1 => (if ((!r1) || (!(p_impl_isTested (p_impl_total x1)))) = true then some ((List.replicate 2 0), false) else (p_impl_chance fu x0 x1).bind (fun r9 => (p_impl_chanceOfv1 fu x0 (p_impl_total x1) x0 r9).bind (fun r10 => some (r10, true)))))
/-- loop.example/g01210/laws.FnExactChanceAsRare -/
def p_laws_FnExactChanceAsRare (fu : Nat) (x0 : (List Int)) (x1 : (List Int)) : Option (Bool) :=
  (if 1048576 < (x1.length : Int) then some true else (p_laws_toIntS x1).bind (fun r4 => (p_spec_ChanceAsRare fu (p_laws_toIntA6 x0) r4).bind (fun r6 => (p_laws_toIntS x1).bind (fun r7 => (p_impl_ChanceAsRare fu (p_laws_toIntA6 x0) r7).bind (fun r9 => (if ((!(p_laws_eqIntA2 r9.1 r6.1)) || (r9.2 != r6.2)) = true then some false else (p_laws_toIntS x1).bind (fun r16 => (if (p_laws_eqIntS r7 r16) = true then some true else some false))))))))
/-- loop.example/g01210/spec.l2Less -/
def p_spec_l2Less (x0 : (List Int)) (x1 : (List Int)) : Bool :=
  (decide ((IntKind.wrap .i64 ((x0.getD 0 0) * (x1.getD 1 0))) < (IntKind.wrap .i64 ((x1.getD 0 0) * (x0.getD 1 0)))))
/-- loop.example/g01210/spec.ChanceAsFar -/
def p_spec_ChanceAsFar (fu : Nat) (x0 : (List Int)) (x1 : (List Int)) : Option ((List Int) × Bool) :=
  (p_spec_l11Counts x0 x1).bind (fun r1 => (if ((!r1) || (decide (8 < (p_spec_l11Sum x1)))) = true then some ((List.replicate 2 0), false) else (p_spec_l11Distance fu x0 x1).bind (fun r9 => (p_spec_l11Vectors fu (x1.length : Int) (p_spec_l11Sum x1)).bind (fun r10 => cnt (fun i13 (s12 : Int) c14 _ => (p_spec_l11Distance fu x0 (r10.getD i13.toNat [])).bind (fun r19 => (if (p_spec_l2Less r19 r9) = true then c14 s12 else (p_spec_l11Chance fu x0 (r10.getD i13.toNat [])).bind (fun r21 => c14 (IntKind.wrap .i64 (s12 + r21)))))) (fun i13 (s12 : Int) => (p_spec_l2All fu (p_spec_l11Sum x1)).bind (fun r22 => (p_spec_l2Cut fu s12 r22).bind (fun r23 => some (r23, true)))) (Int.toNat ((r10.length : Int) - 0)) 0 0))))
/-- loop.example/g01210/impl.ChanceAsFar$1 -/
def p_impl_ChanceAsFar_1 (x0 : (List Int)) (x1 : (List Int)) (x2 : Int) : Option (Bool) :=
  (p_impl_distance x1 x0).bind (fun r1 => some (decide (x2 ≤ r1)))
/-- loop.example/g01210/impl.chanceOf -/
def p_impl_chanceOfv2 (fu : Nat) (x0 : (List Int)) (x1 : Int) (x2 : (List Int)) (x3 : Int) : Option ((List Int)) :=
  (p_impl_numbers x0).bind (fun r1 => (p_impl_vectors fu (r1.length : Int) x1).bind (fun r3 => cnt (fun i6 (s5 : Int) c7 _ => (p_impl_ChanceAsFar_1 (r3.getD i6.toNat []) x2 x3).bind (fun r12 => (if r12 = true then (p_impl_chance fu x0 (r3.getD i6.toNat [])).bind (fun r14 => c7 (IntKind.wrap .i64 (s5 + r14))) else c7 s5))) (fun i6 (s5 : Int) => (p_impl_power fu x1).bind (fun r15 => (p_impl_fraction fu s5 r15).bind (fun r16 => some r16))) (Int.toNat ((r3.length : Int) - 0)) 0 0))
/-- loop.example/g01210/impl.ChanceAsFar -/
def p_impl_ChanceAsFar (fu : Nat) (x0 : (List Int)) (x1 : (List Int)) : Option ((List Int) × Bool) :=
  (p_impl_areCounts x0 x1).bind (fun r1 => (if ((!r1) || (!(p_impl_isTested (p_impl_total x1)))) = true then some ((List.replicate 2 0), false) else (p_impl_distance x0 x1).bind (fun r9 => (p_impl_chanceOfv2 fu x0 (p_impl_total x1) x0 r9).bind (fun r10 => some (r10, true)))))
/-- loop.example/g01210/laws.FnExactChanceAsFar -/
def p_laws_FnExactChanceAsFar (fu : Nat) (x0 : (List Int)) (x1 : (List Int)) : Option (Bool) :=
  (if 1048576 < (x1.length : Int) then some true else (p_laws_toIntS x1).bind (fun r4 => (p_spec_ChanceAsFar fu (p_laws_toIntA6 x0) r4).bind (fun r6 => (p_laws_toIntS x1).bind (fun r7 => (p_impl_ChanceAsFar fu (p_laws_toIntA6 x0) r7).bind (fun r9 => (if ((!(p_laws_eqIntA2 r9.1 r6.1)) || (r9.2 != r6.2)) = true then some false else (p_laws_toIntS x1).bind (fun r16 => (if (p_laws_eqIntS r7 r16) = true then some true else some false))))))))
end Go.GA
