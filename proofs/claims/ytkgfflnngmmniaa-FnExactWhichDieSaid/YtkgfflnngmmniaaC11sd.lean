/- Walks: what the Go functions compute, by the printed lines below. -/
import Derived.Test.YtkgfflnngmmniaaGa27
namespace Go.GA
open Go
set_option maxRecDepth 100000
set_option maxHeartbeats 2000000
set_option linter.unusedVariables false
/-- loop.example/g01210/laws.szIntA6S -/
def p_laws_szIntA6S (x0 : (List (List Int))) (x1 : Int) : Int :=
  (if (IntKind.wrap .i64 (x1 - (x0.length : Int))) < 0 then (-1) else (IntKind.wrap .i64 (x1 - (x0.length : Int))))
/-- loop.example/g01210/laws.toIntA6 -/
def p_laws_toIntA6 (x0 : (List Int)) : (List Int) :=
  cnt (fun i2 (s1 : (List Int)) c3 _ => c3 (s1.set i2.toNat (x0.getD i2.toNat 0))) (fun i2 (s1 : (List Int)) => s1) (Int.toNat (6 - 0)) 0 (List.replicate 6 0)
/-- loop.example/g01210/laws.toIntA6S -/
def p_laws_toIntA6S (x0 : (List (List Int))) : Option ((List (List Int))) :=
  if (x0.length : Int) ≤ 1000000000 then cnt (fun i3 (s2 : (List (List Int))) c4 _ => c4 (s2.set i3.toNat (p_laws_toIntA6 (x0.getD i3.toNat (List.replicate 6 0))))) (fun i3 (s2 : (List (List Int))) => some s2) (Int.toNat ((x0.length : Int) - 0)) 0 (List.replicate (x0.length : Int).toNat (List.replicate 6 0)) else none
/-- loop.example/g01210/laws.toIntS -/
def p_laws_toIntS (x0 : (List Int)) : Option ((List Int)) :=
  if (x0.length : Int) ≤ 1000000000 then cnt (fun i3 (s2 : (List Int)) c4 _ => c4 (s2.set i3.toNat (x0.getD i3.toNat 0))) (fun i3 (s2 : (List Int)) => some s2) (Int.toNat ((x0.length : Int) - 0)) 0 (List.replicate (x0.length : Int).toNat 0) else none
/-- loop.example/g01210/spec.l1In -/
def p_spec_l1In (x0 : Int) (x1 : Int) (x2 : Int) : Bool :=
  ((decide (x1 ≤ x0)) && (decide (x0 ≤ x2)))
/-- loop.example/g01210/spec.l2Die -/
def p_spec_l2Die (x0 : (List Int)) : Option (Bool) :=
  cnt (fun i2 (s1 : Unit) c3 _ => (if ((!(p_spec_l1In (x0.getD i2.toNat 0) 0 30)) || ((decide (0 < i2)) && (decide ((x0.getD i2.toNat 0) < (x0.getD (i2 - 1).toNat 0))))) = true then some false else c3 ())) (fun i2 (s1 : Unit) => some true) (Int.toNat (6 - 0)) 0 ()
/-- loop.example/g01210/spec.l2Pool -/
def p_spec_l2Pool (x0 : (List (List Int))) : Option (Bool) :=
  cnt (fun i2 (s1 : Unit) c3 k16 => (if ((decide (i2 < (x0.length : Int))) && (decide (i2 ≤ 4))) = true then (p_spec_l2Die (x0.getD i2.toNat (List.replicate 6 0))).bind (fun r14 => (if r14 = true then c3 () else some false)) else k16 i2 s1)) (fun i2 (s1 : Unit) => some (p_spec_l1In (x0.length : Int) 1 4)) (Int.toNat ((x0.length : Int) - 0)) 0 ()
/-- loop.example/g01210/spec.l11Rolls -/
def p_spec_l11Rolls (x0 : (List Int)) : Bool :=
  cnt (fun i2 (s1 : Unit) c3 k15 => (if ((decide (i2 < (x0.length : Int))) && (decide (i2 ≤ 12))) = true then (if (p_spec_l1In (x0.getD i2.toNat 0) 0 30) = true then c3 () else false) else k15 i2 s1)) (fun i2 (s1 : Unit) => (decide ((x0.length : Int) ≤ 12))) (Int.toNat ((x0.length : Int) - 0)) 0 ()
/-- loop.example/g01210/spec.l8Weight -/
def p_spec_l8Weight (x0 : (List Int)) (x1 : Int) : Int :=
  cnt (fun i2 (s1 : Int) c3 _ => (if (x0.getD i2.toNat 0) = x1 then c3 (IntKind.wrap .i64 (s1 + 1)) else c3 s1)) (fun i2 (s1 : Int) => s1) (Int.toNat (6 - 0)) 0 0
/-- loop.example/g01210/spec.l11Likely -/
def p_spec_l11Likely (x0 : (List Int)) (x1 : (List Int)) : Int :=
  cnt (fun i2 (s1 : Int) c3 _ => c3 (IntKind.wrap .i64 (s1 * (p_spec_l8Weight x0 (x1.getD i2.toNat 0))))) (fun i2 (s1 : Int) => s1) (Int.toNat ((x1.length : Int) - 0)) 0 1
/-- loop.example/g01210/spec.l1Most -/
def p_spec_l1Most (x0 : Int) (x1 : Int) : Int :=
  (if x1 < x0 then x0 else x1)
/-- loop.example/g01210/spec.l2Cut -/
def p_spec_l2Cut (fu : Nat) (x0 : Int) (x1 : Int) : Option ((List Int)) :=
  whl (fun (s1 : Int × Int) c3 => (if 0 < s1.2 then c3 (s1.2, (s1.1.tmod s1.2)) else if (p_spec_l1Most s1.1 1) ≠ 0 then if (p_spec_l1Most s1.1 1) ≠ 0 then some [(IntKind.wrap .i64 (x0.tdiv (p_spec_l1Most s1.1 1))), (IntKind.wrap .i64 (x1.tdiv (p_spec_l1Most s1.1 1)))] else none else none)) fu (x0, x1)
/-- loop.example/g01210/spec.WhichDie -/
def p_spec_WhichDie (fu : Nat) (x0 : (List (List Int))) (x1 : (List Int)) (x2 : (List Int)) : Option ((List (List Int)) × Bool) :=
  (p_spec_l2Pool x0).bind (fun r1 => (if (((!r1) || (!(decide ((x1.length : Int) = (x0.length : Int))))) || (!(p_spec_l11Rolls x2))) = true then some ([], false) else cnt (fun i26 (s25 : Int) c27 _ => (if (p_spec_l1In (x1.getD i26.toNat 0) 0 99) = true then c27 (IntKind.wrap .i64 (s25 + (IntKind.wrap .i64 ((x1.getD i26.toNat 0) * (p_spec_l11Likely (x0.getD i26.toNat (List.replicate 6 0)) x2))))) else some ([], false))) (fun i26 (s25 : Int) => cnt (fun i34 (s33 : (List (List Int))) c35 k48 => (if ((decide (i34 < (x0.length : Int))) && (decide (0 < s25))) = true then (p_spec_l2Cut fu (IntKind.wrap .i64 ((x1.getD i34.toNat 0) * (p_spec_l11Likely (x0.getD i34.toNat (List.replicate 6 0)) x2))) s25).bind (fun r46 => if (s33.length : Int) + 1 ≤ 1000000000 then c35 (s33 ++ [r46]) else none) else k48 i34 s33)) (fun i34 (s33 : (List (List Int))) => some (s33, (decide (0 < s25)))) (Int.toNat ((x0.length : Int) - 0)) 0 []) (Int.toNat ((x0.length : Int) - 0)) 0 0))
/-- loop.example/g01210/impl.within -/
def p_impl_within (x0 : Int) (x1 : Int) (x2 : Int) : Bool :=
  ((decide (x1 ≤ x0)) && (decide (x0 ≤ x2)))
/-- loop.example/g01210/impl.isFace -/
def p_impl_isFace (x0 : Int) : Bool :=
  (p_impl_within x0 0 30)
/-- loop.example/g01210/impl.areAll[int]$1 -/
def p_impl_areAll_int_1 (x0 : Int) : Bool :=
  (!(p_impl_isFace x0))
/-- slices.IndexFunc[[]int,int] -/
def p_slices_IndexFunc_int_int (x0 : (List Int)) : Int :=
  cnt (fun i2 (s1 : Unit) c3 _ => (if (p_impl_areAll_int_1 (x0.getD i2.toNat 0)) = true then i2 else c3 ())) (fun i2 (s1 : Unit) => (-1)) (Int.toNat ((x0.length : Int) - 0)) 0 ()
/-- slices.ContainsFunc[[]int,int] -/
def p_slices_ContainsFunc_int_int (x0 : (List Int)) : Bool :=
  (decide (0 ≤ (p_slices_IndexFunc_int_int x0)))
/-- loop.example/g01210/impl.areAll[int] -/
def p_impl_areAll_int (x0 : (List Int)) : Bool :=
  (!(p_slices_ContainsFunc_int_int x0))
/-- cmp.isNaN[int] -/
def p_cmp_isNaN_int (x0 : Int) : Bool :=
  (!(decide (x0 = x0)))
/-- cmp.Less[int] -/
def p_cmp_Less_int (x0 : Int) (x1 : Int) : Bool :=
  (((p_cmp_isNaN_int x0) && (!(p_cmp_isNaN_int x1))) || (decide (x0 < x1)))
/-- slices.IsSorted[[]int,int] -/
def p_slices_IsSorted_int_int (x0 : (List Int)) : Bool :=
  cntd (fun i2 (s1 : Unit) c3 _ => (if (p_cmp_Less_int (x0.getD i2.toNat 0) (x0.getD (i2 - 1).toNat 0)) = true then false else c3 ())) (fun i2 (s1 : Unit) => true) (Int.toNat (((x0.length : Int) - 1) - 0)) ((x0.length : Int) - 1) ()
/-- loop.example/g01210/impl.IsDie -/
def p_impl_IsDie (x0 : (List Int)) : Bool :=
  ((p_impl_areAll_int x0) && (p_slices_IsSorted_int_int x0))
/-- loop.example/g01210/impl.areAll[[6]int]$1 -/
def p_impl_areAll_6_int_1 (x0 : (List Int)) : Bool :=
  (!(p_impl_IsDie x0))
/-- slices.IndexFunc[[][6]int,[6]int] -/
def p_slices_IndexFunc_6_int_6_int (x0 : (List (List Int))) : Int :=
  cnt (fun i2 (s1 : Unit) c3 _ => (if (p_impl_areAll_6_int_1 (x0.getD i2.toNat (List.replicate 6 0))) = true then i2 else c3 ())) (fun i2 (s1 : Unit) => (-1)) (Int.toNat ((x0.length : Int) - 0)) 0 ()
/-- slices.ContainsFunc[[][6]int,[6]int] -/
def p_slices_ContainsFunc_6_int_6_int (x0 : (List (List Int))) : Bool :=
  (decide (0 ≤ (p_slices_IndexFunc_6_int_6_int x0)))
/-- loop.example/g01210/impl.areAll[[6]int] -/
def p_impl_areAll_6_int (x0 : (List (List Int))) : Bool :=
  (!(p_slices_ContainsFunc_6_int_6_int x0))
/-- loop.example/g01210/impl.IsPool -/
def p_impl_IsPool (x0 : (List (List Int))) : Bool :=
  ((p_impl_within (x0.length : Int) 1 4) && (p_impl_areAll_6_int x0))
/-- loop.example/g01210/impl.WhichDie$1 -/
def p_impl_WhichDie_1 (x0 : Int) : Bool :=
  (p_impl_within x0 0 99)
/-- loop.example/g01210/impl.areAll[int]$1 -/
def p_impl_areAll_int_1v1 (x0 : Int) : Bool :=
  (!(p_impl_WhichDie_1 x0))
/-- slices.IndexFunc[[]int,int] -/
def p_slices_IndexFunc_int_intv1 (x0 : (List Int)) : Int :=
  cnt (fun i2 (s1 : Unit) c3 _ => (if (p_impl_areAll_int_1v1 (x0.getD i2.toNat 0)) = true then i2 else c3 ())) (fun i2 (s1 : Unit) => (-1)) (Int.toNat ((x0.length : Int) - 0)) 0 ()
/-- slices.ContainsFunc[[]int,int] -/
def p_slices_ContainsFunc_int_intv1 (x0 : (List Int)) : Bool :=
  (decide (0 ≤ (p_slices_IndexFunc_int_intv1 x0)))
/-- loop.example/g01210/impl.areAll[int] -/
def p_impl_areAll_intv1 (x0 : (List Int)) : Bool :=
  (!(p_slices_ContainsFunc_int_intv1 x0))
/-- loop.example/g01210/impl.areSeen -/
def p_impl_areSeen (x0 : (List Int)) : Bool :=
  ((decide ((x0.length : Int) ≤ 12)) && (p_impl_areAll_int x0))
/-- loop.example/g01210/impl.truth -/
def p_impl_truth (x0 : Bool) : Int :=
  (if x0 = true then 1 else 0)
/-- loop.example/g01210/impl.weight -/
def p_impl_weight (x0 : (List Int)) (x1 : Int) : Int :=
  cnt (fun i2 (s1 : Int) c3 _ => c3 (IntKind.wrap .i64 (s1 + (p_impl_truth (decide ((x0.getD i2.toNat 0) = x1)))))) (fun i2 (s1 : Int) => s1) (Int.toNat (6 - 0)) 0 0
/-- loop.example/g01210/impl.faces -/
def p_impl_faces (x0 : (List Int)) (x1 : (List Int)) : Int :=
  cnt (fun i2 (s1 : Int) c3 _ => c3 (IntKind.wrap .i64 (s1 * (p_impl_weight x0 (x1.getD i2.toNat 0))))) (fun i2 (s1 : Int) => s1) (Int.toNat ((x1.length : Int) - 0)) 0 1
/-- loop.example/g01210/impl.total -/
def p_impl_total (x0 : (List Int)) : Int :=
  cnt (fun i2 (s1 : Int) c3 _ => c3 (IntKind.wrap .i64 (s1 + (x0.getD i2.toNat 0)))) (fun i2 (s1 : Int) => s1) (Int.toNat ((x0.length : Int) - 0)) 0 0
/-- loop.example/g01210/impl.fraction -/
def p_impl_fraction (fu : Nat) (x0 : Int) (x1 : Int) : Option ((List Int)) :=
  whl (fun (s1 : Int × Int) c3 => (if s1.2 = 0 then if s1.1 ≠ 0 then if s1.1 ≠ 0 then some [(IntKind.wrap .i64 (x0.tdiv s1.1)), (IntKind.wrap .i64 (x1.tdiv s1.1))] else none else none else if s1.2 ≠ 0 then c3 (s1.2, (s1.1.tmod s1.2)) else none)) fu (x0, x1)
/-- loop.example/g01210/impl.WhichDie -/
def p_impl_WhichDie (fu : Nat) (x0 : (List (List Int))) (x1 : (List Int)) (x2 : (List Int)) : Option ((List (List Int)) × Bool) :=
  (if ((((!(p_impl_IsPool x0)) || (!(decide ((x1.length : Int) = (x0.length : Int))))) || (!(p_impl_areAll_intv1 x1))) || (!(p_impl_areSeen x2))) = true then some ([], false) else cnt (fun i45 (s44 : (List Int)) c46 _ => if (s44.length : Int) + 1 ≤ 1000000000 then c46 (s44 ++ [(IntKind.wrap .i64 ((x1.getD i45.toNat 0) * (p_impl_faces (x0.getD i45.toNat (List.replicate 6 0)) x2)))]) else none) (fun i45 (s44 : (List Int)) => (if (p_impl_total s44) = 0 then some ([], false) else whl (fun (s55 : Int × (List (List Int))) c57 => (if s55.1 < (s44.length : Int) then if 0 ≤ s55.1 then (p_impl_fraction fu (s44.getD s55.1.toNat 0) (p_impl_total s44)).bind (fun r63 => if (s55.2.length : Int) + 1 ≤ 1000000000 then c57 ((IntKind.wrap .i64 (s55.1 + 1)), (s55.2 ++ [r63])) else none) else none else some (s55.2, true))) fu (0, []))) (Int.toNat ((x0.length : Int) - 0)) 0 [])
/-- loop.example/g01210/laws.eqIntA2 -/
def p_laws_eqIntA2 (x0 : (List Int)) (x1 : (List Int)) : Bool :=
  cnt (fun i2 (s1 : Unit) c3 _ => (if (x0.getD i2.toNat 0) = (x1.getD i2.toNat 0) then c3 () else false)) (fun i2 (s1 : Unit) => true) (Int.toNat (2 - 0)) 0 ()
/-- loop.example/g01210/laws.eqIntA2S -/
def p_laws_eqIntA2S (x0 : (List (List Int))) (x1 : (List (List Int))) : Bool :=
  (if (x0.length : Int) = (x1.length : Int) then cnt (fun i5 (s4 : Unit) c6 _ => (if (p_laws_eqIntA2 (x0.getD i5.toNat (List.replicate 2 0)) (x1.getD i5.toNat (List.replicate 2 0))) = true then c6 () else false)) (fun i5 (s4 : Unit) => true) (Int.toNat ((x0.length : Int) - 0)) 0 () else false)
/-- loop.example/g01210/laws.eqIntA6 -/
def p_laws_eqIntA6 (x0 : (List Int)) (x1 : (List Int)) : Bool :=
  cnt (fun i2 (s1 : Unit) c3 _ => (if (x0.getD i2.toNat 0) = (x1.getD i2.toNat 0) then c3 () else false)) (fun i2 (s1 : Unit) => true) (Int.toNat (6 - 0)) 0 ()
/-- loop.example/g01210/laws.eqIntA6S -/
def p_laws_eqIntA6S (x0 : (List (List Int))) (x1 : (List (List Int))) : Bool :=
  (if (x0.length : Int) = (x1.length : Int) then cnt (fun i5 (s4 : Unit) c6 _ => (if (p_laws_eqIntA6 (x0.getD i5.toNat (List.replicate 6 0)) (x1.getD i5.toNat (List.replicate 6 0))) = true then c6 () else false)) (fun i5 (s4 : Unit) => true) (Int.toNat ((x0.length : Int) - 0)) 0 () else false)
/-- loop.example/g01210/laws.eqIntS -/
def p_laws_eqIntS (x0 : (List Int)) (x1 : (List Int)) : Bool :=
  (if (x0.length : Int) = (x1.length : Int) then cnt (fun i5 (s4 : Unit) c6 _ => (if (x0.getD i5.toNat 0) = (x1.getD i5.toNat 0) then c6 () else false)) (fun i5 (s4 : Unit) => true) (Int.toNat ((x0.length : Int) - 0)) 0 () else false)
/-- loop.example/g01210/laws.markIntA6S -/
def p_laws_markIntA6S (x0 : (List (List Int))) (x1 : Int) : Int × (List (List Int)) :=
  cnt (fun i2 (s1 : Int × (List (List Int))) c3 _ => cnt (fun i9 (s8 : Int × (List (List Int))) c10 _ => c10 ((IntKind.wrap .i64 (s8.1 + 1)), (s8.2.set i2.toNat ((s8.2.getD i2.toNat (List.replicate 6 0)).set i9.toNat s8.1)))) (fun i9 (s8 : Int × (List (List Int))) => c3 (s8.1, s8.2)) (Int.toNat (6 - 0)) 0 (s1.1, s1.2)) (fun i2 (s1 : Int × (List (List Int))) => (s1.1, s1.2)) (Int.toNat ((x0.length : Int) - 0)) 0 (x1, x0)
/-- loop.example/g01210/laws.markIntS -/
def p_laws_markIntS (x0 : (List Int)) (x1 : Int) : Int × (List Int) :=
  cnt (fun i2 (s1 : Int × (List Int)) c3 _ => c3 ((IntKind.wrap .i64 (s1.1 + 1)), (s1.2.set i2.toNat s1.1))) (fun i2 (s1 : Int × (List Int)) => (s1.1, s1.2)) (Int.toNat ((x0.length : Int) - 0)) 0 (x1, x0)
/-- loop.example/g01210/laws.markIntA2S -/
def p_laws_markIntA2S (x0 : (List (List Int))) (x1 : Int) : Int × (List (List Int)) :=
  cnt (fun i2 (s1 : Int × (List (List Int))) c3 _ => cnt (fun i9 (s8 : Int × (List (List Int))) c10 _ => c10 ((IntKind.wrap .i64 (s8.1 + 1)), (s8.2.set i2.toNat ((s8.2.getD i2.toNat (List.replicate 2 0)).set i9.toNat s8.1)))) (fun i9 (s8 : Int × (List (List Int))) => c3 (s8.1, s8.2)) (Int.toNat (2 - 0)) 0 (s1.1, s1.2)) (fun i2 (s1 : Int × (List (List Int))) => (s1.1, s1.2)) (Int.toNat ((x0.length : Int) - 0)) 0 (x1, x0)
/-- loop.example/g01210/laws.heldIntA2S -/
def p_laws_heldIntA2S (x0 : (List (List Int))) (x1 : Int) : Int :=
  cnt (fun i2 (s1 : Int) c3 _ => cnt (fun i9 (s8 : Int) c10 _ => (if ((x0.getD i2.toNat (List.replicate 2 0)).getD i9.toNat 0) = s8 then c10 (IntKind.wrap .i64 (s8 + 1)) else (-1))) (fun i9 (s8 : Int) => c3 s8) (Int.toNat (2 - 0)) 0 s1) (fun i2 (s1 : Int) => s1) (Int.toNat ((x0.length : Int) - 0)) 0 x1
/-- loop.example/g01210/laws.FnExactWhichDie -/
def p_laws_FnExactWhichDie (fu : Nat) (x0 : (List (List Int))) (x1 : (List Int)) (x2 : (List Int)) : Option (Bool) :=
  (if 1048576 < (x1.length : Int) then some true else (if 1048576 < (x2.length : Int) then some true else (if (p_laws_szIntA6S x0 1048576) < 0 then some true else (p_laws_toIntA6S x0).bind (fun r10 => (p_laws_toIntS x1).bind (fun r12 => (p_laws_toIntS x2).bind (fun r14 => (p_spec_WhichDie fu r10 r12 r14).bind (fun r16 => (p_laws_toIntA6S x0).bind (fun r18 => (p_laws_toIntS x1).bind (fun r20 => (p_laws_toIntS x2).bind (fun r22 => (p_impl_WhichDie fu r18 r20 r22).bind (fun r24 => (if ((!(p_laws_eqIntA2S r24.1 r16.1)) || (r24.2 != r16.2)) = true then some false else (p_laws_toIntA6S x0).bind (fun r32 => (if (p_laws_eqIntA6S r18 r32) = true then (p_laws_toIntS x1).bind (fun r35 => (if (p_laws_eqIntS r20 r35) = true then (p_laws_toIntS x2).bind (fun r38 => (if (p_laws_eqIntS r22 r38) = true then (if (((decide ((p_laws_markIntS r22 ((p_laws_markIntS r20 ((p_laws_markIntA6S r18 1).1)).1)).1 < 0)) || (!(p_laws_eqIntA2S r24.1 r16.1))) || (r24.2 != r16.2)) = true then some false else (if (p_laws_heldIntA2S ((p_laws_markIntA2S r24.1 1).2) 1) < 0 then some false else (if (p_laws_heldIntA2S ((p_laws_markIntA2S r24.1 1).2) 1) = (p_laws_markIntA2S r24.1 1).1 then (p_laws_toIntA6S x0).bind (fun r73 => (p_laws_toIntS x1).bind (fun r75 => (p_laws_toIntS x2).bind (fun r77 => (p_impl_WhichDie fu r73 r75 r77).bind (fun r79 => (if ((!(p_laws_eqIntA2S r79.1 r16.1)) || (r79.2 != r16.2)) = true then some false else (if (p_laws_heldIntA2S ((p_laws_markIntA2S r24.1 1).2) 1) < 0 then some false else (if (p_laws_heldIntA2S ((p_laws_markIntA2S r24.1 1).2) 1) = (p_laws_markIntA2S r24.1 1).1 then some true else some false))))))) else some false))) else some false)) else some false)) else some false))))))))))))))
end Go.GA
