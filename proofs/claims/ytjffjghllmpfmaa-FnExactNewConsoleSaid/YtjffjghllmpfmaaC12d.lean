/- Walks: what the Go functions compute, by the printed lines below. -/
import Derived.Test.YtjffjghllmpfmaaGa27
namespace Go.GA
open Go
set_option maxRecDepth 100000
set_option linter.unusedVariables false
/-- loop.example/g01210/laws.szIntA6S -/
def p_laws_szIntA6S (x0 : (List (List Int))) (x1 : Int) : Int :=
  (if (IntKind.wrap .i64 (x1 - (x0.length : Int))) < 0 then (-1) else (IntKind.wrap .i64 (x1 - (x0.length : Int))))
/-- loop.example/g01210/laws.szIntS -/
def p_laws_szIntS (x0 : (List Int)) (x1 : Int) : Int :=
  (if (IntKind.wrap .i64 (x1 - (x0.length : Int))) < 0 then (-1) else (IntKind.wrap .i64 (x1 - (x0.length : Int))))
/-- loop.example/g01210/laws.szTavern -/
def p_laws_szTavern (x0 : ((List (List Int)) × (Int × ((List Int) × (Int × (Int × (Int × Unit))))))) (x1 : Int) : Int :=
  (if (p_laws_szIntA6S x0.1 x1) < 0 then (-1) else (if (p_laws_szIntS x0.2.2.1 (p_laws_szIntA6S x0.1 x1)) < 0 then (-1) else (p_laws_szIntS x0.2.2.1 (p_laws_szIntA6S x0.1 x1))))
/-- loop.example/g01210/laws.toIntA6 -/
def p_laws_toIntA6 (x0 : (List Int)) : (List Int) :=
  cnt (fun i2 (s1 : (List Int)) c3 _ => c3 (s1.set i2.toNat (x0.getD i2.toNat 0))) (fun i2 (s1 : (List Int)) => s1) (Int.toNat (6 - 0)) 0 (List.replicate 6 0)
/-- loop.example/g01210/laws.toIntA6S -/
def p_laws_toIntA6S (x0 : (List (List Int))) : Option ((List (List Int))) :=
  if (x0.length : Int) ≤ 1000000000 then cnt (fun i3 (s2 : (List (List Int))) c4 _ => c4 (s2.set i3.toNat (p_laws_toIntA6 (x0.getD i3.toNat (List.replicate 6 0))))) (fun i3 (s2 : (List (List Int))) => some s2) (Int.toNat ((x0.length : Int) - 0)) 0 (List.replicate (x0.length : Int).toNat (List.replicate 6 0)) else none
/-- loop.example/g01210/laws.toIntS -/
def p_laws_toIntS (x0 : (List Int)) : Option ((List Int)) :=
  if (x0.length : Int) ≤ 1000000000 then cnt (fun i3 (s2 : (List Int)) c4 _ => c4 (s2.set i3.toNat (x0.getD i3.toNat 0))) (fun i3 (s2 : (List Int)) => some s2) (Int.toNat ((x0.length : Int) - 0)) 0 (List.replicate (x0.length : Int).toNat 0) else none
/-- loop.example/g01210/laws.toTavern -/
def p_laws_toTavern (x0 : ((List (List Int)) × (Int × ((List Int) × (Int × (Int × (Int × Unit))))))) : Option (((List (List Int)) × (Int × ((List Int) × (Int × (Int × (Int × Unit))))))) :=
  (p_laws_toIntA6S x0.1).bind (fun r1 => (p_laws_toIntS x0.2.2.1).bind (fun r3 => some (r1, (x0.2.1, (r3, (x0.2.2.2.1, (x0.2.2.2.2.1, (x0.2.2.2.2.2.1, ()))))))))
/-- loop.example/g01210/spec.l1In -/
def p_spec_l1In (x0 : Int) (x1 : Int) (x2 : Int) : Bool :=
  ((decide (x1 ≤ x0)) && (decide (x0 ≤ x2)))
/-- loop.example/g01210/spec.l2Die -/
def p_spec_l2Die (x0 : (List Int)) : Option (Bool) :=
  cnt (fun i2 (s1 : Unit) c3 _ => (if ((!(p_spec_l1In (x0.getD i2.toNat 0) 0 30)) || ((decide (0 < i2)) && (decide ((x0.getD i2.toNat 0) < (x0.getD (i2 - 1).toNat 0))))) = true then some false else c3 ())) (fun i2 (s1 : Unit) => some true) (Int.toNat (6 - 0)) 0 ()
/-- loop.example/g01210/spec.l2Pool -/
def p_spec_l2Pool (x0 : (List (List Int))) : Option (Bool) :=
  cnt (fun i2 (s1 : Unit) c3 k16 => (if ((decide (i2 < (x0.length : Int))) && (decide (i2 ≤ 4))) = true then (p_spec_l2Die (x0.getD i2.toNat (List.replicate 6 0))).bind (fun r14 => (if r14 = true then c3 () else some false)) else k16 i2 s1)) (fun i2 (s1 : Unit) => some (p_spec_l1In (x0.length : Int) 1 4)) (Int.toNat ((x0.length : Int) - 0)) 0 ()
/-- loop.example/g01210/spec.l1Has -/
def p_spec_l1Has (x0 : (List Int)) (x1 : Int) : Bool :=
  cnt (fun i2 (s1 : Unit) c3 _ => (if (x0.getD i2.toNat 0) = x1 then true else c3 ())) (fun i2 (s1 : Unit) => false) (Int.toNat ((x0.length : Int) - 0)) 0 ()
/-- loop.example/g01210/spec.l12Last -/
def p_spec_l12Last (x0 : (List (List Int))) (x1 : (List Int)) : Bool :=
  (if (x1.length : Int) = 0 then true else cnt (fun i5 (s4 : Unit) c6 k22 => (if ((decide (i5 < (x1.length : Int))) && (decide (i5 < (x0.length : Int)))) = true then (if (p_spec_l1Has (x0.getD i5.toNat (List.replicate 6 0)) (x1.getD i5.toNat 0)) = true then c6 () else false) else k22 i5 s4)) (fun i5 (s4 : Unit) => (decide ((x1.length : Int) = (x0.length : Int)))) (Int.toNat ((x1.length : Int) - 0)) 0 ())
/-- loop.example/g01210/spec.l12Good -/
def p_spec_l12Good (x0 : ((List (List Int)) × (Int × ((List Int) × (Int × (Int × (Int × Unit))))))) : Option (Bool) :=
  (p_spec_l2Pool x0.1).bind (fun r1 => some (((((r1 && (p_spec_l1In x0.2.1 0 65535)) && (p_spec_l12Last x0.1 x0.2.2.1)) && (p_spec_l1In x0.2.2.2.1 0 100000)) && (p_spec_l1In x0.2.2.2.2.1 0 120)) && (p_spec_l1In x0.2.2.2.2.2.1 0 1000)))
/-- loop.example/g01210/spec.IsTavern -/
def p_spec_IsTavern (x0 : ((List (List Int)) × (Int × ((List Int) × (Int × (Int × (Int × Unit))))))) : Option (Bool) :=
  (p_spec_l12Good (x0.1, (x0.2.1, (x0.2.2.1, (x0.2.2.2.1, (x0.2.2.2.2.1, (x0.2.2.2.2.2.1, ()))))))).bind (fun r1 => some r1)
/-- loop.example/g01210/impl.within -/
def p_impl_within (x0 : Int) (x1 : Int) (x2 : Int) : Bool :=
  ((decide (x1 ≤ x0)) && (decide (x0 ≤ x2)))
/-- loop.example/g01210/impl.isFace -/
def p_impl_isFace (x0 : Int) : Bool :=
  (p_impl_within x0 0 30)
/-- loop.example/g01210/impl.areAll[int]$1 -/
def p_impl_areAll_int_1 (x0 : Int) : Bool :=
  (!(p_impl_isFace x0))
/-- slices.IndexFunc[[]int,int] -/
def p_slices_IndexFunc_int_int (x0 : (List Int)) : Int :=
  cnt (fun i2 (s1 : Unit) c3 _ => (if (p_impl_areAll_int_1 (x0.getD i2.toNat 0)) = true then i2 else c3 ())) (fun i2 (s1 : Unit) => (-1)) (Int.toNat ((x0.length : Int) - 0)) 0 ()
/-- slices.ContainsFunc[[]int,int] -/
def p_slices_ContainsFunc_int_int (x0 : (List Int)) : Bool :=
  (decide (0 ≤ (p_slices_IndexFunc_int_int x0)))
/-- loop.example/g01210/impl.areAll[int] -/
def p_impl_areAll_int (x0 : (List Int)) : Bool :=
  (!(p_slices_ContainsFunc_int_int x0))
/-- cmp.isNaN[int] -/
def p_cmp_isNaN_int (x0 : Int) : Bool :=
  (!(decide (x0 = x0)))
/-- cmp.Less[int] -/
def p_cmp_Less_int (x0 : Int) (x1 : Int) : Bool :=
  (((p_cmp_isNaN_int x0) && (!(p_cmp_isNaN_int x1))) || (decide (x0 < x1)))
/-- slices.IsSorted[[]int,int] -/
def p_slices_IsSorted_int_int (x0 : (List Int)) : Bool :=
  cntd (fun i2 (s1 : Unit) c3 _ => (if (p_cmp_Less_int (x0.getD i2.toNat 0) (x0.getD (i2 - 1).toNat 0)) = true then false else c3 ())) (fun i2 (s1 : Unit) => true) (Int.toNat (((x0.length : Int) - 1) - 0)) ((x0.length : Int) - 1) ()
/-- loop.example/g01210/impl.IsDie -/
def p_impl_IsDie (x0 : (List Int)) : Bool :=
  ((p_impl_areAll_int x0) && (p_slices_IsSorted_int_int x0))
/-- loop.example/g01210/impl.areAll[[6]int]$1 -/
def p_impl_areAll_6_int_1 (x0 : (List Int)) : Bool :=
  (!(p_impl_IsDie x0))
/-- slices.IndexFunc[[][6]int,[6]int] -/
def p_slices_IndexFunc_6_int_6_int (x0 : (List (List Int))) : Int :=
  cnt (fun i2 (s1 : Unit) c3 _ => (if (p_impl_areAll_6_int_1 (x0.getD i2.toNat (List.replicate 6 0))) = true then i2 else c3 ())) (fun i2 (s1 : Unit) => (-1)) (Int.toNat ((x0.length : Int) - 0)) 0 ()
/-- slices.ContainsFunc[[][6]int,[6]int] -/
def p_slices_ContainsFunc_6_int_6_int (x0 : (List (List Int))) : Bool :=
  (decide (0 ≤ (p_slices_IndexFunc_6_int_6_int x0)))
/-- loop.example/g01210/impl.areAll[[6]int] -/
def p_impl_areAll_6_int (x0 : (List (List Int))) : Bool :=
  (!(p_slices_ContainsFunc_6_int_6_int x0))
/-- loop.example/g01210/impl.IsPool -/
def p_impl_IsPool (x0 : (List (List Int))) : Bool :=
  ((p_impl_within (x0.length : Int) 1 4) && (p_impl_areAll_6_int x0))
/-- slices.Index[[]int,int] -/
def p_slices_Index_int_int (x0 : (List Int)) (x1 : Int) : Int :=
  cnt (fun i2 (s1 : Unit) c3 _ => (if x1 = (x0.getD i2.toNat 0) then i2 else c3 ())) (fun i2 (s1 : Unit) => (-1)) (Int.toNat ((x0.length : Int) - 0)) 0 ()
/-- slices.Contains[[]int,int] -/
def p_slices_Contains_int_int (x0 : (List Int)) (x1 : Int) : Bool :=
  (decide (0 ≤ (p_slices_Index_int_int x0 x1)))
/-- loop.example/g01210/impl.has -/
def p_impl_has (x0 : (List Int)) (x1 : Int) : Bool :=
  (p_slices_Contains_int_int x0 x1)
/-- (loop.example/g01210/impl.Tavern).isLast -/
def p_impl_Tavern_isLast (fu : Nat) (x0 : ((List (List Int)) × (Int × ((List Int) × (Int × (Int × (Int × Unit))))))) : Option (Bool) :=
  (if (x0.2.2.1.length : Int) = 0 then some true else whl (fun (s4 : Int) c6 => (if s4 < (x0.2.2.1.length : Int) then if 0 ≤ s4 then (if ((decide ((x0.1.length : Int) ≤ s4)) || (!(p_impl_has (x0.1.getD s4.toNat (List.replicate 6 0)) (x0.2.2.1.getD s4.toNat 0)))) = true then some false else c6 (IntKind.wrap .i64 (s4 + 1))) else none else some (decide ((x0.2.2.1.length : Int) = (x0.1.length : Int))))) fu 0)
/-- loop.example/g01210/impl.IsTavern -/
def p_impl_IsTavern (fu : Nat) (x0 : ((List (List Int)) × (Int × ((List Int) × (Int × (Int × (Int × Unit))))))) : Option (Bool) :=
  if ((((((p_impl_IsPool x0.1) && (p_impl_within x0.2.1 0 65535)) && (p_impl_within x0.2.2.2.1 0 100000)) && (p_impl_within x0.2.2.2.2.1 0 120)) && (p_impl_within x0.2.2.2.2.2.1 0 1000)) = true → (p_impl_Tavern_isLast fu (x0.1, (x0.2.1, (x0.2.2.1, (x0.2.2.2.1, (x0.2.2.2.2.1, (x0.2.2.2.2.2.1, ()))))))).isSome = true) then some ((((((p_impl_IsPool x0.1) && (p_impl_within x0.2.1 0 65535)) && (p_impl_within x0.2.2.2.1 0 100000)) && (p_impl_within x0.2.2.2.2.1 0 120)) && (p_impl_within x0.2.2.2.2.2.1 0 1000)) && ((p_impl_Tavern_isLast fu (x0.1, (x0.2.1, (x0.2.2.1, (x0.2.2.2.1, (x0.2.2.2.2.1, (x0.2.2.2.2.2.1, ()))))))).getD false)) else none
/-- loop.example/g01210/laws.eqIntA6 -/
def p_laws_eqIntA6 (x0 : (List Int)) (x1 : (List Int)) : Bool :=
  cnt (fun i2 (s1 : Unit) c3 _ => (if (x0.getD i2.toNat 0) = (x1.getD i2.toNat 0) then c3 () else false)) (fun i2 (s1 : Unit) => true) (Int.toNat (6 - 0)) 0 ()
/-- loop.example/g01210/laws.eqIntA6S -/
def p_laws_eqIntA6S (x0 : (List (List Int))) (x1 : (List (List Int))) : Bool :=
  (if (x0.length : Int) = (x1.length : Int) then cnt (fun i5 (s4 : Unit) c6 _ => (if (p_laws_eqIntA6 (x0.getD i5.toNat (List.replicate 6 0)) (x1.getD i5.toNat (List.replicate 6 0))) = true then c6 () else false)) (fun i5 (s4 : Unit) => true) (Int.toNat ((x0.length : Int) - 0)) 0 () else false)
/-- loop.example/g01210/laws.eqIntS -/
def p_laws_eqIntS (x0 : (List Int)) (x1 : (List Int)) : Bool :=
  (if (x0.length : Int) = (x1.length : Int) then cnt (fun i5 (s4 : Unit) c6 _ => (if (x0.getD i5.toNat 0) = (x1.getD i5.toNat 0) then c6 () else false)) (fun i5 (s4 : Unit) => true) (Int.toNat ((x0.length : Int) - 0)) 0 () else false)
/-- loop.example/g01210/laws.eqTavern -/
def p_laws_eqTavern (x0 : ((List (List Int)) × (Int × ((List Int) × (Int × (Int × (Int × Unit))))))) (x1 : ((List (List Int)) × (Int × ((List Int) × (Int × (Int × (Int × Unit))))))) : Bool :=
  (if (p_laws_eqIntA6S x0.1 x1.1) = true then (if x0.2.1 = x1.2.1 then (if (p_laws_eqIntS x0.2.2.1 x1.2.2.1) = true then (if x0.2.2.2.1 = x1.2.2.2.1 then (if x0.2.2.2.2.1 = x1.2.2.2.2.1 then (if x0.2.2.2.2.2.1 = x1.2.2.2.2.2.1 then true else false) else false) else false) else false) else false) else false)
/-- loop.example/g01210/laws.FnExactIsTavern -/
def p_laws_FnExactIsTavern (fu : Nat) (x0 : ((List (List Int)) × (Int × ((List Int) × (Int × (Int × (Int × Unit))))))) : Option (Bool) :=
  (if (p_laws_szTavern (x0.1, (x0.2.1, (x0.2.2.1, (x0.2.2.2.1, (x0.2.2.2.2.1, (x0.2.2.2.2.2.1, ())))))) 1048576) < 0 then some true else (p_laws_toTavern (x0.1, (x0.2.1, (x0.2.2.1, (x0.2.2.2.1, (x0.2.2.2.2.1, (x0.2.2.2.2.2.1, ()))))))).bind (fun r4 => (p_spec_IsTavern (r4.1, (r4.2.1, (r4.2.2.1, (r4.2.2.2.1, (r4.2.2.2.2.1, (r4.2.2.2.2.2.1, ()))))))).bind (fun r7 => (p_laws_toTavern (x0.1, (x0.2.1, (x0.2.2.1, (x0.2.2.2.1, (x0.2.2.2.2.1, (x0.2.2.2.2.2.1, ()))))))).bind (fun r8 => (p_impl_IsTavern fu (r8.1, (r8.2.1, (r8.2.2.1, (r8.2.2.2.1, (r8.2.2.2.2.1, (r8.2.2.2.2.2.1, ()))))))).bind (fun r11 => (if (r11 != r7) = true then some false else (p_laws_toTavern (x0.1, (x0.2.1, (x0.2.2.1, (x0.2.2.2.1, (x0.2.2.2.2.1, (x0.2.2.2.2.2.1, ()))))))).bind (fun r13 => (if (p_laws_eqTavern (r8.1, (r8.2.1, (r8.2.2.1, (r8.2.2.2.1, (r8.2.2.2.2.1, (r8.2.2.2.2.2.1, ())))))) (r13.1, (r13.2.1, (r13.2.2.1, (r13.2.2.2.1, (r13.2.2.2.2.1, (r13.2.2.2.2.2.1, ()))))))) = true then some true else some false))))))))
/-- loop.example/g01210/spec.l12Add -/
def p_spec_l12Add (x0 : (List Int)) : Int :=
  cnt (fun i2 (s1 : Int) c3 _ => c3 (IntKind.wrap .i64 (s1 + (x0.getD i2.toNat 0)))) (fun i2 (s1 : Int) => s1) (Int.toNat ((x0.length : Int) - 0)) 0 0
/-- loop.example/g01210/spec.LastSum -/
def p_spec_LastSum (x0 : ((List (List Int)) × (Int × ((List Int) × (Int × (Int × (Int × Unit))))))) : Option (Int × Bool) :=
  (p_spec_l12Good (x0.1, (x0.2.1, (x0.2.2.1, (x0.2.2.2.1, (x0.2.2.2.2.1, (x0.2.2.2.2.2.1, ()))))))).bind (fun r1 => (if ((!r1) || (decide ((x0.2.2.1.length : Int) = 0))) = true then some (0, false) else some ((p_spec_l12Add x0.2.2.1), true)))
/-- loop.example/g01210/impl.total -/
def p_impl_total (x0 : (List Int)) : Int :=
  cnt (fun i2 (s1 : Int) c3 _ => c3 (IntKind.wrap .i64 (s1 + (x0.getD i2.toNat 0)))) (fun i2 (s1 : Int) => s1) (Int.toNat ((x0.length : Int) - 0)) 0 0
/-- loop.example/g01210/impl.LastSum -/
def p_impl_LastSum (fu : Nat) (x0 : ((List (List Int)) × (Int × ((List Int) × (Int × (Int × (Int × Unit))))))) : Option (Int × Bool) :=
  (p_impl_IsTavern fu (x0.1, (x0.2.1, (x0.2.2.1, (x0.2.2.2.1, (x0.2.2.2.2.1, (x0.2.2.2.2.2.1, ()))))))).bind (fun r1 => (if ((!r1) || (decide ((x0.2.2.1.length : Int) = 0))) = true then some (0, false) else some ((p_impl_total x0.2.2.1), true)))
/-- loop.example/g01210/laws.FnExactLastSum -/
def p_laws_FnExactLastSum (fu : Nat) (x0 : ((List (List Int)) × (Int × ((List Int) × (Int × (Int × (Int × Unit))))))) : Option (Bool) :=
  (if (p_laws_szTavern (x0.1, (x0.2.1, (x0.2.2.1, (x0.2.2.2.1, (x0.2.2.2.2.1, (x0.2.2.2.2.2.1, ())))))) 1048576) < 0 then some true else (p_laws_toTavern (x0.1, (x0.2.1, (x0.2.2.1, (x0.2.2.2.1, (x0.2.2.2.2.1, (x0.2.2.2.2.2.1, ()))))))).bind (fun r4 => (p_spec_LastSum (r4.1, (r4.2.1, (r4.2.2.1, (r4.2.2.2.1, (r4.2.2.2.2.1, (r4.2.2.2.2.2.1, ()))))))).bind (fun r7 => (p_laws_toTavern (x0.1, (x0.2.1, (x0.2.2.1, (x0.2.2.2.1, (x0.2.2.2.2.1, (x0.2.2.2.2.2.1, ()))))))).bind (fun r8 => (p_impl_LastSum fu (r8.1, (r8.2.1, (r8.2.2.1, (r8.2.2.2.1, (r8.2.2.2.2.1, (r8.2.2.2.2.2.1, ()))))))).bind (fun r11 => (if ((!(decide (r11.1 = r7.1))) || (r11.2 != r7.2)) = true then some false else (p_laws_toTavern (x0.1, (x0.2.1, (x0.2.2.1, (x0.2.2.2.1, (x0.2.2.2.2.1, (x0.2.2.2.2.2.1, ()))))))).bind (fun r22 => (if (p_laws_eqTavern (r8.1, (r8.2.1, (r8.2.2.1, (r8.2.2.2.1, (r8.2.2.2.2.1, (r8.2.2.2.2.2.1, ())))))) (r22.1, (r22.2.1, (r22.2.2.1, (r22.2.2.2.1, (r22.2.2.2.2.1, (r22.2.2.2.2.2.1, ()))))))) = true then some true else some false))))))))
/-- loop.example/g01210/spec.l2Own -/
def p_spec_l2Own (x0 : (List (List Int))) : Option ((List (List Int))) :=
  if 0 + (x0.length : Int) ≤ 1000000000 then some ([] ++ x0) else none
/-- loop.example/g01210/spec.l1Own -/
def p_spec_l1Own (x0 : (List Int)) : Option ((List Int)) :=
  if 0 + (x0.length : Int) ≤ 1000000000 then some ([] ++ x0) else none
/-- loop.example/g01210/spec.l12Own -/
def p_spec_l12Own (x0 : ((List (List Int)) × (Int × ((List Int) × (Int × (Int × (Int × Unit))))))) : Option (((List (List Int)) × (Int × ((List Int) × (Int × (Int × (Int × Unit))))))) :=
  (p_spec_l2Own x0.1).bind (fun r1 => (p_spec_l1Own x0.2.2.1).bind (fun r3 => some (r1, (x0.2.1, (r3, (x0.2.2.2.1, (x0.2.2.2.2.1, (x0.2.2.2.2.2.1, ()))))))))
/-- loop.example/g01210/spec.NewTavern -/
def p_spec_NewTavern (x0 : (List (List Int))) (x1 : Int) : Option (((List (List Int)) × (Int × ((List Int) × (Int × (Int × (Int × Unit)))))) × Bool) :=
  (p_spec_l12Good (x0, (x1, ([], (0, (0, (0, ()))))))).bind (fun r1 => (if r1 = true then (p_spec_l12Own (x0, (x1, ([], (0, (0, (0, ()))))))).bind (fun r3 => some ((r3.1, (r3.2.1, (r3.2.2.1, (r3.2.2.2.1, (r3.2.2.2.2.1, (r3.2.2.2.2.2.1, ())))))), true)) else some (([], (0, ([], (0, (0, (0, ())))))), false)))
/-- slices.Clone[[][6]int,[6]int] -/
def p_slices_Clone_6_int_6_int (x0 : (List (List Int))) : Option ((List (List Int))) :=
  if 0 + (x0.length : Int) ≤ 1000000000 then some ([] ++ x0) else none
/-- loop.example/g01210/impl.NewTavern -/
def p_impl_NewTavern (fu : Nat) (x0 : (List (List Int))) (x1 : Int) : Option (((List (List Int)) × (Int × ((List Int) × (Int × (Int × (Int × Unit)))))) × Bool) :=
  (p_slices_Clone_6_int_6_int x0).bind (fun r1 => (p_impl_IsTavern fu (r1, (x1, ([], (0, (0, (0, ()))))))).bind (fun r3 => (if r3 = true then some ((r1, (x1, ([], (0, (0, (0, ())))))), true) else some (([], (0, ([], (0, (0, (0, ())))))), false))))
/-- loop.example/g01210/laws.markIntA6S -/
def p_laws_markIntA6S (x0 : (List (List Int))) (x1 : Int) : Int × (List (List Int)) :=
  cnt (fun i2 (s1 : Int × (List (List Int))) c3 _ => cnt (fun i9 (s8 : Int × (List (List Int))) c10 _ => c10 ((IntKind.wrap .i64 (s8.1 + 1)), (s8.2.set i2.toNat ((s8.2.getD i2.toNat (List.replicate 6 0)).set i9.toNat s8.1)))) (fun i9 (s8 : Int × (List (List Int))) => c3 (s8.1, s8.2)) (Int.toNat (6 - 0)) 0 (s1.1, s1.2)) (fun i2 (s1 : Int × (List (List Int))) => (s1.1, s1.2)) (Int.toNat ((x0.length : Int) - 0)) 0 (x1, x0)
/-- loop.example/g01210/laws.markIntS -/
def p_laws_markIntS (x0 : (List Int)) (x1 : Int) : Int × (List Int) :=
  cnt (fun i2 (s1 : Int × (List Int)) c3 _ => c3 ((IntKind.wrap .i64 (s1.1 + 1)), (s1.2.set i2.toNat s1.1))) (fun i2 (s1 : Int × (List Int)) => (s1.1, s1.2)) (Int.toNat ((x0.length : Int) - 0)) 0 (x1, x0)
/-- loop.example/g01210/laws.markTavern -/
def p_laws_markTavern (x0 : (List (List Int))) (x1 : Int) (x2 : (List Int)) (x3 : Int) (x4 : Int) (x5 : Int) (x6 : Int) : Int × (List (List Int)) × (List Int) :=
  ((p_laws_markIntS x2 ((p_laws_markIntA6S x0 x6).1)).1, (p_laws_markIntA6S x0 x6).2, (p_laws_markIntS x2 ((p_laws_markIntA6S x0 x6).1)).2)
/-- loop.example/g01210/laws.heldIntA6S -/
def p_laws_heldIntA6S (x0 : (List (List Int))) (x1 : Int) : Int :=
  cnt (fun i2 (s1 : Int) c3 _ => cnt (fun i9 (s8 : Int) c10 _ => (if ((x0.getD i2.toNat (List.replicate 6 0)).getD i9.toNat 0) = s8 then c10 (IntKind.wrap .i64 (s8 + 1)) else (-1))) (fun i9 (s8 : Int) => c3 s8) (Int.toNat (6 - 0)) 0 s1) (fun i2 (s1 : Int) => s1) (Int.toNat ((x0.length : Int) - 0)) 0 x1
/-- loop.example/g01210/laws.heldIntS -/
def p_laws_heldIntS (x0 : (List Int)) (x1 : Int) : Int :=
  cnt (fun i2 (s1 : Int) c3 _ => (if (x0.getD i2.toNat 0) = s1 then c3 (IntKind.wrap .i64 (s1 + 1)) else (-1))) (fun i2 (s1 : Int) => s1) (Int.toNat ((x0.length : Int) - 0)) 0 x1
/-- loop.example/g01210/laws.heldTavern -/
def p_laws_heldTavern (x0 : ((List (List Int)) × (Int × ((List Int) × (Int × (Int × (Int × Unit))))))) (x1 : Int) : Int :=
  (if (p_laws_heldIntA6S x0.1 x1) < 0 then (-1) else (if (p_laws_heldIntS x0.2.2.1 (p_laws_heldIntA6S x0.1 x1)) < 0 then (-1) else (p_laws_heldIntS x0.2.2.1 (p_laws_heldIntA6S x0.1 x1))))
/-- loop.example/g01210/laws.FnExactNewTavern -/
def p_laws_FnExactNewTavern (fu : Nat) (x0 : (List (List Int))) (x1 : Int) : Option (Bool) :=
  (if (p_laws_szIntA6S x0 1048576) < 0 then some true else (p_laws_toIntA6S x0).bind (fun r4 => (p_spec_NewTavern r4 x1).bind (fun r6 => (p_laws_toIntA6S x0).bind (fun r9 => (p_impl_NewTavern fu r9 x1).bind (fun r11 => (if ((!(p_laws_eqTavern (r11.1.1, (r11.1.2.1, (r11.1.2.2.1, (r11.1.2.2.2.1, (r11.1.2.2.2.2.1, (r11.1.2.2.2.2.2.1, ())))))) (r6.1.1, (r6.1.2.1, (r6.1.2.2.1, (r6.1.2.2.2.1, (r6.1.2.2.2.2.1, (r6.1.2.2.2.2.2.1, ())))))))) || (r11.2 != r6.2)) = true then some false else (p_laws_toIntA6S x0).bind (fun r20 => (if (p_laws_eqIntA6S r9 r20) = true then (if (((decide ((p_laws_markIntA6S r9 1).1 < 0)) || (!(p_laws_eqTavern (r11.1.1, (r11.1.2.1, (r11.1.2.2.1, (r11.1.2.2.2.1, (r11.1.2.2.2.2.1, (r11.1.2.2.2.2.2.1, ())))))) (r6.1.1, (r6.1.2.1, (r6.1.2.2.1, (r6.1.2.2.2.1, (r6.1.2.2.2.2.1, (r6.1.2.2.2.2.2.1, ()))))))))) || (r11.2 != r6.2)) = true then some false else (if (p_laws_heldTavern ((p_laws_markTavern r11.1.1 r11.1.2.1 r11.1.2.2.1 r11.1.2.2.2.1 r11.1.2.2.2.2.1 r11.1.2.2.2.2.2.1 1).2.1, (r11.1.2.1, ((p_laws_markTavern r11.1.1 r11.1.2.1 r11.1.2.2.1 r11.1.2.2.2.1 r11.1.2.2.2.2.1 r11.1.2.2.2.2.2.1 1).2.2, (r11.1.2.2.2.1, (r11.1.2.2.2.2.1, (r11.1.2.2.2.2.2.1, ())))))) 1) < 0 then some false else (if (p_laws_heldTavern ((p_laws_markTavern r11.1.1 r11.1.2.1 r11.1.2.2.1 r11.1.2.2.2.1 r11.1.2.2.2.2.1 r11.1.2.2.2.2.2.1 1).2.1, (r11.1.2.1, ((p_laws_markTavern r11.1.1 r11.1.2.1 r11.1.2.2.1 r11.1.2.2.2.1 r11.1.2.2.2.2.1 r11.1.2.2.2.2.2.1 1).2.2, (r11.1.2.2.2.1, (r11.1.2.2.2.2.1, (r11.1.2.2.2.2.2.1, ())))))) 1) = (p_laws_markTavern r11.1.1 r11.1.2.1 r11.1.2.2.1 r11.1.2.2.2.1 r11.1.2.2.2.2.1 r11.1.2.2.2.2.2.1 1).1 then (p_laws_toIntA6S x0).bind (fun r55 => (p_impl_NewTavern fu r55 x1).bind (fun r57 => (if ((!(p_laws_eqTavern (r57.1.1, (r57.1.2.1, (r57.1.2.2.1, (r57.1.2.2.2.1, (r57.1.2.2.2.2.1, (r57.1.2.2.2.2.2.1, ())))))) (r6.1.1, (r6.1.2.1, (r6.1.2.2.1, (r6.1.2.2.2.1, (r6.1.2.2.2.2.1, (r6.1.2.2.2.2.2.1, ())))))))) || (r57.2 != r6.2)) = true then some false else (if (p_laws_heldTavern ((p_laws_markTavern r11.1.1 r11.1.2.1 r11.1.2.2.1 r11.1.2.2.2.1 r11.1.2.2.2.2.1 r11.1.2.2.2.2.2.1 1).2.1, (r11.1.2.1, ((p_laws_markTavern r11.1.1 r11.1.2.1 r11.1.2.2.1 r11.1.2.2.2.1 r11.1.2.2.2.2.1 r11.1.2.2.2.2.2.1 1).2.2, (r11.1.2.2.2.1, (r11.1.2.2.2.2.1, (r11.1.2.2.2.2.2.1, ())))))) 1) < 0 then some false else (if (p_laws_heldTavern ((p_laws_markTavern r11.1.1 r11.1.2.1 r11.1.2.2.1 r11.1.2.2.2.1 r11.1.2.2.2.2.1 r11.1.2.2.2.2.2.1 1).2.1, (r11.1.2.1, ((p_laws_markTavern r11.1.1 r11.1.2.1 r11.1.2.2.1 r11.1.2.2.2.1 r11.1.2.2.2.2.1 r11.1.2.2.2.2.2.1 1).2.2, (r11.1.2.2.2.1, (r11.1.2.2.2.2.1, (r11.1.2.2.2.2.2.1, ())))))) 1) = (p_laws_markTavern r11.1.1 r11.1.2.1 r11.1.2.2.1 r11.1.2.2.2.1 r11.1.2.2.2.2.1 r11.1.2.2.2.2.2.1 1).1 then some true else some false))))) else some false))) else some false))))))))
/-- loop.example/g01210/spec.NewConsole -/
def p_spec_NewConsole (x0 : ((List (List Int)) × (Int × ((List Int) × (Int × (Int × (Int × Unit))))))) : Option ((((List (List Int)) × (Int × ((List Int) × (Int × (Int × (Int × Unit)))))) × ((ByteArray × (ByteArray × (Int × Unit))) × Unit)) × Bool) :=
  (p_spec_l12Good (x0.1, (x0.2.1, (x0.2.2.1, (x0.2.2.2.1, (x0.2.2.2.2.1, (x0.2.2.2.2.2.1, ()))))))).bind (fun r1 => (if r1 = true then (p_spec_l12Own (x0.1, (x0.2.1, (x0.2.2.1, (x0.2.2.2.1, (x0.2.2.2.2.1, (x0.2.2.2.2.2.1, ()))))))).bind (fun r3 => some (((r3.1, (r3.2.1, (r3.2.2.1, (r3.2.2.2.1, (r3.2.2.2.2.1, (r3.2.2.2.2.2.1, ())))))), ((ByteArray.empty, (ByteArray.empty, (0, ()))), ())), true)) else some ((([], (0, ([], (0, (0, (0, ())))))), ((ByteArray.empty, (ByteArray.empty, (0, ()))), ())), false)))
/-- slices.Clone[[]int,int] -/
def p_slices_Clone_int_int (x0 : (List Int)) : Option ((List Int)) :=
  if 0 + (x0.length : Int) ≤ 1000000000 then some ([] ++ x0) else none
/-- (loop.example/g01210/impl.Tavern).own -/
def p_impl_Tavern_own (x0 : ((List (List Int)) × (Int × ((List Int) × (Int × (Int × (Int × Unit))))))) : Option (((List (List Int)) × (Int × ((List Int) × (Int × (Int × (Int × Unit))))))) :=
  (p_slices_Clone_6_int_6_int x0.1).bind (fun r1 => (p_slices_Clone_int_int x0.2.2.1).bind (fun r3 => some (r1, (x0.2.1, (r3, (x0.2.2.2.1, (x0.2.2.2.2.1, (x0.2.2.2.2.2.1, ()))))))))
/-- loop.example/g01210/impl.NewConsole -/
def p_impl_NewConsole (fu : Nat) (x0 : ((List (List Int)) × (Int × ((List Int) × (Int × (Int × (Int × Unit))))))) : Option ((((List (List Int)) × (Int × ((List Int) × (Int × (Int × (Int × Unit)))))) × ((ByteArray × (ByteArray × (Int × Unit))) × Unit)) × Bool) :=
  (p_impl_IsTavern fu (x0.1, (x0.2.1, (x0.2.2.1, (x0.2.2.2.1, (x0.2.2.2.2.1, (x0.2.2.2.2.2.1, ()))))))).bind (fun r1 => (if r1 = true then (p_impl_Tavern_own (x0.1, (x0.2.1, (x0.2.2.1, (x0.2.2.2.1, (x0.2.2.2.2.1, (x0.2.2.2.2.2.1, ()))))))).bind (fun r3 => some (((r3.1, (r3.2.1, (r3.2.2.1, (r3.2.2.2.1, (r3.2.2.2.2.1, (r3.2.2.2.2.2.1, ())))))), ((ByteArray.empty, (ByteArray.empty, (0, ()))), ())), true)) else some ((([], (0, ([], (0, (0, (0, ())))))), ((ByteArray.empty, (ByteArray.empty, (0, ()))), ())), false)))
/-- loop.example/g01210/laws.eqLog -/
def p_laws_eqLog (x0 : (ByteArray × (ByteArray × (Int × Unit)))) (x1 : (ByteArray × (ByteArray × (Int × Unit)))) : Bool :=
  (if (eqS x0.1 x1.1) = true then (if (eqS x0.2.1 x1.2.1) = true then (if x0.2.2.1 = x1.2.2.1 then true else false) else false) else false)
/-- loop.example/g01210/laws.eqConsole -/
def p_laws_eqConsole (x0 : (((List (List Int)) × (Int × ((List Int) × (Int × (Int × (Int × Unit)))))) × ((ByteArray × (ByteArray × (Int × Unit))) × Unit))) (x1 : (((List (List Int)) × (Int × ((List Int) × (Int × (Int × (Int × Unit)))))) × ((ByteArray × (ByteArray × (Int × Unit))) × Unit))) : Bool :=
  (if (p_laws_eqTavern (x0.1.1, (x0.1.2.1, (x0.1.2.2.1, (x0.1.2.2.2.1, (x0.1.2.2.2.2.1, (x0.1.2.2.2.2.2.1, ())))))) (x1.1.1, (x1.1.2.1, (x1.1.2.2.1, (x1.1.2.2.2.1, (x1.1.2.2.2.2.1, (x1.1.2.2.2.2.2.1, ()))))))) = true then (if (p_laws_eqLog (x0.2.1.1, (x0.2.1.2.1, (x0.2.1.2.2.1, ()))) (x1.2.1.1, (x1.2.1.2.1, (x1.2.1.2.2.1, ())))) = true then true else false) else false)
/-- loop.example/g01210/laws.markConsole -/
def p_laws_markConsole (x0 : (List (List Int))) (x1 : Int) (x2 : (List Int)) (x3 : Int) (x4 : Int) (x5 : Int) (x6 : ByteArray) (x7 : ByteArray) (x8 : Int) (x9 : Int) : Int × (List (List Int)) × (List Int) :=
  ((p_laws_markTavern x0 x1 x2 x3 x4 x5 x9).1, (p_laws_markTavern x0 x1 x2 x3 x4 x5 x9).2.1, (p_laws_markTavern x0 x1 x2 x3 x4 x5 x9).2.2)
/-- loop.example/g01210/laws.heldConsole -/
def p_laws_heldConsole (x0 : (((List (List Int)) × (Int × ((List Int) × (Int × (Int × (Int × Unit)))))) × ((ByteArray × (ByteArray × (Int × Unit))) × Unit))) (x1 : Int) : Int :=
  (if (p_laws_heldTavern (x0.1.1, (x0.1.2.1, (x0.1.2.2.1, (x0.1.2.2.2.1, (x0.1.2.2.2.2.1, (x0.1.2.2.2.2.2.1, ())))))) x1) < 0 then (-1) else (p_laws_heldTavern (x0.1.1, (x0.1.2.1, (x0.1.2.2.1, (x0.1.2.2.2.1, (x0.1.2.2.2.2.1, (x0.1.2.2.2.2.2.1, ())))))) x1))
/-- loop.example/g01210/laws.FnExactNewConsole -/
def p_laws_FnExactNewConsole (fu : Nat) (x0 : ((List (List Int)) × (Int × ((List Int) × (Int × (Int × (Int × Unit))))))) : Option (Bool) :=
  (if (p_laws_szTavern (x0.1, (x0.2.1, (x0.2.2.1, (x0.2.2.2.1, (x0.2.2.2.2.1, (x0.2.2.2.2.2.1, ())))))) 1048576) < 0 then some true else (p_laws_toTavern (x0.1, (x0.2.1, (x0.2.2.1, (x0.2.2.2.1, (x0.2.2.2.2.1, (x0.2.2.2.2.2.1, ()))))))).bind (fun r4 => (p_spec_NewConsole (r4.1, (r4.2.1, (r4.2.2.1, (r4.2.2.2.1, (r4.2.2.2.2.1, (r4.2.2.2.2.2.1, ()))))))).bind (fun r7 => (p_laws_toTavern (x0.1, (x0.2.1, (x0.2.2.1, (x0.2.2.2.1, (x0.2.2.2.2.1, (x0.2.2.2.2.2.1, ()))))))).bind (fun r10 => (p_impl_NewConsole fu (r10.1, (r10.2.1, (r10.2.2.1, (r10.2.2.2.1, (r10.2.2.2.2.1, (r10.2.2.2.2.2.1, ()))))))).bind (fun r13 => (if ((!(p_laws_eqConsole ((r13.1.1.1, (r13.1.1.2.1, (r13.1.1.2.2.1, (r13.1.1.2.2.2.1, (r13.1.1.2.2.2.2.1, (r13.1.1.2.2.2.2.2.1, ())))))), ((r13.1.2.1.1, (r13.1.2.1.2.1, (r13.1.2.1.2.2.1, ()))), ())) ((r7.1.1.1, (r7.1.1.2.1, (r7.1.1.2.2.1, (r7.1.1.2.2.2.1, (r7.1.1.2.2.2.2.1, (r7.1.1.2.2.2.2.2.1, ())))))), ((r7.1.2.1.1, (r7.1.2.1.2.1, (r7.1.2.1.2.2.1, ()))), ())))) || (r13.2 != r7.2)) = true then some false else (p_laws_toTavern (x0.1, (x0.2.1, (x0.2.2.1, (x0.2.2.2.1, (x0.2.2.2.2.1, (x0.2.2.2.2.2.1, ()))))))).bind (fun r22 => (if (p_laws_eqTavern (r10.1, (r10.2.1, (r10.2.2.1, (r10.2.2.2.1, (r10.2.2.2.2.1, (r10.2.2.2.2.2.1, ())))))) (r22.1, (r22.2.1, (r22.2.2.1, (r22.2.2.2.1, (r22.2.2.2.2.1, (r22.2.2.2.2.2.1, ()))))))) = true then (if (((decide ((p_laws_markTavern r10.1 r10.2.1 r10.2.2.1 r10.2.2.2.1 r10.2.2.2.2.1 r10.2.2.2.2.2.1 1).1 < 0)) || (!(p_laws_eqConsole ((r13.1.1.1, (r13.1.1.2.1, (r13.1.1.2.2.1, (r13.1.1.2.2.2.1, (r13.1.1.2.2.2.2.1, (r13.1.1.2.2.2.2.2.1, ())))))), ((r13.1.2.1.1, (r13.1.2.1.2.1, (r13.1.2.1.2.2.1, ()))), ())) ((r7.1.1.1, (r7.1.1.2.1, (r7.1.1.2.2.1, (r7.1.1.2.2.2.1, (r7.1.1.2.2.2.2.1, (r7.1.1.2.2.2.2.2.1, ())))))), ((r7.1.2.1.1, (r7.1.2.1.2.1, (r7.1.2.1.2.2.1, ()))), ()))))) || (r13.2 != r7.2)) = true then some false else (if (p_laws_heldConsole (((p_laws_markConsole r13.1.1.1 r13.1.1.2.1 r13.1.1.2.2.1 r13.1.1.2.2.2.1 r13.1.1.2.2.2.2.1 r13.1.1.2.2.2.2.2.1 r13.1.2.1.1 r13.1.2.1.2.1 r13.1.2.1.2.2.1 1).2.1, (r13.1.1.2.1, ((p_laws_markConsole r13.1.1.1 r13.1.1.2.1 r13.1.1.2.2.1 r13.1.1.2.2.2.1 r13.1.1.2.2.2.2.1 r13.1.1.2.2.2.2.2.1 r13.1.2.1.1 r13.1.2.1.2.1 r13.1.2.1.2.2.1 1).2.2, (r13.1.1.2.2.2.1, (r13.1.1.2.2.2.2.1, (r13.1.1.2.2.2.2.2.1, ())))))), ((r13.1.2.1.1, (r13.1.2.1.2.1, (r13.1.2.1.2.2.1, ()))), ())) 1) < 0 then some false else (if (p_laws_heldConsole (((p_laws_markConsole r13.1.1.1 r13.1.1.2.1 r13.1.1.2.2.1 r13.1.1.2.2.2.1 r13.1.1.2.2.2.2.1 r13.1.1.2.2.2.2.2.1 r13.1.2.1.1 r13.1.2.1.2.1 r13.1.2.1.2.2.1 1).2.1, (r13.1.1.2.1, ((p_laws_markConsole r13.1.1.1 r13.1.1.2.1 r13.1.1.2.2.1 r13.1.1.2.2.2.1 r13.1.1.2.2.2.2.1 r13.1.1.2.2.2.2.2.1 r13.1.2.1.1 r13.1.2.1.2.1 r13.1.2.1.2.2.1 1).2.2, (r13.1.1.2.2.2.1, (r13.1.1.2.2.2.2.1, (r13.1.1.2.2.2.2.2.1, ())))))), ((r13.1.2.1.1, (r13.1.2.1.2.1, (r13.1.2.1.2.2.1, ()))), ())) 1) = (p_laws_markConsole r13.1.1.1 r13.1.1.2.1 r13.1.1.2.2.1 r13.1.1.2.2.2.1 r13.1.1.2.2.2.2.1 r13.1.1.2.2.2.2.2.1 r13.1.2.1.1 r13.1.2.1.2.1 r13.1.2.1.2.2.1 1).1 then (p_laws_toTavern (x0.1, (x0.2.1, (x0.2.2.1, (x0.2.2.2.1, (x0.2.2.2.2.1, (x0.2.2.2.2.2.1, ()))))))).bind (fun r58 => (p_impl_NewConsole fu (r58.1, (r58.2.1, (r58.2.2.1, (r58.2.2.2.1, (r58.2.2.2.2.1, (r58.2.2.2.2.2.1, ()))))))).bind (fun r61 => (if ((!(p_laws_eqConsole ((r61.1.1.1, (r61.1.1.2.1, (r61.1.1.2.2.1, (r61.1.1.2.2.2.1, (r61.1.1.2.2.2.2.1, (r61.1.1.2.2.2.2.2.1, ())))))), ((r61.1.2.1.1, (r61.1.2.1.2.1, (r61.1.2.1.2.2.1, ()))), ())) ((r7.1.1.1, (r7.1.1.2.1, (r7.1.1.2.2.1, (r7.1.1.2.2.2.1, (r7.1.1.2.2.2.2.1, (r7.1.1.2.2.2.2.2.1, ())))))), ((r7.1.2.1.1, (r7.1.2.1.2.1, (r7.1.2.1.2.2.1, ()))), ())))) || (r61.2 != r7.2)) = true then some false else (if (p_laws_heldConsole (((p_laws_markConsole r13.1.1.1 r13.1.1.2.1 r13.1.1.2.2.1 r13.1.1.2.2.2.1 r13.1.1.2.2.2.2.1 r13.1.1.2.2.2.2.2.1 r13.1.2.1.1 r13.1.2.1.2.1 r13.1.2.1.2.2.1 1).2.1, (r13.1.1.2.1, ((p_laws_markConsole r13.1.1.1 r13.1.1.2.1 r13.1.1.2.2.1 r13.1.1.2.2.2.1 r13.1.1.2.2.2.2.1 r13.1.1.2.2.2.2.2.1 r13.1.2.1.1 r13.1.2.1.2.1 r13.1.2.1.2.2.1 1).2.2, (r13.1.1.2.2.2.1, (r13.1.1.2.2.2.2.1, (r13.1.1.2.2.2.2.2.1, ())))))), ((r13.1.2.1.1, (r13.1.2.1.2.1, (r13.1.2.1.2.2.1, ()))), ())) 1) < 0 then some false else (if (p_laws_heldConsole (((p_laws_markConsole r13.1.1.1 r13.1.1.2.1 r13.1.1.2.2.1 r13.1.1.2.2.2.1 r13.1.1.2.2.2.2.1 r13.1.1.2.2.2.2.2.1 r13.1.2.1.1 r13.1.2.1.2.1 r13.1.2.1.2.2.1 1).2.1, (r13.1.1.2.1, ((p_laws_markConsole r13.1.1.1 r13.1.1.2.1 r13.1.1.2.2.1 r13.1.1.2.2.2.1 r13.1.1.2.2.2.2.1 r13.1.1.2.2.2.2.2.1 r13.1.2.1.1 r13.1.2.1.2.1 r13.1.2.1.2.2.1 1).2.2, (r13.1.1.2.2.2.1, (r13.1.1.2.2.2.2.1, (r13.1.1.2.2.2.2.2.1, ())))))), ((r13.1.2.1.1, (r13.1.2.1.2.1, (r13.1.2.1.2.2.1, ()))), ())) 1) = (p_laws_markConsole r13.1.1.1 r13.1.1.2.1 r13.1.1.2.2.1 r13.1.1.2.2.2.1 r13.1.1.2.2.2.2.1 r13.1.1.2.2.2.2.2.1 r13.1.2.1.1 r13.1.2.1.2.1 r13.1.2.1.2.2.1 1).1 then some true else some false))))) else some false))) else some false))))))))
end Go.GA
