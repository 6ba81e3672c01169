/- Walks: what the Go functions compute, by the printed lines below; no further conditions. -/
import Derived.Test.YtogkhlpljkelpaaGaD
namespace Go.GA
open Go
set_option maxRecDepth 100000
set_option maxHeartbeats 2000000
set_option linter.unusedVariables false
set_option linter.unusedSimpArgs false
abbrev ty1 : Ty := (.int .i64)
/-- loop.example/g01210/laws.toIntA6 -/
def p_laws_toIntA6 (x0 : (List Int)) : (List Int) :=
  cnt (fun i2 (s1 : (List Int)) c3 _ => c3 (s1.set i2.toNat (x0.getD i2.toNat 0))) (fun i2 (s1 : (List Int)) => s1) (Int.toNat (6 - 0)) 0 (List.replicate 6 0)
/-- loop.example/g01210/spec.l1In -/
def p_spec_l1In (x0 : Int) (x1 : Int) (x2 : Int) : Bool :=
  ((decide (x1 ≤ x0)) && (decide (x0 ≤ x2)))
/-- loop.example/g01210/spec.l2Die -/
def p_spec_l2Die (x0 : (List Int)) : Option (Bool) :=
  cnt (fun i2 (s1 : Unit) c3 _ => (if ((!(p_spec_l1In (x0.getD i2.toNat 0) 0 30)) || ((decide (0 < i2)) && (decide ((x0.getD i2.toNat 0) < (x0.getD (i2 - 1).toNat 0))))) = true then some false else c3 ())) (fun i2 (s1 : Unit) => some true) (Int.toNat (6 - 0)) 0 ()
/-- loop.example/g01210/spec.l11Tested -/
def p_spec_l11Tested (x0 : (List Int)) (x1 : Int) : Option (Bool) :=
  (p_spec_l2Die x0).bind (fun r1 => some (r1 && (p_spec_l1In x1 0 8)))
/-- loop.example/g01210/spec.l1Put -/
def p_spec_l1Put (x0 : (List Int)) (x1 : Int) : Option ((List Int)) :=
  cnt (fun i2 (s1 : Unit) c3 k42 => (if ((decide (i2 < (x0.length : Int))) && (decide ((x0.getD i2.toNat 0) < x1))) = true then c3 () else k42 i2 s1)) (fun i2 (s1 : Unit) => (if ((decide (i2 < (x0.length : Int))) && (decide ((x0.getD i2.toNat 0) = x1))) = true then some x0 else if 0 + (i2 - 0) ≤ 1000000000 then if (0 + (i2 - 0)) + 1 ≤ 1000000000 then if ((0 + (i2 - 0)) + 1) + ((x0.length : Int) - i2) ≤ 1000000000 then some ((([] ++ ((x0.drop 0).take (i2 - 0).toNat)) ++ [x1]) ++ ((x0.drop i2.toNat).take ((x0.length : Int) - i2).toNat)) else none else none else none)) (Int.toNat ((x0.length : Int) - 0)) 0 ()
/-- loop.example/g01210/spec.l8Numbers -/
def p_spec_l8Numbers (x0 : (List Int)) : Option ((List Int)) :=
  cnt (fun i2 (s1 : (List Int)) c3 _ => (p_spec_l1Put s1 (x0.getD i2.toNat 0)).bind (fun r8 => c3 r8)) (fun i2 (s1 : (List Int)) => some s1) (Int.toNat (6 - 0)) 0 []
/-- loop.example/g01210/spec.l11Vectors -/
def p_spec_l11Vectors : Nat → Int → Int → Option ((List (List Int)))
  | 0, _, _ => none
  | fu + 1, x0, x1 => (if x0 = 1 then some [[x1]] else whl (fun (s4 : Int × (List (List Int))) c6 => (if s4.1 ≤ x1 then (p_spec_l11Vectors fu (IntKind.wrap .i64 (x0 - 1)) (IntKind.wrap .i64 (x1 - s4.1))).bind (fun r11 => cnt (fun i14 (s13 : (List (List Int))) c15 _ => if 1 + ((r11.getD i14.toNat []).length : Int) ≤ 1000000000 then if (s13.length : Int) + 1 ≤ 1000000000 then c15 (s13 ++ [([s4.1] ++ (r11.getD i14.toNat []))]) else none else none) (fun i14 (s13 : (List (List Int))) => c6 ((IntKind.wrap .i64 (s4.1 + 1)), s13)) (Int.toNat ((r11.length : Int) - 0)) 0 s4.2) else some s4.2)) fu (0, []))
/-- loop.example/g01210/spec.CountVectors -/
def p_spec_CountVectors (fu : Nat) (x0 : (List Int)) (x1 : Int) : Option ((List (List Int)) × Bool) :=
  (p_spec_l11Tested x0 x1).bind (fun r1 => (if r1 = true then (p_spec_l8Numbers x0).bind (fun r3 => (p_spec_l11Vectors fu (r3.length : Int) x1).bind (fun r5 => some (r5, true))) else some ([], false)))
/-- loop.example/g01210/impl.within -/
def p_impl_within (x0 : Int) (x1 : Int) (x2 : Int) : Bool :=
  ((decide (x1 ≤ x0)) && (decide (x0 ≤ x2)))
/-- loop.example/g01210/impl.isFace -/
def p_impl_isFace (x0 : Int) : Bool :=
  (p_impl_within x0 0 30)
/-- loop.example/g01210/impl.areAll[int]$1 -/
def p_impl_areAll_int_1 (x0 : Int) : Bool :=
  (!(p_impl_isFace x0))
/-- slices.IndexFunc[[]int,int] -/
def p_slices_IndexFunc_int_int (x0 : (List Int)) : Int :=
  cnt (fun i2 (s1 : Unit) c3 _ => (if (p_impl_areAll_int_1 (x0.getD i2.toNat 0)) = true then i2 else c3 ())) (fun i2 (s1 : Unit) => (-1)) (Int.toNat ((x0.length : Int) - 0)) 0 ()
/-- slices.ContainsFunc[[]int,int] -/
def p_slices_ContainsFunc_int_int (x0 : (List Int)) : Bool :=
  (decide (0 ≤ (p_slices_IndexFunc_int_int x0)))
/-- loop.example/g01210/impl.areAll[int] -/
def p_impl_areAll_int (x0 : (List Int)) : Bool :=
  (!(p_slices_ContainsFunc_int_int x0))
/-- cmp.isNaN[int] -/
def p_cmp_isNaN_int (x0 : Int) : Bool :=
  (!(decide (x0 = x0)))
/-- cmp.Less[int] -/
def p_cmp_Less_int (x0 : Int) (x1 : Int) : Bool :=
  (((p_cmp_isNaN_int x0) && (!(p_cmp_isNaN_int x1))) || (decide (x0 < x1)))
/-- slices.IsSorted[[]int,int] -/
def p_slices_IsSorted_int_int (x0 : (List Int)) : Bool :=
  cntd (fun i2 (s1 : Unit) c3 _ => (if (p_cmp_Less_int (x0.getD i2.toNat 0) (x0.getD (i2 - 1).toNat 0)) = true then false else c3 ())) (fun i2 (s1 : Unit) => true) (Int.toNat (((x0.length : Int) - 1) - 0)) ((x0.length : Int) - 1) ()
/-- loop.example/g01210/impl.IsDie -/
def p_impl_IsDie (x0 : (List Int)) : Bool :=
  ((p_impl_areAll_int x0) && (p_slices_IsSorted_int_int x0))
/-- loop.example/g01210/impl.isTested -/
def p_impl_isTested (x0 : Int) : Bool :=
  (p_impl_within x0 0 8)
/-- slices.Clone[[]int,int] -/
def p_slices_Clone_int_int (x0 : (List Int)) : Option ((List Int)) :=
  if 0 + (x0.length : Int) ≤ 1000000000 then some ([] ++ x0) else none
/-- slices.Compact[[]int,int] -/
def p_slices_Compact_int_int (x0 : (List Int)) : Option ((List Int)) :=
  (if (x0.length : Int) < 2 then some x0 else cnt (fun i5 (s4 : Unit) c6 _ => (if (x0.getD i5.toNat 0) = (x0.getD (i5 - 1).toNat 0) then cnt (fun i15 (s14 : Int × (List Int)) c16 _ => (if (s14.2.getD (i5.toNat + i15.toNat) 0) = (s14.2.getD (i5.toNat + (i15 - 1).toNat) 0) then c16 (s14.1, s14.2) else if s14.1 < (x0.length : Int) then c16 ((s14.1 + 1), (s14.2.set s14.1.toNat (s14.2.getD (i5.toNat + i15.toNat) 0))) else none)) (fun i15 (s14 : Int × (List Int)) => if s14.1 ≤ (x0.length : Int) then some ((s14.2.take s14.1.toNat ++ (List.replicate ((s14.2.length : Int) - s14.1).toNat 0 ++ s14.2.drop (s14.1.toNat + ((s14.2.length : Int) - s14.1).toNat))).take s14.1.toNat) else none) (Int.toNat (((((x0.length : Int) - i5).toNat : Nat) : Int) - 1)) 1 (i5, x0) else c6 ())) (fun i5 (s4 : Unit) => some x0) (Int.toNat ((x0.length : Int) - 1)) 1 ())
/-- loop.example/g01210/impl.numbers -/
def p_impl_numbers (x0 : (List Int)) : Option ((List Int)) :=
  (p_slices_Clone_int_int x0).bind (fun r1 => (p_slices_Compact_int_int r1).bind (fun r3 => some r3))
/-- loop.example/g01210/impl.vectors -/
def p_impl_vectors : Nat → Int → Int → Option ((List (List Int)))
  | 0, _, _ => none
  | fu + 1, x0, x1 => (if x0 = 1 then some [[x1]] else whl (fun (s4 : Int × (List (List Int))) c6 => (if s4.1 < (IntKind.wrap .i64 (x1 + 1)) then (p_impl_vectors fu (IntKind.wrap .i64 (x0 - 1)) (IntKind.wrap .i64 (x1 - s4.1))).bind (fun r11 => cnt (fun i14 (s13 : (List (List Int))) c15 _ => if 1 + ((r11.getD i14.toNat []).length : Int) ≤ 1000000000 then if (s13.length : Int) + 1 ≤ 1000000000 then c15 (s13 ++ [([s4.1] ++ (r11.getD i14.toNat []))]) else none else none) (fun i14 (s13 : (List (List Int))) => c6 ((IntKind.wrap .i64 (s4.1 + 1)), s13)) (Int.toNat ((r11.length : Int) - 0)) 0 s4.2) else some s4.2)) fu (0, []))
/-- loop.example/g01210/impl.CountVectors -/
def p_impl_CountVectors (fu : Nat) (x0 : (List Int)) (x1 : Int) : Option ((List (List Int)) × Bool) :=
  (if ((!(p_impl_IsDie x0)) || (!(p_impl_isTested x1))) = true then some ([], false) else (p_impl_numbers x0).bind (fun r7 => (p_impl_vectors fu (r7.length : Int) x1).bind (fun r9 => some (r9, true))))
/-- loop.example/g01210/laws.eqIntS -/
def p_laws_eqIntS (x0 : (List Int)) (x1 : (List Int)) : Bool :=
  (if (x0.length : Int) = (x1.length : Int) then cnt (fun i5 (s4 : Unit) c6 _ => (if (x0.getD i5.toNat 0) = (x1.getD i5.toNat 0) then c6 () else false)) (fun i5 (s4 : Unit) => true) (Int.toNat ((x0.length : Int) - 0)) 0 () else false)
/-- loop.example/g01210/laws.eqIntSS -/
def p_laws_eqIntSS (x0 : (List (List Int))) (x1 : (List (List Int))) : Bool :=
  (if (x0.length : Int) = (x1.length : Int) then cnt (fun i5 (s4 : Unit) c6 _ => (if (p_laws_eqIntS (x0.getD i5.toNat []) (x1.getD i5.toNat [])) = true then c6 () else false)) (fun i5 (s4 : Unit) => true) (Int.toNat ((x0.length : Int) - 0)) 0 () else false)
/-- loop.example/g01210/laws.heldIntS -/
def p_laws_heldIntS (x0 : (List Int)) (x1 : Int) : Int :=
  cnt (fun i2 (s1 : Int) c3 _ => (if (x0.getD i2.toNat 0) = s1 then c3 (IntKind.wrap .i64 (s1 + 1)) else (-1))) (fun i2 (s1 : Int) => s1) (Int.toNat ((x0.length : Int) - 0)) 0 x1
/-- loop.example/g01210/laws.heldIntSS -/
def p_laws_heldIntSS (x0 : (List (List Int))) (x1 : Int) : Int :=
  cnt (fun i2 (s1 : Int) c3 _ => (if (p_laws_heldIntS (x0.getD i2.toNat []) s1) < 0 then (-1) else c3 (p_laws_heldIntS (x0.getD i2.toNat []) s1))) (fun i2 (s1 : Int) => s1) (Int.toNat ((x0.length : Int) - 0)) 0 x1
/-- loop.example/g01210/laws.FnExactCountVectors -/
def p_laws_FnExactCountVectors (fu : Nat) (x0 : (List Int)) (x1 : Int) : Option (Bool) :=
  (p_spec_CountVectors fu (p_laws_toIntA6 x0) x1).bind (fun r1 => (p_impl_CountVectors fu (p_laws_toIntA6 x0) x1).bind (fun r3 => (if ((!(p_laws_eqIntSS r3.1 r1.1)) || (r3.2 != r1.2)) = true then some false else if (r3.1).length ≤ 1000000000 ∧ total2 r3.1 ≤ 1000000000 then (if (p_laws_heldIntSS (marks2 r3.1 1) 1) < 0 then some false else (if (p_laws_heldIntSS (marks2 r3.1 1) 1) = (1 + total2 r3.1) then (p_impl_CountVectors fu (p_laws_toIntA6 x0) x1).bind (fun r18 => (if ((!(p_laws_eqIntSS r18.1 r1.1)) || (r18.2 != r1.2)) = true then some false else (if (p_laws_heldIntSS (marks2 r3.1 1) 1) < 0 then some false else (if (p_laws_heldIntSS (marks2 r3.1 1) 1) = (1 + total2 r3.1) then some true else some false)))) else some false)) else none)))
end Go.GA
