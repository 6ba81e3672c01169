/- Walks: what the Go functions compute, by the printed lines below; no further conditions. -/
import Derived.Test.YtogkhlpljkelpaaGaD
namespace Go.GA
open Go
set_option maxRecDepth 100000
set_option maxHeartbeats 2000000
set_option linter.unusedVariables false
set_option linter.unusedSimpArgs false
abbrev ty1 : Ty := (.slice (.int .i64))
/-- loop.example/g01210/laws.toIntA6 -/
def p_laws_toIntA6 (x0 : (List Int)) : (List Int) :=
  cnt (fun i2 (s1 : (List Int)) c3 _ => c3 (s1.set i2.toNat (x0.getD i2.toNat 0))) (fun i2 (s1 : (List Int)) => s1) (Int.toNat (6 - 0)) 0 (List.replicate 6 0)
/-- loop.example/g01210/spec.l1In -/
def p_spec_l1In (x0 : Int) (x1 : Int) (x2 : Int) : Bool :=
  ((decide (x1 ≤ x0)) && (decide (x0 ≤ x2)))
/-- loop.example/g01210/spec.l2Die -/
def p_spec_l2Die (x0 : (List Int)) : Option (Bool) :=
  cnt (fun i2 (s1 : Unit) c3 _ => (if ((!(p_spec_l1In (x0.getD i2.toNat 0) 0 30)) || ((decide (0 < i2)) && (decide ((x0.getD i2.toNat 0) < (x0.getD (i2 - 1).toNat 0))))) = true then some false else c3 ())) (fun i2 (s1 : Unit) => some true) (Int.toNat (6 - 0)) 0 ()
/-- loop.example/g01210/spec.l11Tested -/
def p_spec_l11Tested (x0 : (List Int)) (x1 : Int) : Option (Bool) :=
  (p_spec_l2Die x0).bind (fun r1 => some (r1 && (p_spec_l1In x1 0 8)))
/-- loop.example/g01210/spec.l1Put -/
def p_spec_l1Put (x0 : (List Int)) (x1 : Int) : Option ((List Int)) :=
  cnt (fun i2 (s1 : Unit) c3 k42 => (if ((decide (i2 < (x0.length : Int))) && (decide ((x0.getD i2.toNat 0) < x1))) = true then c3 () else k42 i2 s1)) (fun i2 (s1 : Unit) => (if ((decide (i2 < (x0.length : Int))) && (decide ((x0.getD i2.toNat 0) = x1))) = true then some x0 else if 0 + (i2 - 0) ≤ 1000000000 then if (0 + (i2 - 0)) + 1 ≤ 1000000000 then if ((0 + (i2 - 0)) + 1) + ((x0.length : Int) - i2) ≤ 1000000000 then some ((([] ++ ((x0.drop 0).take (i2 - 0).toNat)) ++ [x1]) ++ ((x0.drop i2.toNat).take ((x0.length : Int) - i2).toNat)) else none else none else none)) (Int.toNat ((x0.length : Int) - 0)) 0 ()
/-- loop.example/g01210/spec.l8Numbers -/
def p_spec_l8Numbers (x0 : (List Int)) : Option ((List Int)) :=
  cnt (fun i2 (s1 : (List Int)) c3 _ => (p_spec_l1Put s1 (x0.getD i2.toNat 0)).bind (fun r8 => c3 r8)) (fun i2 (s1 : (List Int)) => some s1) (Int.toNat (6 - 0)) 0 []
/-- loop.example/g01210/spec.l11Vectors -/
def p_spec_l11Vectors : Nat → Int → Int → Option ((List (List Int)))
  | 0, _, _ => none
  | fu + 1, x0, x1 => (if x0 = 1 then some [[x1]] else whl (fun (s4 : Int × (List (List Int))) c6 => (if s4.1 ≤ x1 then (p_spec_l11Vectors fu (IntKind.wrap .i64 (x0 - 1)) (IntKind.wrap .i64 (x1 - s4.1))).bind (fun r11 => cnt (fun i14 (s13 : (List (List Int))) c15 _ => if 1 + ((r11.getD i14.toNat []).length : Int) ≤ 1000000000 then if (s13.length : Int) + 1 ≤ 1000000000 then c15 (s13 ++ [([s4.1] ++ (r11.getD i14.toNat []))]) else none else none) (fun i14 (s13 : (List (List Int))) => c6 ((IntKind.wrap .i64 (s4.1 + 1)), s13)) (Int.toNat ((r11.length : Int) - 0)) 0 s4.2) else some s4.2)) fu (0, []))
/-- loop.example/g01210/spec.l8Weight -/
def p_spec_l8Weight (x0 : (List Int)) (x1 : Int) : Int :=
  cnt (fun i2 (s1 : Int) c3 _ => (if (x0.getD i2.toNat 0) = x1 then c3 (IntKind.wrap .i64 (s1 + 1)) else c3 s1)) (fun i2 (s1 : Int) => s1) (Int.toNat (6 - 0)) 0 0
/-- loop.example/g01210/spec.l8Power -/
def p_spec_l8Power (fu : Nat) (x0 : Int) (x1 : Int) : Option (Int) :=
  whl (fun (s1 : Int × Int) c3 => (if s1.2 < x1 then c3 ((IntKind.wrap .i64 (s1.1 * x0)), (IntKind.wrap .i64 (s1.2 + 1))) else some s1.1)) fu (1, 0)
/-- loop.example/g01210/spec.l11Ways -/
def p_spec_l11Ways (fu : Nat) (x0 : (List Int)) (x1 : (List Int)) : Option (Int) :=
  (p_spec_l8Numbers x0).bind (fun r1 => cnt (fun i4 (s3 : Int) c5 _ => if i4 < (r1.length : Int) then (p_spec_l8Power fu (p_spec_l8Weight x0 (r1.getD i4.toNat 0)) (x1.getD i4.toNat 0)).bind (fun r11 => c5 (IntKind.wrap .i64 (s3 * r11))) else none) (fun i4 (s3 : Int) => some s3) (Int.toNat ((x1.length : Int) - 0)) 0 1)
/-- loop.example/g01210/spec.l11Orders -/
def p_spec_l11Orders (fu : Nat) (x0 : (List Int)) : Option (Int) :=
  cnt (fun i2 (s1 : Int × Int) c3 _ => whl (fun (s8 : Int × Int × Int) c10 => (if s8.2.2 ≤ (x0.getD i2.toNat 0) then if s8.2.2 ≠ 0 then c10 ((IntKind.wrap .i64 ((IntKind.wrap .i64 (s8.1 * (IntKind.wrap .i64 (s8.2.1 + 1)))).tdiv s8.2.2)), (IntKind.wrap .i64 (s8.2.1 + 1)), (IntKind.wrap .i64 (s8.2.2 + 1))) else none else c3 (s8.1, s8.2.1))) fu (s1.1, s1.2, 1)) (fun i2 (s1 : Int × Int) => some s1.1) (Int.toNat ((x0.length : Int) - 0)) 0 (1, 0)
/-- loop.example/g01210/spec.l11Chance -/
def p_spec_l11Chance (fu : Nat) (x0 : (List Int)) (x1 : (List Int)) : Option (Int) :=
  (p_spec_l11Ways fu x0 x1).bind (fun r1 => (p_spec_l11Orders fu x1).bind (fun r2 => some (IntKind.wrap .i64 (r1 * r2))))
/-- loop.example/g01210/spec.FirstMode -/
def p_spec_FirstMode (fu : Nat) (x0 : (List Int)) (x1 : Int) : Option ((List Int) × Bool) :=
  (p_spec_l11Tested x0 x1).bind (fun r1 => (if r1 = true then (p_spec_l8Numbers x0).bind (fun r3 => (p_spec_l11Vectors fu (r3.length : Int) x1).bind (fun r5 => if 0 < (r5.length : Int) then cnt (fun i9 (s8 : (List Int)) c10 _ => (p_spec_l11Chance fu x0 (r5.getD i9.toNat [])).bind (fun r15 => (p_spec_l11Chance fu x0 s8).bind (fun r16 => (if r16 < r15 then c10 (r5.getD i9.toNat []) else c10 s8)))) (fun i9 (s8 : (List Int)) => some (s8, true)) (Int.toNat ((r5.length : Int) - 1)) 1 (r5.getD 0 []) else none)) else some ([], false)))
/-- loop.example/g01210/impl.within -/
def p_impl_within (x0 : Int) (x1 : Int) (x2 : Int) : Bool :=
  ((decide (x1 ≤ x0)) && (decide (x0 ≤ x2)))
/-- loop.example/g01210/impl.isFace -/
def p_impl_isFace (x0 : Int) : Bool :=
  (p_impl_within x0 0 30)
/-- loop.example/g01210/impl.areAll[int]$1 -/
def p_impl_areAll_int_1 (x0 : Int) : Bool :=
  (!(p_impl_isFace x0))
/-- slices.IndexFunc[[]int,int] -/
def p_slices_IndexFunc_int_int (x0 : (List Int)) : Int :=
  cnt (fun i2 (s1 : Unit) c3 _ => (if (p_impl_areAll_int_1 (x0.getD i2.toNat 0)) = true then i2 else c3 ())) (fun i2 (s1 : Unit) => (-1)) (Int.toNat ((x0.length : Int) - 0)) 0 ()
/-- slices.ContainsFunc[[]int,int] -/
def p_slices_ContainsFunc_int_int (x0 : (List Int)) : Bool :=
  (decide (0 ≤ (p_slices_IndexFunc_int_int x0)))
/-- loop.example/g01210/impl.areAll[int] -/
def p_impl_areAll_int (x0 : (List Int)) : Bool :=
  (!(p_slices_ContainsFunc_int_int x0))
/-- cmp.isNaN[int] -/
def p_cmp_isNaN_int (x0 : Int) : Bool :=
  (!(decide (x0 = x0)))
/-- cmp.Less[int] -/
def p_cmp_Less_int (x0 : Int) (x1 : Int) : Bool :=
  (((p_cmp_isNaN_int x0) && (!(p_cmp_isNaN_int x1))) || (decide (x0 < x1)))
/-- slices.IsSorted[[]int,int] -/
def p_slices_IsSorted_int_int (x0 : (List Int)) : Bool :=
  cntd (fun i2 (s1 : Unit) c3 _ => (if (p_cmp_Less_int (x0.getD i2.toNat 0) (x0.getD (i2 - 1).toNat 0)) = true then false else c3 ())) (fun i2 (s1 : Unit) => true) (Int.toNat (((x0.length : Int) - 1) - 0)) ((x0.length : Int) - 1) ()
/-- loop.example/g01210/impl.IsDie -/
def p_impl_IsDie (x0 : (List Int)) : Bool :=
  ((p_impl_areAll_int x0) && (p_slices_IsSorted_int_int x0))
/-- loop.example/g01210/impl.isTested -/
def p_impl_isTested (x0 : Int) : Bool :=
  (p_impl_within x0 0 8)
/-- slices.Clone[[]int,int] -/
def p_slices_Clone_int_int (x0 : (List Int)) : Option ((List Int)) :=
  if 0 + (x0.length : Int) ≤ 1000000000 then some ([] ++ x0) else none
/-- slices.Compact[[]int,int] -/
def p_slices_Compact_int_int (x0 : (List Int)) : Option ((List Int)) :=
  (if (x0.length : Int) < 2 then some x0 else cnt (fun i5 (s4 : Unit) c6 _ => (if (x0.getD i5.toNat 0) = (x0.getD (i5 - 1).toNat 0) then cnt (fun i15 (s14 : Int × (List Int)) c16 _ => (if (s14.2.getD (i5.toNat + i15.toNat) 0) = (s14.2.getD (i5.toNat + (i15 - 1).toNat) 0) then c16 (s14.1, s14.2) else if s14.1 < (x0.length : Int) then c16 ((s14.1 + 1), (s14.2.set s14.1.toNat (s14.2.getD (i5.toNat + i15.toNat) 0))) else none)) (fun i15 (s14 : Int × (List Int)) => if s14.1 ≤ (x0.length : Int) then some ((s14.2.take s14.1.toNat ++ (List.replicate ((s14.2.length : Int) - s14.1).toNat 0 ++ s14.2.drop (s14.1.toNat + ((s14.2.length : Int) - s14.1).toNat))).take s14.1.toNat) else none) (Int.toNat (((((x0.length : Int) - i5).toNat : Nat) : Int) - 1)) 1 (i5, x0) else c6 ())) (fun i5 (s4 : Unit) => some x0) (Int.toNat ((x0.length : Int) - 1)) 1 ())
/-- loop.example/g01210/impl.numbers -/
def p_impl_numbers (x0 : (List Int)) : Option ((List Int)) :=
  (p_slices_Clone_int_int x0).bind (fun r1 => (p_slices_Compact_int_int r1).bind (fun r3 => some r3))
/-- loop.example/g01210/impl.vectors -/
def p_impl_vectors : Nat → Int → Int → Option ((List (List Int)))
  | 0, _, _ => none
  | fu + 1, x0, x1 => (if x0 = 1 then some [[x1]] else whl (fun (s4 : Int × (List (List Int))) c6 => (if s4.1 < (IntKind.wrap .i64 (x1 + 1)) then (p_impl_vectors fu (IntKind.wrap .i64 (x0 - 1)) (IntKind.wrap .i64 (x1 - s4.1))).bind (fun r11 => cnt (fun i14 (s13 : (List (List Int))) c15 _ => if 1 + ((r11.getD i14.toNat []).length : Int) ≤ 1000000000 then if (s13.length : Int) + 1 ≤ 1000000000 then c15 (s13 ++ [([s4.1] ++ (r11.getD i14.toNat []))]) else none else none) (fun i14 (s13 : (List (List Int))) => c6 ((IntKind.wrap .i64 (s4.1 + 1)), s13)) (Int.toNat ((r11.length : Int) - 0)) 0 s4.2) else some s4.2)) fu (0, []))
/-- loop.example/g01210/impl.arrangements -/
def p_impl_arrangements (fu : Nat) (x0 : (List Int)) : Option (Int) :=
  cnt (fun i2 (s1 : Int × Int) c3 _ => whl (fun (s8 : Int × Int × Int) c10 => (if s8.2.2 ≤ (x0.getD i2.toNat 0) then if s8.2.2 ≠ 0 then c10 ((IntKind.wrap .i64 ((IntKind.wrap .i64 (s8.1 * (IntKind.wrap .i64 (s8.2.1 + 1)))).tdiv s8.2.2)), (IntKind.wrap .i64 (s8.2.1 + 1)), (IntKind.wrap .i64 (s8.2.2 + 1))) else none else c3 (s8.1, s8.2.1))) fu (s1.1, s1.2, 1)) (fun i2 (s1 : Int × Int) => some s1.1) (Int.toNat ((x0.length : Int) - 0)) 0 (1, 0)
/-- loop.example/g01210/impl.truth -/
def p_impl_truth (x0 : Bool) : Int :=
  (if x0 = true then 1 else 0)
/-- loop.example/g01210/impl.weight -/
def p_impl_weight (x0 : (List Int)) (x1 : Int) : Int :=
  cnt (fun i2 (s1 : Int) c3 _ => c3 (IntKind.wrap .i64 (s1 + (p_impl_truth (decide ((x0.getD i2.toNat 0) = x1)))))) (fun i2 (s1 : Int) => s1) (Int.toNat (6 - 0)) 0 0
/-- loop.example/g01210/impl.raised -/
def p_impl_raised (fu : Nat) (x0 : Int) (x1 : Int) : Option (Int) :=
  whl (fun (s1 : Int × Int) c3 => (if s1.2 < x1 then c3 ((IntKind.wrap .i64 (s1.1 * x0)), (IntKind.wrap .i64 (s1.2 + 1))) else some s1.1)) fu (1, 0)
/-- loop.example/g01210/impl.likelihood -/
def p_impl_likelihood (fu : Nat) (x0 : (List Int)) (x1 : (List Int)) : Option (Int) :=
  (p_impl_numbers x0).bind (fun r1 => cnt (fun i4 (s3 : Int) c5 _ => if i4 < (x1.length : Int) then (p_impl_raised fu (p_impl_weight x0 (r1.getD i4.toNat 0)) (x1.getD i4.toNat 0)).bind (fun r11 => c5 (IntKind.wrap .i64 (s3 * r11))) else none) (fun i4 (s3 : Int) => some s3) (Int.toNat ((r1.length : Int) - 0)) 0 1)
/-- loop.example/g01210/impl.chance -/
def p_impl_chance (fu : Nat) (x0 : (List Int)) (x1 : (List Int)) : Option (Int) :=
  (p_impl_arrangements fu x1).bind (fun r1 => (p_impl_likelihood fu x0 x1).bind (fun r2 => some (IntKind.wrap .i64 (r1 * r2))))
/-- loop.example/g01210/impl.FirstMode -/
def p_impl_FirstMode (fu : Nat) (x0 : (List Int)) (x1 : Int) : Option ((List Int) × Bool) :=
  (if ((!(p_impl_IsDie x0)) || (!(p_impl_isTested x1))) = true then some ([], false) else (p_impl_numbers x0).bind (fun r7 => (p_impl_vectors fu (r7.length : Int) x1).bind (fun r9 => (if 0 < (r9.length : Int) then if ((!true) = true → (p_impl_chance fu x0 (r9.getD 0 [])).isSome = true) then if ((!true) = true → (p_impl_chance fu x0 []).isSome = true) then cnt (fun i24 (s23 : (List Int)) c25 _ => if 0 < (s23.length : Int) then if ((!false) = true → (p_impl_chance fu x0 (r9.getD i24.toNat [])).isSome = true) then if ((!false) = true → (p_impl_chance fu x0 s23).isSome = true) then (if (false || (decide (((p_impl_chance fu x0 s23).getD 0) < ((p_impl_chance fu x0 (r9.getD i24.toNat [])).getD 0)))) = true then c25 (r9.getD i24.toNat []) else c25 s23) else none else none else none) (fun i24 (s23 : (List Int)) => some (s23, true)) (Int.toNat ((r9.length : Int) - (0 + 1))) (0 + 1) (r9.getD 0 []) else none else none else some ([], true)))))
/-- loop.example/g01210/laws.eqIntS -/
def p_laws_eqIntS (x0 : (List Int)) (x1 : (List Int)) : Bool :=
  (if (x0.length : Int) = (x1.length : Int) then cnt (fun i5 (s4 : Unit) c6 _ => (if (x0.getD i5.toNat 0) = (x1.getD i5.toNat 0) then c6 () else false)) (fun i5 (s4 : Unit) => true) (Int.toNat ((x0.length : Int) - 0)) 0 () else false)
/-- loop.example/g01210/laws.heldIntS -/
def p_laws_heldIntS (x0 : (List Int)) (x1 : Int) : Int :=
  cnt (fun i2 (s1 : Int) c3 _ => (if (x0.getD i2.toNat 0) = s1 then c3 (IntKind.wrap .i64 (s1 + 1)) else (-1))) (fun i2 (s1 : Int) => s1) (Int.toNat ((x0.length : Int) - 0)) 0 x1
/-- loop.example/g01210/laws.FnExactFirstMode -/
def p_laws_FnExactFirstMode (fu : Nat) (x0 : (List Int)) (x1 : Int) : Option (Bool) :=
  (p_spec_FirstMode fu (p_laws_toIntA6 x0) x1).bind (fun r1 => (p_impl_FirstMode fu (p_laws_toIntA6 x0) x1).bind (fun r2 => (if ((!(p_laws_eqIntS r2.1 r1.1)) || (r2.2 != r1.2)) = true then some false else (if (p_laws_heldIntS (marks1 (r2.1).length 1) 1) < 0 then some false else (if (p_laws_heldIntS (marks1 (r2.1).length 1) 1) = (1 + ((r2.1).length : Int)) then (p_impl_FirstMode fu (p_laws_toIntA6 x0) x1).bind (fun r15 => (if ((!(p_laws_eqIntS r15.1 r1.1)) || (r15.2 != r1.2)) = true then some false else (if (p_laws_heldIntS (marks1 (r2.1).length 1) 1) < 0 then some false else (if (p_laws_heldIntS (marks1 (r2.1).length 1) 1) = (1 + ((r2.1).length : Int)) then some true else some false)))) else some false)))))
end Go.GA
