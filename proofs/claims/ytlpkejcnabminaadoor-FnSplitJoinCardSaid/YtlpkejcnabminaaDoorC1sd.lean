/- Walks: what the Go functions compute, by the printed lines below; no further conditions. -/
import Derived.Test.YtlpkejcnabminaaDoorGaD
namespace Go.GA
open Go
set_option maxRecDepth 100000
set_option maxHeartbeats 2000000
set_option linter.unusedVariables false
set_option linter.unusedSimpArgs false
/-- loop.example/g01210/laws.vBig -/
def p_laws_vBig (x0 : (List Int)) : Bool :=
  (decide (65536 < (x0.length : Int)))
/-- (*loop.example/g01210/spec.l1Cur).next -/
def p_spec_l1Cur_next (x0 : (List Int)) (x1 : Int) (x2 : Int) : Option (Int × Int × Int) :=
  jn (fun (s1 : Int) => (if (IntKind.wrap .i64 (x1 + 1)) ≤ (x0.length : Int) then some (s1, (IntKind.wrap .i64 (x1 + 1)), (IntKind.wrap .u64 ((IntKind.wrap .u64 ((IntKind.wrap .u64 (x2 * 6364136223846793005)) + (IntKind.wrap .u64 s1))) + 462197))) else some ((IntKind.wrap .i64 (andI .u64 (shrI .u64 (IntKind.wrap .u64 ((IntKind.wrap .u64 ((IntKind.wrap .u64 (x2 * 6364136223846793005)) + (IntKind.wrap .u64 s1))) + 462197)) 40) 255)), (IntKind.wrap .i64 (x1 + 1)), (IntKind.wrap .u64 ((IntKind.wrap .u64 ((IntKind.wrap .u64 (x2 * 6364136223846793005)) + (IntKind.wrap .u64 s1))) + 462197))))) (fun k2 => (if x1 < (x0.length : Int) then if 0 ≤ x1 then k2 (IntKind.wrap .i64 (x0.getD x1.toNat 0)) else none else k2 0))
/-- (*loop.example/g01210/spec.l1Cur).pick -/
def p_spec_l1Cur_pick (x0 : Int) (x1 : (List Int)) (x2 : Int) (x3 : Int) : Option (Int × Int × Int) :=
  (if x0 ≤ 1 then some (0, x2, x3) else (p_spec_l1Cur_next x1 x2 x3).bind (fun r4 => (if 200 < x0 then (p_spec_l1Cur_next x1 r4.2.1 r4.2.2).bind (fun r8 => some (((IntKind.wrap .i64 ((IntKind.wrap .i64 (r4.1 * 256)) + r8.1)).tmod x0), r8.2.1, r8.2.2)) else some ((r4.1.tmod x0), r4.2.1, r4.2.2))))
/-- (*loop.example/g01210/spec.l1Cur).of -/
def p_spec_l1Cur_of (x0 : (List ByteArray)) (x1 : (List Int)) (x2 : Int) (x3 : Int) : Option (ByteArray × Int × Int) :=
  (p_spec_l1Cur_pick (x0.length : Int) x1 x2 x3).bind (fun r1 => if 0 ≤ r1.1 then if r1.1 < (x0.length : Int) then some ((x0.getD r1.1.toNat ByteArray.empty), r1.2.1, r1.2.2) else none else none)
/-- (*loop.example/g01210/spec.l1Cur).any1 -/
def p_spec_l1Cur_any1 (x0 : (List Int)) (x1 : Int) (x2 : Int) : Option (ByteArray × Int × Int) :=
  (p_spec_l1Cur_of [(ByteArray.mk #[]), (ByteArray.mk #[97]), (ByteArray.mk #[97, 44, 98]), (ByteArray.mk #[115, 111, 109, 101, 32, 119, 111, 114, 100, 115]), (ByteArray.mk #[120, 35, 121]), (ByteArray.mk #[45, 49, 50]), (ByteArray.mk #[0, 255]), (ByteArray.mk #[44, 44]), (ByteArray.mk #[48])] x0 x1 x2).bind (fun r1 => some (r1.1, r1.2.1, r1.2.2))
/-- loop.example/g01210/spec.DrawSplitString -/
def p_spec_DrawSplitString (x0 : (List Int)) : Option (ByteArray × ByteArray) :=
  (p_spec_l1Cur_any1 x0 0 0).bind (fun r1 => (p_spec_l1Cur_of [(ByteArray.mk #[44]), (ByteArray.mk #[44]), (ByteArray.mk #[32]), (ByteArray.mk #[]), (ByteArray.mk #[44, 44])] x0 r1.2.1 r1.2.2).bind (fun r2 => some (r1.1, r2.1)))
/-- loop.example/g01210/impl.SplitString -/
def p_impl_SplitString (x0 : ByteArray) (x1 : ByteArray) : Option ((List ByteArray) × Bool) :=
  if (x0.size : Int) ≤ 9223372036854775807 then if (x1.size : Int) ≤ 9223372036854775807 then (if ((decide (4000 < (x0.size : Int))) || (!(decide ((x1.size : Int) = 1)))) = true then some ([], false) else (p_strings_Split x0 x1).bind (fun r12 => some (r12, true))) else none else none
/-- (*loop.example/g01210/spec.l1Cur).one -/
def p_spec_l1Cur_one (x0 : Int) (x1 : (List Int)) (x2 : Int) (x3 : Int) : Option (Bool × Int × Int) :=
  (p_spec_l1Cur_pick x0 x1 x2 x3).bind (fun r1 => some ((decide (r1.1 = 0)), r1.2.1, r1.2.2))
/-- loop.example/g01210/spec.DrawJoinStrings -/
def p_spec_DrawJoinStrings (fu : Nat) (x0 : (List Int)) : Option ((List ByteArray) × ByteArray) :=
  (p_spec_l1Cur_pick 4 x0 0 0).bind (fun r1 => whl (fun (s2 : Int × Int × Int × (List ByteArray)) c4 => (if s2.1 < r1.1 then (p_spec_l1Cur_any1 x0 s2.2.1 s2.2.2.1).bind (fun r9 => if (s2.2.2.2.length : Int) + 1 ≤ 1000000000 then c4 ((IntKind.wrap .i64 (s2.1 + 1)), r9.2.1, r9.2.2, (s2.2.2.2 ++ [r9.1])) else none) else jn (fun (s11 : Int × Int × (List ByteArray)) => (p_spec_l1Cur_of [(ByteArray.mk #[44]), (ByteArray.mk #[59]), (ByteArray.mk #[59]), (ByteArray.mk #[]), (ByteArray.mk #[97, 98])] x0 s11.1 s11.2.1).bind (fun r14 => some (s11.2.2, r14.1))) (fun k12 => (p_spec_l1Cur_one 20 x0 s2.2.1 s2.2.2.1).bind (fun r15 => (if r15.1 = true then (p_spec_l1Cur_pick 20 x0 r15.2.1 r15.2.2).bind (fun r17 => if 0 ≤ (IntKind.wrap .i64 (3990 + r17.1)) then if (IntKind.wrap .i64 (3990 + r17.1)) ≤ 1000000000 then if (s2.2.2.2.length : Int) + 1 ≤ 1000000000 then k12 (r17.2.1, r17.2.2, (s2.2.2.2 ++ [(bytesB (List.replicate (IntKind.wrap .i64 (3990 + r17.1)).toNat 0))])) else none else none else none) else k12 (r15.2.1, r15.2.2, s2.2.2.2)))))) fu (0, r1.2.1, r1.2.2, []))
/-- loop.example/g01210/impl.JoinStrings$1 -/
def p_impl_JoinStrings_1 (x0 : ByteArray) (x1 : ByteArray) : Option (Bool) :=
  if (x0.size : Int) ≤ 9223372036854775807 then (p_strings_Contains x0 x1).bind (fun r1 => some (!r1)) else none
/-- loop.example/g01210/impl.areAll[string]$1 -/
def p_impl_areAll_string_1 (x0 : ByteArray) (x1 : ByteArray) : Option (Bool) :=
  if (x0.size : Int) ≤ 9223372036854775807 then (p_impl_JoinStrings_1 x0 x1).bind (fun r1 => some (!r1)) else none
/-- slices.IndexFunc[[]string,string] -/
def p_slices_IndexFunc_string_string (x0 : (List ByteArray)) (x1 : ByteArray) : Option (Int) :=
  cnt (fun i2 (s1 : Unit) c3 _ => (p_impl_areAll_string_1 (x0.getD i2.toNat ByteArray.empty) x1).bind (fun r8 => (if r8 = true then some i2 else c3 ()))) (fun i2 (s1 : Unit) => some (-1)) (Int.toNat ((x0.length : Int) - 0)) 0 ()
/-- slices.ContainsFunc[[]string,string] -/
def p_slices_ContainsFunc_string_string (x0 : (List ByteArray)) (x1 : ByteArray) : Option (Bool) :=
  (p_slices_IndexFunc_string_string x0 x1).bind (fun r1 => some (decide (0 ≤ r1)))
/-- loop.example/g01210/impl.areAll[string] -/
def p_impl_areAll_string (x0 : (List ByteArray)) (x1 : ByteArray) : Option (Bool) :=
  (p_slices_ContainsFunc_string_string x0 x1).bind (fun r1 => some (!r1))
/-- loop.example/g01210/impl.JoinStrings -/
def p_impl_JoinStrings (x0 : (List ByteArray)) (x1 : ByteArray) : Option (ByteArray × Bool) :=
  if (x1.size : Int) ≤ 9223372036854775807 then if ((!((decide ((x0.length : Int) = 0)) || (!(decide ((x1.size : Int) = 1))))) = true → (p_impl_areAll_string x0 x1).isSome = true) then (if (((decide ((x0.length : Int) = 0)) || (!(decide ((x1.size : Int) = 1)))) || (!((p_impl_areAll_string x0 x1).getD false))) = true then some ((ByteArray.mk #[]), false) else cnt (fun i36 (s35 : Int) c37 _ => (if 4000 < (IntKind.wrap .i64 (s35 + ((x0.getD i36.toNat ByteArray.empty).size : Int))) then some ((ByteArray.mk #[]), false) else c37 (IntKind.wrap .i64 (s35 + ((x0.getD i36.toNat ByteArray.empty).size : Int))))) (fun i36 (s35 : Int) => (if 4000 < s35 then some ((ByteArray.mk #[]), false) else (p_strings_Join x0 x1).bind (fun r48 => some (r48, true)))) (Int.toNat ((x0.length : Int) - 0)) 0 ((x0.length : Int) - 1)) else none else none
/-- loop.example/g01210/spec.l1Stands -/
def p_spec_l1Stands (x0 : ByteArray) (x1 : Int) : Option (Bool) :=
  if (x0.size : Int) ≤ 9223372036854775807 then cnt (fun i2 (s1 : Unit) c3 _ => (if ((x0.data.toList.getD i2.toNat 0).toNat : Int) = x1 then some true else c3 ())) (fun i2 (s1 : Unit) => some false) (Int.toNat ((x0.size : Int) - 0)) 0 () else none
/-- loop.example/g01210/spec.JoinStrings -/
def p_spec_JoinStrings (x0 : (List ByteArray)) (x1 : ByteArray) : Option (ByteArray × Bool) :=
  if (x1.size : Int) ≤ 9223372036854775807 then (if ((!(decide ((x1.size : Int) = 1))) || (decide ((x0.length : Int) = 0))) = true then some ((ByteArray.mk #[]), false) else cnt (fun i13 (s12 : ByteArray) c14 _ => (p_spec_l1Stands (x0.getD i13.toNat ByteArray.empty) ((x1.data.toList.getD 0 0).toNat : Int)).bind (fun r19 => (if r19 = true then some ((ByteArray.mk #[]), false) else jn (fun (s21 : ByteArray) => if (s21.size : Int) + ((x0.getD i13.toNat ByteArray.empty).size : Int) ≤ 9223372036854775807 then (if 4000 < ((s21 ++ (x0.getD i13.toNat ByteArray.empty)).size : Int) then some ((ByteArray.mk #[]), false) else c14 (s21 ++ (x0.getD i13.toNat ByteArray.empty))) else none) (fun k22 => (if 0 < i13 then if (s12.size : Int) + (x1.size : Int) ≤ 9223372036854775807 then k22 (s12 ++ x1) else none else k22 s12))))) (fun i13 (s12 : ByteArray) => some (s12, true)) (Int.toNat ((x0.length : Int) - 0)) 0 (ByteArray.mk #[])) else none
/-- loop.example/g01210/spec.DrawLessString -/
def p_spec_DrawLessString (x0 : (List Int)) : Option (ByteArray × ByteArray) :=
  (p_spec_l1Cur_any1 x0 0 0).bind (fun r1 => (p_spec_l1Cur_any1 x0 r1.2.1 r1.2.2).bind (fun r2 => some (r1.1, r2.1)))
/-- loop.example/g01210/impl.LessString -/
def p_impl_LessString (x0 : ByteArray) (x1 : ByteArray) : Bool :=
  (Op.bytesLess x0.toList x1.toList)
/-- loop.example/g01210/spec.LessString -/
def p_spec_LessString (x0 : ByteArray) (x1 : ByteArray) : Bool :=
  (Op.bytesLess x0.toList x1.toList)
/-- loop.example/g01210/laws.FnSplitJoin -/
def p_laws_FnSplitJoin (fu : Nat) (x0 : (List Int)) : Option (Bool) :=
  (if (p_laws_vBig x0) = true then some true else (p_spec_DrawSplitString x0).bind (fun r2 => (p_impl_SplitString r2.1 r2.2).bind (fun r3 => (p_spec_DrawJoinStrings fu x0).bind (fun r5 => (p_impl_JoinStrings r5.1 r5.2).bind (fun r7 => (p_spec_JoinStrings r5.1 r5.2).bind (fun r8 => (p_spec_DrawLessString x0).bind (fun r9 => (if ((((!(eqS r7.1 r8.1)) || (r7.2 != r8.2)) || ((p_impl_LessString r9.1 r9.2) != (p_spec_LessString r9.1 r9.2))) || ((p_impl_LessString r9.1 r9.2) && (p_impl_LessString r9.2 r9.1))) = true then some false else (if (r2.2.size : Int) = 1 then (p_impl_JoinStrings r3.1 r2.2).bind (fun r93 => some ((r3.2 && r93.2) && (eqS r93.1 r2.1))) else some ((!r3.2) && (decide ((r3.1.length : Int) = 0))))))))))))
end Go.GA
