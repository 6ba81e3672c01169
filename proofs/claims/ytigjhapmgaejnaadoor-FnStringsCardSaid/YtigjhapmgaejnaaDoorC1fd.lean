/- Walks: what the Go functions compute, by the printed lines below; no further conditions. -/
import Derived.Test.YtigjhapmgaejnaaDoorGaD
namespace Go.GA
open Go
set_option maxRecDepth 100000
set_option maxHeartbeats 2000000
set_option linter.unusedVariables false
set_option linter.unusedSimpArgs false
/-- loop.example/g01210/laws.vBig -/
def p_laws_vBig (x0 : (List Int)) : Bool :=
  (decide (65536 < (x0.length : Int)))
/-- (*loop.example/g01210/spec.l1Cur).next -/
def p_spec_l1Cur_next (x0 : (List Int)) (x1 : Int) (x2 : Int) : Option (Int × Int × Int) :=
  jn (fun (s1 : Int) => (if (IntKind.wrap .i64 (x1 + 1)) ≤ (x0.length : Int) then some (s1, (IntKind.wrap .i64 (x1 + 1)), (IntKind.wrap .u64 ((IntKind.wrap .u64 ((IntKind.wrap .u64 (x2 * 6364136223846793005)) + (IntKind.wrap .u64 s1))) + 462197))) else some ((IntKind.wrap .i64 (andI .u64 (shrI .u64 (IntKind.wrap .u64 ((IntKind.wrap .u64 ((IntKind.wrap .u64 (x2 * 6364136223846793005)) + (IntKind.wrap .u64 s1))) + 462197)) 40) 255)), (IntKind.wrap .i64 (x1 + 1)), (IntKind.wrap .u64 ((IntKind.wrap .u64 ((IntKind.wrap .u64 (x2 * 6364136223846793005)) + (IntKind.wrap .u64 s1))) + 462197))))) (fun k2 => (if x1 < (x0.length : Int) then if 0 ≤ x1 then k2 (IntKind.wrap .i64 (x0.getD x1.toNat 0)) else none else k2 0))
/-- (*loop.example/g01210/spec.l1Cur).pick -/
def p_spec_l1Cur_pick (x0 : Int) (x1 : (List Int)) (x2 : Int) (x3 : Int) : Option (Int × Int × Int) :=
  (if x0 ≤ 1 then some (0, x2, x3) else (p_spec_l1Cur_next x1 x2 x3).bind (fun r4 => (if 200 < x0 then (p_spec_l1Cur_next x1 r4.2.1 r4.2.2).bind (fun r8 => some (((IntKind.wrap .i64 ((IntKind.wrap .i64 (r4.1 * 256)) + r8.1)).tmod x0), r8.2.1, r8.2.2)) else some ((r4.1.tmod x0), r4.2.1, r4.2.2))))
/-- (*loop.example/g01210/spec.l1Cur).among -/
def p_spec_l1Cur_among (x0 : (List Int)) (x1 : (List Int)) (x2 : Int) (x3 : Int) : Option (Int × Int × Int) :=
  (p_spec_l1Cur_pick (x0.length : Int) x1 x2 x3).bind (fun r1 => if 0 ≤ r1.1 then if r1.1 < (x0.length : Int) then some ((x0.getD r1.1.toNat 0), r1.2.1, r1.2.2) else none else none)
/-- loop.example/g01210/spec.DrawFormatInt -/
def p_spec_DrawFormatInt (x0 : (List Int)) : Option (Int) :=
  (p_spec_l1Cur_pick 1000 x0 0 0).bind (fun r1 => (p_spec_l1Cur_among [0, 1, (-1), 10, 999999, (-999999), 1000000, (-1000000), (IntKind.wrap .i64 (r1.1 - 500))] x0 r1.2.1 r1.2.2).bind (fun r2 => some r2.1))
/-- loop.example/g01210/impl.within -/
def p_impl_within (x0 : Int) (x1 : Int) (x2 : Int) : Bool :=
  ((decide (x1 ≤ x0)) && (decide (x0 ≤ x2)))
/-- loop.example/g01210/impl.isDecimal -/
def p_impl_isDecimal (x0 : Int) : Bool :=
  (p_impl_within x0 (-999999) 999999)
/-- loop.example/g01210/impl.FormatInt -/
def p_impl_FormatInt (x0 : Int) : Option (ByteArray × Bool) :=
  (if (p_impl_isDecimal x0) = true then (p_strconv_Itoa x0).bind (fun r2 => some (r2, true)) else some ((ByteArray.mk #[]), false))
/-- loop.example/g01210/spec.l1In -/
def p_spec_l1In (x0 : Int) (x1 : Int) (x2 : Int) : Bool :=
  ((decide (x1 ≤ x0)) && (decide (x0 ≤ x2)))
/-- loop.example/g01210/spec.l1Num -/
def p_spec_l1Num : Nat → Int → Option (ByteArray)
  | 0, _ => none
  | fu + 1, x0 => (if x0 < 0 then (if (-10) < x0 then (p_spec_l1Num fu (IntKind.wrap .i64 (0 - x0))).bind (fun r7 => if ((ByteArray.mk #[45]).size : Int) + (r7.size : Int) ≤ 9223372036854775807 then some ((ByteArray.mk #[45]) ++ r7) else none) else (p_spec_l1Num fu (IntKind.wrap .i64 (x0.tdiv 10))).bind (fun r9 => (p_spec_l1Num fu (IntKind.wrap .i64 (0 - (x0.tmod 10)))).bind (fun r10 => if (r9.size : Int) + (r10.size : Int) ≤ 9223372036854775807 then some (r9 ++ r10) else none))) else (if x0 < 10 then if (x0 + 1) ≤ ((ByteArray.mk #[48, 49, 50, 51, 52, 53, 54, 55, 56, 57]).size : Int) then some ((ByteArray.mk #[48, 49, 50, 51, 52, 53, 54, 55, 56, 57]).extract x0.toNat (x0 + 1).toNat) else none else (p_spec_l1Num fu (IntKind.wrap .i64 (x0.tdiv 10))).bind (fun r16 => if 0 ≤ (x0.tmod 10) then if (x0.tmod 10) ≤ (IntKind.wrap .i64 ((x0.tmod 10) + 1)) then if (IntKind.wrap .i64 ((x0.tmod 10) + 1)) ≤ ((ByteArray.mk #[48, 49, 50, 51, 52, 53, 54, 55, 56, 57]).size : Int) then if (r16.size : Int) + (((ByteArray.mk #[48, 49, 50, 51, 52, 53, 54, 55, 56, 57]).extract (x0.tmod 10).toNat (IntKind.wrap .i64 ((x0.tmod 10) + 1)).toNat).size : Int) ≤ 9223372036854775807 then some (r16 ++ ((ByteArray.mk #[48, 49, 50, 51, 52, 53, 54, 55, 56, 57]).extract (x0.tmod 10).toNat (IntKind.wrap .i64 ((x0.tmod 10) + 1)).toNat)) else none else none else none else none)))
/-- loop.example/g01210/spec.FormatInt -/
def p_spec_FormatInt (fu : Nat) (x0 : Int) : Option (ByteArray × Bool) :=
  (if (p_spec_l1In x0 (-999999) 999999) = true then (p_spec_l1Num fu x0).bind (fun r2 => some (r2, true)) else some ((ByteArray.mk #[]), false))
/-- (*loop.example/g01210/spec.l1Cur).one -/
def p_spec_l1Cur_one (x0 : Int) (x1 : (List Int)) (x2 : Int) (x3 : Int) : Option (Bool × Int × Int) :=
  (p_spec_l1Cur_pick x0 x1 x2 x3).bind (fun r1 => some ((decide (r1.1 = 0)), r1.2.1, r1.2.2))
/-- (*loop.example/g01210/spec.l1Cur).of -/
def p_spec_l1Cur_of (x0 : (List ByteArray)) (x1 : (List Int)) (x2 : Int) (x3 : Int) : Option (ByteArray × Int × Int) :=
  (p_spec_l1Cur_pick (x0.length : Int) x1 x2 x3).bind (fun r1 => if 0 ≤ r1.1 then if r1.1 < (x0.length : Int) then some ((x0.getD r1.1.toNat ByteArray.empty), r1.2.1, r1.2.2) else none else none)
/-- loop.example/g01210/spec.DrawParseInt -/
def p_spec_DrawParseInt (fu : Nat) (x0 : (List Int)) : Option (ByteArray) :=
  (p_spec_l1Cur_one 2 x0 0 0).bind (fun r1 => (if r1.1 = true then (p_spec_l1Cur_of [(ByteArray.mk #[]), (ByteArray.mk #[45]), (ByteArray.mk #[45, 48]), (ByteArray.mk #[48, 48]), (ByteArray.mk #[48, 49]), (ByteArray.mk #[45, 45, 49]), (ByteArray.mk #[49, 120]), (ByteArray.mk #[57, 57, 57, 57, 57, 57]), (ByteArray.mk #[49, 48, 48, 48, 48, 48, 48]), (ByteArray.mk #[45, 57, 57, 57, 57, 57, 57]), (ByteArray.mk #[49, 56, 52, 52, 54, 55, 52, 52, 48, 55, 51, 55, 48, 57, 53, 53, 49, 54, 49, 55])] x0 r1.2.1 r1.2.2).bind (fun r3 => some r3.1) else (p_spec_l1Cur_pick 2000 x0 r1.2.1 r1.2.2).bind (fun r4 => (p_spec_l1Num fu (IntKind.wrap .i64 (r4.1 - 1000))).bind (fun r5 => some r5))))
/-- loop.example/g01210/spec.l1Read -/
def p_spec_l1Read (fu : Nat) (x0 : ByteArray) : Option (Int × Bool) :=
  if (x0.size : Int) ≤ 9223372036854775807 then jn (fun (s1 : ByteArray) => (if (p_spec_l1In (s1.size : Int) 1 6) = true then whl (fun (s5 : Int × Int) c7 => (if s5.2 < (s1.size : Int) then if 0 ≤ s5.2 then (if ((decide (((s1.data.toList.getD s5.2.toNat 0).toNat : Int) < 48)) || (decide (57 < ((s1.data.toList.getD s5.2.toNat 0).toNat : Int)))) = true then some (0, false) else c7 ((IntKind.wrap .i64 ((IntKind.wrap .i64 (10 * s5.1)) + (IntKind.wrap .i64 (IntKind.wrap .u8 (((s1.data.toList.getD s5.2.toNat 0).toNat : Int) - 48))))), (IntKind.wrap .i64 (s5.2 + 1)))) else none else jn (fun (s26 : Int) => (p_spec_l1Num fu s26).bind (fun r29 => (if (eqS r29 x0) = true then some (s26, true) else some (0, false)))) (fun k27 => (if (s1.size : Int) < (x0.size : Int) then k27 (IntKind.wrap .i64 (0 - s5.1)) else k27 s5.1)))) fu (0, 0) else some (0, false))) (fun k2 => (if ((decide (1 < (x0.size : Int))) && (decide (((x0.data.toList.getD 0 0).toNat : Int) = 45))) = true then k2 (x0.extract 1 ((x0.size : Int)).toNat) else k2 x0)) else none
/-- loop.example/g01210/spec.ParseInt -/
def p_spec_ParseInt (fu : Nat) (x0 : ByteArray) : Option (Int × Bool) :=
  if (x0.size : Int) ≤ 9223372036854775807 then (p_spec_l1Read fu x0).bind (fun r1 => some (r1.1, r1.2)) else none
/-- (*loop.example/g01210/spec.l1Cur).any1 -/
def p_spec_l1Cur_any1 (x0 : (List Int)) (x1 : Int) (x2 : Int) : Option (ByteArray × Int × Int) :=
  (p_spec_l1Cur_of [(ByteArray.mk #[]), (ByteArray.mk #[97]), (ByteArray.mk #[97, 44, 98]), (ByteArray.mk #[115, 111, 109, 101, 32, 119, 111, 114, 100, 115]), (ByteArray.mk #[120, 35, 121]), (ByteArray.mk #[45, 49, 50]), (ByteArray.mk #[0, 255]), (ByteArray.mk #[44, 44]), (ByteArray.mk #[48])] x0 x1 x2).bind (fun r1 => some (r1.1, r1.2.1, r1.2.2))
/-- loop.example/g01210/spec.DrawAppendChecksum -/
def p_spec_DrawAppendChecksum (x0 : (List Int)) : Option (ByteArray) :=
  (p_spec_l1Cur_one 20 x0 0 0).bind (fun r1 => (if r1.1 = true then (p_spec_l1Cur_pick 10 x0 r1.2.1 r1.2.2).bind (fun r3 => if 0 ≤ (IntKind.wrap .i64 (3990 + r3.1)) then if (IntKind.wrap .i64 (3990 + r3.1)) ≤ 1000000000 then some (bytesB (List.replicate (IntKind.wrap .i64 (3990 + r3.1)).toNat 0)) else none else none) else (p_spec_l1Cur_any1 x0 r1.2.1 r1.2.2).bind (fun r6 => some r6.1)))
/-- internal/stringslite.IndexByte -/
def p_internal_stringslite_IndexByte (x0 : ByteArray) (x1 : Int) : Int :=
  (Lib.indexByte x0.data.toList x1.toNat.toUInt8)
/-- internal/stringslite.Index -/
def p_internal_stringslite_Index (x0 : ByteArray) : Int :=
  (if ((decide (((ByteArray.mk #[35]).size : Int) = 0)) || (eqS (ByteArray.mk #[35]) x0)) = true then 0 else (p_internal_stringslite_IndexByte x0 (((ByteArray.mk #[35]).data.toList.getD 0 0).toNat : Int)))
/-- strings.Index -/
def p_strings_Index (x0 : ByteArray) : Int :=
  (p_internal_stringslite_Index x0)
/-- strings.Contains -/
def p_strings_ContainsB (x0 : ByteArray) : Bool :=
  (decide (0 ≤ (p_strings_Index x0)))
/-- loop.example/g01210/impl.checksum -/
def p_impl_checksum (x0 : ByteArray) : Option (Int) :=
  if (x0.size : Int) ≤ 9223372036854775807 then cnt (fun i2 (s1 : Int) c3 _ => c3 ((IntKind.wrap .i64 ((IntKind.wrap .i64 ((IntKind.wrap .i64 (41 * s1)) + ((x0.data.toList.getD i2.toNat 0).toNat : Int))) + 1)).tmod 999979)) (fun i2 (s1 : Int) => some s1) (Int.toNat ((x0.size : Int) - 0)) 0 7 else none
/-- loop.example/g01210/impl.AppendChecksum -/
def p_impl_AppendChecksum (x0 : ByteArray) : Option (ByteArray × Bool) :=
  if (x0.size : Int) ≤ 9223372036854775807 then (if ((decide (4000 < (x0.size : Int))) || (p_strings_ContainsB x0)) = true then some ((ByteArray.mk #[]), false) else if (x0.size : Int) + ((ByteArray.mk #[35]).size : Int) ≤ 9223372036854775807 then (p_impl_checksum x0).bind (fun r10 => (p_strconv_Itoa r10).bind (fun r11 => if ((x0 ++ (ByteArray.mk #[35])).size : Int) + (r11.size : Int) ≤ 9223372036854775807 then (if 4000 < (((x0 ++ (ByteArray.mk #[35])) ++ r11).size : Int) then some ((ByteArray.mk #[]), false) else some (((x0 ++ (ByteArray.mk #[35])) ++ r11), true)) else none)) else none) else none
/-- loop.example/g01210/spec.l1Stands -/
def p_spec_l1Stands (x0 : ByteArray) (x1 : Int) : Option (Bool) :=
  if (x0.size : Int) ≤ 9223372036854775807 then cnt (fun i2 (s1 : Unit) c3 _ => (if ((x0.data.toList.getD i2.toNat 0).toNat : Int) = x1 then some true else c3 ())) (fun i2 (s1 : Unit) => some false) (Int.toNat ((x0.size : Int) - 0)) 0 () else none
/-- loop.example/g01210/spec.l1Sum -/
def p_spec_l1Sum (x0 : ByteArray) : Option (Int) :=
  if (x0.size : Int) ≤ 9223372036854775807 then cnt (fun i2 (s1 : Int) c3 _ => c3 ((IntKind.wrap .i64 ((IntKind.wrap .i64 ((IntKind.wrap .i64 (41 * s1)) + ((x0.data.toList.getD i2.toNat 0).toNat : Int))) + 1)).tmod 999979)) (fun i2 (s1 : Int) => some s1) (Int.toNat ((x0.size : Int) - 0)) 0 7 else none
/-- loop.example/g01210/spec.l1Seal -/
def p_spec_l1Seal (fu : Nat) (x0 : ByteArray) : Option (ByteArray) :=
  if (x0.size : Int) ≤ 9223372036854775807 then if (x0.size : Int) + ((ByteArray.mk #[35]).size : Int) ≤ 9223372036854775807 then (p_spec_l1Sum x0).bind (fun r2 => (p_spec_l1Num fu r2).bind (fun r3 => if ((x0 ++ (ByteArray.mk #[35])).size : Int) + (r3.size : Int) ≤ 9223372036854775807 then some ((x0 ++ (ByteArray.mk #[35])) ++ r3) else none)) else none else none
/-- loop.example/g01210/spec.AppendChecksum -/
def p_spec_AppendChecksum (fu : Nat) (x0 : ByteArray) : Option (ByteArray × Bool) :=
  if (x0.size : Int) ≤ 9223372036854775807 then if ((!(decide (4000 < (x0.size : Int)))) = true → (p_spec_l1Stands x0 35).isSome = true) then if ((!((decide (4000 < (x0.size : Int))) || ((p_spec_l1Stands x0 35).getD false))) = true → (p_spec_l1Seal fu x0).isSome = true) then (if (((decide (4000 < (x0.size : Int))) || ((p_spec_l1Stands x0 35).getD false)) || (decide (4000 < (((p_spec_l1Seal fu x0).getD ByteArray.empty).size : Int)))) = true then some ((ByteArray.mk #[]), false) else (p_spec_l1Seal fu x0).bind (fun r30 => some (r30, true))) else none else none else none
/-- internal/stringslite.Cut -/
def p_internal_stringslite_Cut (x0 : ByteArray) : Option (ByteArray × ByteArray × Bool) :=
  if (x0.size : Int) ≤ 9223372036854775807 then (if 0 ≤ (p_internal_stringslite_Index x0) then if (p_internal_stringslite_Index x0) ≤ (x0.size : Int) then if 0 ≤ (IntKind.wrap .i64 ((p_internal_stringslite_Index x0) + ((ByteArray.mk #[35]).size : Int))) then if (IntKind.wrap .i64 ((p_internal_stringslite_Index x0) + ((ByteArray.mk #[35]).size : Int))) ≤ (x0.size : Int) then some ((x0.extract 0 (p_internal_stringslite_Index x0).toNat), (x0.extract (IntKind.wrap .i64 ((p_internal_stringslite_Index x0) + ((ByteArray.mk #[35]).size : Int))).toNat ((x0.size : Int)).toNat), true) else none else none else none else some (x0, (ByteArray.mk #[]), false)) else none
/-- strings.Cut -/
def p_strings_Cut (x0 : ByteArray) : Option (ByteArray × ByteArray × Bool) :=
  if (x0.size : Int) ≤ 9223372036854775807 then (p_internal_stringslite_Cut x0).bind (fun r1 => some (r1.1, r1.2.1, r1.2.2)) else none
/-- loop.example/g01210/impl.VerifyChecksum -/
def p_impl_VerifyChecksum (x0 : ByteArray) : Option (ByteArray × Bool) :=
  if (x0.size : Int) ≤ 9223372036854775807 then (p_strings_Cut x0).bind (fun r1 => (p_impl_AppendChecksum r1.1).bind (fun r2 => (if ((!r2.2) || (!(eqS r2.1 x0))) = true then some ((ByteArray.mk #[]), false) else some (r1.1, true)))) else none
/-- loop.example/g01210/laws.vAt -/
def p_laws_vAt (x0 : (List Int)) (x1 : Int) : Option (Int) :=
  (if x1 < (x0.length : Int) then if 0 ≤ x1 then some (IntKind.wrap .i64 (x0.getD x1.toNat 0)) else none else some ((IntKind.wrap .i64 ((IntKind.wrap .i64 (x1 * 7)) + (x0.length : Int))).tmod 256))
/-- loop.example/g01210/laws.FnStrings -/
def p_laws_FnStrings (fu : Nat) (x0 : (List Int)) : Option (Bool) :=
  (if (p_laws_vBig x0) = true then some true else (p_spec_DrawFormatInt x0).bind (fun r2 => (p_impl_FormatInt r2).bind (fun r3 => (p_spec_FormatInt fu r2).bind (fun r4 => (p_spec_DrawParseInt fu x0).bind (fun r5 => (p_impl_ParseInt r5).bind (fun r6 => (p_spec_ParseInt fu r5).bind (fun r7 => (p_spec_DrawAppendChecksum x0).bind (fun r8 => (p_impl_AppendChecksum r8).bind (fun r9 => (p_spec_AppendChecksum fu r8).bind (fun r10 => (if ((((((!(eqS r3.1 r4.1)) || (r3.2 != r4.2)) || (!(decide (r6.1 = r7.1)))) || (r6.2 != r7.2)) || (!(eqS r9.1 r10.1))) || (r9.2 != r10.2)) = true then some false else (p_impl_ParseInt r3.1).bind (fun r107 => (if (r3.2 && ((!r107.2) || (!(decide (r107.1 = r2))))) = true then some false else (if r9.2 = true then (p_impl_VerifyChecksum r9.1).bind (fun r125 => if (r9.1.size : Int) ≤ 9223372036854775807 then (p_laws_vAt x0 9).bind (fun r127 => if ((bytesI r9.1).length : Int) ≠ 0 then if 0 ≤ (r127.tmod ((bytesI r9.1).length : Int)) then if (r127.tmod ((bytesI r9.1).length : Int)) < ((bytesI r9.1).length : Int) then (p_laws_vAt x0 10).bind (fun r131 => (p_impl_VerifyChecksum (bytesB ((bytesI r9.1).set (r127.tmod ((bytesI r9.1).length : Int)).toNat (xorI .u8 ((bytesI r9.1).getD (r127.tmod ((bytesI r9.1).length : Int)).toNat 0) (IntKind.wrap .u8 (IntKind.wrap .i64 (1 + (r131.tmod 255)))))))).bind (fun r132 => some ((r125.2 && (eqS r125.1 r8)) && (!r132.2)))) else none else none else none) else none) else some (eqS r9.1 (ByteArray.mk #[]))))))))))))))))
end Go.GA
