/- Walks: what the Go functions compute, by the printed lines below. -/
import Derived.Test.YtcminfahdindnaaDoorGA36
namespace Go.GA
open Go
set_option maxRecDepth 100000
set_option maxHeartbeats 2000000
set_option linter.unusedVariables false
set_option linter.unusedSimpArgs false
/-- loop.example/g01210/laws.szLogRecord -/
def p_laws_szLogRecord (x0 : (ByteArray × (ByteArray × Unit))) (x1 : Int) : Int :=
  (if (IntKind.wrap .i64 (x1 - (x0.1.size : Int))) < 0 then (-1) else (if (IntKind.wrap .i64 ((IntKind.wrap .i64 (x1 - (x0.1.size : Int))) - (x0.2.1.size : Int))) < 0 then (-1) else (IntKind.wrap .i64 ((IntKind.wrap .i64 (x1 - (x0.1.size : Int))) - (x0.2.1.size : Int)))))
/-- loop.example/g01210/laws.toLogRecord -/
def p_laws_toLogRecord (x0 : (ByteArray × (ByteArray × Unit))) : (ByteArray × (ByteArray × Unit)) :=
  (x0.1, (x0.2.1, ()))
/-- loop.example/g01210/spec.l1In -/
def p_spec_l1In (x0 : Int) (x1 : Int) (x2 : Int) : Bool :=
  ((decide (x1 ≤ x0)) && (decide (x0 ≤ x2)))
/-- loop.example/g01210/spec.l12Bytes -/
def p_spec_l12Bytes (x0 : ByteArray) (x1 : Int) : Option (Bool) :=
  if (x0.size : Int) ≤ 9223372036854775807 then cnt (fun i2 (s1 : Unit) c3 _ => (if ((!(p_spec_l1In ((x0.data.toList.getD i2.toNat 0).toNat : Int) 32 126)) || (decide (((x0.data.toList.getD i2.toNat 0).toNat : Int) = 35))) = true then some false else c3 ())) (fun i2 (s1 : Unit) => some (decide ((x0.size : Int) ≤ x1))) (Int.toNat ((x0.size : Int) - 0)) 0 () else none
/-- loop.example/g01210/spec.l1Stands -/
def p_spec_l1Stands (x0 : ByteArray) (x1 : Int) : Option (Bool) :=
  if (x0.size : Int) ≤ 9223372036854775807 then cnt (fun i2 (s1 : Unit) c3 _ => (if ((x0.data.toList.getD i2.toNat 0).toNat : Int) = x1 then some true else c3 ())) (fun i2 (s1 : Unit) => some false) (Int.toNat ((x0.size : Int) - 0)) 0 () else none
/-- loop.example/g01210/spec.l12Record -/
def p_spec_l12Record (x0 : (ByteArray × (ByteArray × Unit))) : Option (Bool) :=
  if ((!(eqS x0.1 (ByteArray.mk #[]))) = true → (p_spec_l12Bytes x0.1 160).isSome = true) then if (((!(eqS x0.1 (ByteArray.mk #[]))) && ((p_spec_l12Bytes x0.1 160).getD false)) = true → (p_spec_l1Stands x0.1 64).isSome = true) then if ((((!(eqS x0.1 (ByteArray.mk #[]))) && ((p_spec_l12Bytes x0.1 160).getD false)) && (!((p_spec_l1Stands x0.1 64).getD false))) = true → (p_spec_l12Bytes x0.2.1 250).isSome = true) then some ((((!(eqS x0.1 (ByteArray.mk #[]))) && ((p_spec_l12Bytes x0.1 160).getD false)) && (!((p_spec_l1Stands x0.1 64).getD false))) && ((p_spec_l12Bytes x0.2.1 250).getD false)) else none else none else none
/-- loop.example/g01210/spec.l1Num -/
def p_spec_l1Num : Nat → Int → Option (ByteArray)
  | 0, _ => none
  | fu + 1, x0 => (if x0 < 0 then (if (-10) < x0 then (p_spec_l1Num fu (IntKind.wrap .i64 (0 - x0))).bind (fun r7 => if ((ByteArray.mk #[45]).size : Int) + (r7.size : Int) ≤ 9223372036854775807 then some ((ByteArray.mk #[45]) ++ r7) else none) else (p_spec_l1Num fu (IntKind.wrap .i64 (x0.tdiv 10))).bind (fun r9 => (p_spec_l1Num fu (IntKind.wrap .i64 (0 - (x0.tmod 10)))).bind (fun r10 => if (r9.size : Int) + (r10.size : Int) ≤ 9223372036854775807 then some (r9 ++ r10) else none))) else (if x0 < 10 then if (x0 + 1) ≤ ((ByteArray.mk #[48, 49, 50, 51, 52, 53, 54, 55, 56, 57]).size : Int) then some ((ByteArray.mk #[48, 49, 50, 51, 52, 53, 54, 55, 56, 57]).extract x0.toNat (x0 + 1).toNat) else none else (p_spec_l1Num fu (IntKind.wrap .i64 (x0.tdiv 10))).bind (fun r16 => if 0 ≤ (x0.tmod 10) then if (x0.tmod 10) ≤ (IntKind.wrap .i64 ((x0.tmod 10) + 1)) then if (IntKind.wrap .i64 ((x0.tmod 10) + 1)) ≤ ((ByteArray.mk #[48, 49, 50, 51, 52, 53, 54, 55, 56, 57]).size : Int) then if (r16.size : Int) + (((ByteArray.mk #[48, 49, 50, 51, 52, 53, 54, 55, 56, 57]).extract (x0.tmod 10).toNat (IntKind.wrap .i64 ((x0.tmod 10) + 1)).toNat).size : Int) ≤ 9223372036854775807 then some (r16 ++ ((ByteArray.mk #[48, 49, 50, 51, 52, 53, 54, 55, 56, 57]).extract (x0.tmod 10).toNat (IntKind.wrap .i64 ((x0.tmod 10) + 1)).toNat)) else none else none else none else none)))
/-- loop.example/g01210/spec.l1Sum -/
def p_spec_l1Sum (x0 : ByteArray) : Option (Int) :=
  if (x0.size : Int) ≤ 9223372036854775807 then cnt (fun i2 (s1 : Int) c3 _ => c3 ((IntKind.wrap .i64 ((IntKind.wrap .i64 ((IntKind.wrap .i64 (41 * s1)) + ((x0.data.toList.getD i2.toNat 0).toNat : Int))) + 1)).tmod 999979)) (fun i2 (s1 : Int) => some s1) (Int.toNat ((x0.size : Int) - 0)) 0 7 else none
/-- loop.example/g01210/spec.l1Seal -/
def p_spec_l1Seal (fu : Nat) (x0 : ByteArray) : Option (ByteArray) :=
  if (x0.size : Int) ≤ 9223372036854775807 then if (x0.size : Int) + ((ByteArray.mk #[35]).size : Int) ≤ 9223372036854775807 then (p_spec_l1Sum x0).bind (fun r2 => (p_spec_l1Num fu r2).bind (fun r3 => if ((x0 ++ (ByteArray.mk #[35])).size : Int) + (r3.size : Int) ≤ 9223372036854775807 then some ((x0 ++ (ByteArray.mk #[35])) ++ r3) else none)) else none else none
/-- loop.example/g01210/spec.l12Line -/
def p_spec_l12Line (fu : Nat) (x0 : Int) (x1 : (ByteArray × (ByteArray × Unit))) : Option (ByteArray) :=
  (p_spec_l1Num fu x0).bind (fun r1 => if (r1.size : Int) + ((ByteArray.mk #[32]).size : Int) ≤ 9223372036854775807 then if ((r1 ++ (ByteArray.mk #[32])).size : Int) + (x1.1.size : Int) ≤ 9223372036854775807 then if (((r1 ++ (ByteArray.mk #[32])) ++ x1.1).size : Int) + ((ByteArray.mk #[64]).size : Int) ≤ 9223372036854775807 then if ((((r1 ++ (ByteArray.mk #[32])) ++ x1.1) ++ (ByteArray.mk #[64])).size : Int) + (x1.2.1.size : Int) ≤ 9223372036854775807 then (p_spec_l1Seal fu ((((r1 ++ (ByteArray.mk #[32])) ++ x1.1) ++ (ByteArray.mk #[64])) ++ x1.2.1)).bind (fun r6 => if (r6.size : Int) + ((ByteArray.mk #[10]).size : Int) ≤ 9223372036854775807 then some (r6 ++ (ByteArray.mk #[10])) else none) else none else none else none else none)
/-- loop.example/g01210/spec.EncodeRecord -/
def p_spec_EncodeRecord (fu : Nat) (x0 : Int) (x1 : (ByteArray × (ByteArray × Unit))) : Option (ByteArray × Bool) :=
  if ((!(!(p_spec_l1In x0 0 59))) = true → (p_spec_l12Record (x1.1, (x1.2.1, ()))).isSome = true) then (if ((!(p_spec_l1In x0 0 59)) || (!((p_spec_l12Record (x1.1, (x1.2.1, ()))).getD false))) = true then some ((ByteArray.mk #[]), false) else (p_spec_l12Line fu x0 (x1.1, (x1.2.1, ()))).bind (fun r8 => some (r8, true))) else none
/-- loop.example/g01210/impl.within -/
def p_impl_within (x0 : Int) (x1 : Int) (x2 : Int) : Bool :=
  ((decide (x1 ≤ x0)) && (decide (x0 ≤ x2)))
/-- loop.example/g01210/impl.isPrinted$1 -/
def p_impl_isPrinted_1 (x0 : Int) : Bool :=
  (((decide (32 ≤ x0)) && (decide (x0 ≤ 126))) && (!(decide (x0 = 35))))
/-- loop.example/g01210/impl.areAll[byte]$1 -/
def p_impl_areAll_byte_1 (x0 : Int) : Bool :=
  (!(p_impl_isPrinted_1 x0))
/-- slices.IndexFunc[[]byte,byte] -/
def p_slices_IndexFunc_byte_byte (x0 : (List Int)) : Int :=
  cnt (fun i2 (s1 : Unit) c3 _ => (if (p_impl_areAll_byte_1 (x0.getD i2.toNat 0)) = true then i2 else c3 ())) (fun i2 (s1 : Unit) => (-1)) (Int.toNat ((x0.length : Int) - 0)) 0 ()
/-- slices.ContainsFunc[[]byte,byte] -/
def p_slices_ContainsFunc_byte_byte (x0 : (List Int)) : Bool :=
  (decide (0 ≤ (p_slices_IndexFunc_byte_byte x0)))
/-- loop.example/g01210/impl.areAll[byte] -/
def p_impl_areAll_byte (x0 : (List Int)) : Bool :=
  (!(p_slices_ContainsFunc_byte_byte x0))
/-- loop.example/g01210/impl.isPrinted -/
def p_impl_isPrinted (x0 : ByteArray) : Option (Bool) :=
  if (x0.size : Int) ≤ 9223372036854775807 then some (p_impl_areAll_byte (bytesI x0)) else none
/-- internal/stringslite.IndexByte -/
def p_internal_stringslite_IndexByte (x0 : ByteArray) (x1 : Int) : Int :=
  (Lib.indexByte x0.data.toList x1.toNat.toUInt8)
/-- internal/stringslite.Index -/
def p_internal_stringslite_Index (x0 : ByteArray) : Int :=
  (if (eqS (ByteArray.mk #[64]) x0) = true then 0 else (p_internal_stringslite_IndexByte x0 (((ByteArray.mk #[64]).data.toList.getD 0 0).toNat : Int)))
/-- strings.Index -/
def p_strings_Index (x0 : ByteArray) : Int :=
  (p_internal_stringslite_Index x0)
/-- strings.Contains -/
def p_strings_Contains (x0 : ByteArray) : Bool :=
  (decide (0 ≤ (p_strings_Index x0)))
/-- loop.example/g01210/impl.isCommand -/
def p_impl_isCommand (x0 : ByteArray) : Option (Bool) :=
  if (x0.size : Int) ≤ 9223372036854775807 then if ((p_impl_within (x0.size : Int) 1 160) = true → (p_impl_isPrinted x0).isSome = true) then some (((p_impl_within (x0.size : Int) 1 160) && ((p_impl_isPrinted x0).getD false)) && (!(p_strings_Contains x0))) else none else none
/-- loop.example/g01210/impl.IsValidRecord -/
def p_impl_IsValidRecord (x0 : (ByteArray × (ByteArray × Unit))) : Option (Bool) :=
  (p_impl_isCommand x0.1).bind (fun r1 => if ((r1 && (decide ((x0.2.1.size : Int) ≤ 250))) = true → (p_impl_isPrinted x0.2.1).isSome = true) then some ((r1 && (decide ((x0.2.1.size : Int) ≤ 250))) && ((p_impl_isPrinted x0.2.1).getD false)) else none)
/-- internal/stringslite.Index -/
def p_internal_stringslite_Indexv1 (x0 : ByteArray) : Int :=
  (if (eqS (ByteArray.mk #[35]) x0) = true then 0 else (p_internal_stringslite_IndexByte x0 (((ByteArray.mk #[35]).data.toList.getD 0 0).toNat : Int)))
/-- strings.Index -/
def p_strings_Indexv1 (x0 : ByteArray) : Int :=
  (p_internal_stringslite_Indexv1 x0)
/-- strings.Contains -/
def p_strings_Containsv1 (x0 : ByteArray) : Bool :=
  (decide (0 ≤ (p_strings_Indexv1 x0)))
/-- loop.example/g01210/impl.checksum -/
def p_impl_checksum (x0 : ByteArray) : Option (Int) :=
  if (x0.size : Int) ≤ 9223372036854775807 then cnt (fun i2 (s1 : Int) c3 _ => c3 ((IntKind.wrap .i64 ((IntKind.wrap .i64 ((IntKind.wrap .i64 (41 * s1)) + ((x0.data.toList.getD i2.toNat 0).toNat : Int))) + 1)).tmod 999979)) (fun i2 (s1 : Int) => some s1) (Int.toNat ((x0.size : Int) - 0)) 0 7 else none
/-- loop.example/g01210/impl.AppendChecksum -/
def p_impl_AppendChecksum (x0 : ByteArray) : Option (ByteArray × Bool) :=
  if (x0.size : Int) ≤ 9223372036854775807 then (if ((decide (4000 < (x0.size : Int))) || (p_strings_Containsv1 x0)) = true then some ((ByteArray.mk #[]), false) else if (x0.size : Int) + ((ByteArray.mk #[35]).size : Int) ≤ 9223372036854775807 then (p_impl_checksum x0).bind (fun r10 => (p_strconv_Itoa r10).bind (fun r11 => if ((x0 ++ (ByteArray.mk #[35])).size : Int) + (r11.size : Int) ≤ 9223372036854775807 then (if 4000 < (((x0 ++ (ByteArray.mk #[35])) ++ r11).size : Int) then some ((ByteArray.mk #[]), false) else some (((x0 ++ (ByteArray.mk #[35])) ++ r11), true)) else none)) else none) else none
/-- loop.example/g01210/impl.EncodeRecord -/
def p_impl_EncodeRecord (x0 : Int) (x1 : (ByteArray × (ByteArray × Unit))) : Option (ByteArray × Bool) :=
  if ((!(!(p_impl_within x0 0 59))) = true → (p_impl_IsValidRecord (x1.1, (x1.2.1, ()))).isSome = true) then (if ((!(p_impl_within x0 0 59)) || (!((p_impl_IsValidRecord (x1.1, (x1.2.1, ()))).getD false))) = true then some ((ByteArray.mk #[]), false) else (p_strconv_Itoa x0).bind (fun r8 => if (r8.size : Int) + ((ByteArray.mk #[32]).size : Int) ≤ 9223372036854775807 then if ((r8 ++ (ByteArray.mk #[32])).size : Int) + (x1.1.size : Int) ≤ 9223372036854775807 then if (((r8 ++ (ByteArray.mk #[32])) ++ x1.1).size : Int) + ((ByteArray.mk #[64]).size : Int) ≤ 9223372036854775807 then if ((((r8 ++ (ByteArray.mk #[32])) ++ x1.1) ++ (ByteArray.mk #[64])).size : Int) + (x1.2.1.size : Int) ≤ 9223372036854775807 then (p_impl_AppendChecksum ((((r8 ++ (ByteArray.mk #[32])) ++ x1.1) ++ (ByteArray.mk #[64])) ++ x1.2.1)).bind (fun r13 => (if r13.2 = true then if (r13.1.size : Int) + ((ByteArray.mk #[10]).size : Int) ≤ 9223372036854775807 then some ((r13.1 ++ (ByteArray.mk #[10])), true) else none else some ((ByteArray.mk #[]), false))) else none else none else none else none)) else none
/-- loop.example/g01210/laws.FnExactEncodeRecord -/
def p_laws_FnExactEncodeRecord (fu : Nat) (x0 : Int) (x1 : (ByteArray × (ByteArray × Unit))) : Option (Bool) :=
  (if (p_laws_szLogRecord (x1.1, (x1.2.1, ())) 1048576) < 0 then some true else (p_spec_EncodeRecord fu x0 (p_laws_toLogRecord (x1.1, (x1.2.1, ())))).bind (fun r4 => (p_impl_EncodeRecord x0 (p_laws_toLogRecord (x1.1, (x1.2.1, ())))).bind (fun r5 => (if ((!(eqS r5.1 r4.1)) || (r5.2 != r4.2)) = true then some false else some true))))
end Go.GA
