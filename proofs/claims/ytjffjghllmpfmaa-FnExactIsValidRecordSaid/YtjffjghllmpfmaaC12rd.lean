/- Walks: what the Go functions compute, by the printed lines below. -/
import Derived.Test.YtjffjghllmpfmaaGa27
namespace Go.GA
open Go
set_option maxRecDepth 100000
set_option maxHeartbeats 2000000
set_option linter.unusedVariables false
/-- loop.example/g01210/laws.szLogRecord -/
def p_laws_szLogRecord (x0 : (ByteArray × (ByteArray × Unit))) (x1 : Int) : Int :=
  (if (IntKind.wrap .i64 (x1 - (x0.1.size : Int))) < 0 then (-1) else (if (IntKind.wrap .i64 ((IntKind.wrap .i64 (x1 - (x0.1.size : Int))) - (x0.2.1.size : Int))) < 0 then (-1) else (IntKind.wrap .i64 ((IntKind.wrap .i64 (x1 - (x0.1.size : Int))) - (x0.2.1.size : Int)))))
/-- loop.example/g01210/laws.toLogRecord -/
def p_laws_toLogRecord (x0 : (ByteArray × (ByteArray × Unit))) : (ByteArray × (ByteArray × Unit)) :=
  ((x0.1, (x0.2.1, ())).1, (((x0.1, (x0.2.1, ())).2).1, ()))
/-- loop.example/g01210/spec.l1In -/
def p_spec_l1In (x0 : Int) (x1 : Int) (x2 : Int) : Bool :=
  ((decide (x1 ≤ x0)) && (decide (x0 ≤ x2)))
/-- loop.example/g01210/spec.l12Bytes -/
def p_spec_l12Bytes (x0 : ByteArray) (x1 : Int) : Option (Bool) :=
  if (x0.size : Int) ≤ 9223372036854775807 then cnt (fun i2 (s1 : Unit) c3 _ => (if ((!(p_spec_l1In ((x0.data.toList.getD i2.toNat 0).toNat : Int) 32 126)) || (decide (((x0.data.toList.getD i2.toNat 0).toNat : Int) = 35))) = true then some false else c3 ())) (fun i2 (s1 : Unit) => some (decide ((x0.size : Int) ≤ x1))) (Int.toNat ((x0.size : Int) - 0)) 0 () else none
/-- loop.example/g01210/spec.l1Stands -/
def p_spec_l1Stands (x0 : ByteArray) (x1 : Int) : Option (Bool) :=
  if (x0.size : Int) ≤ 9223372036854775807 then cnt (fun i2 (s1 : Unit) c3 _ => (if ((x0.data.toList.getD i2.toNat 0).toNat : Int) = x1 then some true else c3 ())) (fun i2 (s1 : Unit) => some false) (Int.toNat ((x0.size : Int) - 0)) 0 () else none
/-- loop.example/g01210/spec.l12Record -/
def p_spec_l12Record (x0 : (ByteArray × (ByteArray × Unit))) : Option (Bool) :=
  if ((!(eqS x0.1 (ByteArray.mk #[]))) = true → (p_spec_l12Bytes x0.1 160).isSome = true) then if (((!(eqS x0.1 (ByteArray.mk #[]))) && ((p_spec_l12Bytes x0.1 160).getD false)) = true → (p_spec_l1Stands x0.1 64).isSome = true) then if ((((!(eqS x0.1 (ByteArray.mk #[]))) && ((p_spec_l12Bytes x0.1 160).getD false)) && (!((p_spec_l1Stands x0.1 64).getD false))) = true → (p_spec_l12Bytes x0.2.1 250).isSome = true) then some ((((!(eqS x0.1 (ByteArray.mk #[]))) && ((p_spec_l12Bytes x0.1 160).getD false)) && (!((p_spec_l1Stands x0.1 64).getD false))) && ((p_spec_l12Bytes x0.2.1 250).getD false)) else none else none else none
/-- loop.example/g01210/spec.IsValidRecord -/
def p_spec_IsValidRecord (x0 : (ByteArray × (ByteArray × Unit))) : Option (Bool) :=
  (p_spec_l12Record (x0.1, (x0.2.1, ()))).bind (fun r1 => some r1)
/-- loop.example/g01210/impl.within -/
def p_impl_within (x0 : Int) (x1 : Int) (x2 : Int) : Bool :=
  ((decide (x1 ≤ x0)) && (decide (x0 ≤ x2)))
/-- loop.example/g01210/impl.isPrinted$1 -/
def p_impl_isPrinted_1 (x0 : Int) : Bool :=
  (((decide (32 ≤ x0)) && (decide (x0 ≤ 126))) && (!(decide (x0 = 35))))
/-- loop.example/g01210/impl.areAll[byte]$1 -/
def p_impl_areAll_byte_1 (x0 : Int) : Bool :=
  (!(p_impl_isPrinted_1 x0))
/-- slices.IndexFunc[[]byte,byte] -/
def p_slices_IndexFunc_byte_byte (x0 : (List Int)) : Int :=
  cnt (fun i2 (s1 : Unit) c3 _ => (if (p_impl_areAll_byte_1 (x0.getD i2.toNat 0)) = true then i2 else c3 ())) (fun i2 (s1 : Unit) => (-1)) (Int.toNat ((x0.length : Int) - 0)) 0 ()
/-- slices.ContainsFunc[[]byte,byte] -/
def p_slices_ContainsFunc_byte_byte (x0 : (List Int)) : Bool :=
  (decide (0 ≤ (p_slices_IndexFunc_byte_byte x0)))
/-- loop.example/g01210/impl.areAll[byte] -/
def p_impl_areAll_byte (x0 : (List Int)) : Bool :=
  (!(p_slices_ContainsFunc_byte_byte x0))
/-- loop.example/g01210/impl.isPrinted -/
def p_impl_isPrinted (x0 : ByteArray) : Option (Bool) :=
  if (x0.size : Int) ≤ 9223372036854775807 then some (p_impl_areAll_byte (bytesI x0)) else none
/-- internal/stringslite.IndexByte -/
def p_internal_stringslite_IndexByte (x0 : ByteArray) (x1 : Int) : Int :=
  (Lib.indexByte x0.data.toList x1.toNat.toUInt8)
/-- internal/stringslite.Index -/
def p_internal_stringslite_Index (x0 : ByteArray) : Int :=
  (if (eqS (ByteArray.mk #[64]) x0) = true then 0 else (p_internal_stringslite_IndexByte x0 (((ByteArray.mk #[64]).data.toList.getD 0 0).toNat : Int)))
/-- strings.Index -/
def p_strings_Index (x0 : ByteArray) : Int :=
  (p_internal_stringslite_Index x0)
/-- strings.Contains -/
def p_strings_Contains (x0 : ByteArray) : Bool :=
  (decide (0 ≤ (p_strings_Index x0)))
/-- loop.example/g01210/impl.isCommand -/
def p_impl_isCommand (x0 : ByteArray) : Option (Bool) :=
  if (x0.size : Int) ≤ 9223372036854775807 then if ((p_impl_within (x0.size : Int) 1 160) = true → (p_impl_isPrinted x0).isSome = true) then some (((p_impl_within (x0.size : Int) 1 160) && ((p_impl_isPrinted x0).getD false)) && (!(p_strings_Contains x0))) else none else none
/-- loop.example/g01210/impl.IsValidRecord -/
def p_impl_IsValidRecord (x0 : (ByteArray × (ByteArray × Unit))) : Option (Bool) :=
  (p_impl_isCommand x0.1).bind (fun r1 => if ((r1 && (decide ((x0.2.1.size : Int) ≤ 250))) = true → (p_impl_isPrinted x0.2.1).isSome = true) then some ((r1 && (decide ((x0.2.1.size : Int) ≤ 250))) && ((p_impl_isPrinted x0.2.1).getD false)) else none)
/-- loop.example/g01210/laws.FnExactIsValidRecord -/
def p_laws_FnExactIsValidRecord (x0 : (ByteArray × (ByteArray × Unit))) : Option (Bool) :=
  (if (p_laws_szLogRecord (x0.1, (x0.2.1, ())) 1048576) < 0 then some true else (p_spec_IsValidRecord (p_laws_toLogRecord (x0.1, (x0.2.1, ())))).bind (fun r4 => (p_impl_IsValidRecord (p_laws_toLogRecord (x0.1, (x0.2.1, ())))).bind (fun r5 => (if (r5 != r4) = true then some false else some true))))
end Go.GA
