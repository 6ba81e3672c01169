/- Walks: what the Go functions compute, by the printed lines below; no further conditions. -/
import Derived.Test.YtbfjbbfekodohaaGaD
namespace Go.GA
open Go
set_option maxRecDepth 100000
set_option maxHeartbeats 2000000
set_option linter.unusedVariables false
set_option linter.unusedSimpArgs false
/-- loop.example/g01210/laws.szIntA6S -/
def p_laws_szIntA6S (x0 : (List (List Int))) (x1 : Int) : Int :=
  (if (IntKind.wrap .i64 (x1 - (x0.length : Int))) < 0 then (-1) else (IntKind.wrap .i64 (x1 - (x0.length : Int))))
/-- loop.example/g01210/laws.szIntS -/
def p_laws_szIntS (x0 : (List Int)) (x1 : Int) : Int :=
  (if (IntKind.wrap .i64 (x1 - (x0.length : Int))) < 0 then (-1) else (IntKind.wrap .i64 (x1 - (x0.length : Int))))
/-- loop.example/g01210/laws.szTavern -/
def p_laws_szTavern (x0 : ((List (List Int)) × (Int × ((List Int) × (Int × (Int × (Int × Unit))))))) (x1 : Int) : Int :=
  (if (p_laws_szIntA6S x0.1 x1) < 0 then (-1) else (if (p_laws_szIntS x0.2.2.1 (p_laws_szIntA6S x0.1 x1)) < 0 then (-1) else (p_laws_szIntS x0.2.2.1 (p_laws_szIntA6S x0.1 x1))))
/-- loop.example/g01210/laws.toIntA6 -/
def p_laws_toIntA6 (x0 : (List Int)) : (List Int) :=
  cnt (fun i2 (s1 : (List Int)) c3 _ => c3 (s1.set i2.toNat (x0.getD i2.toNat 0))) (fun i2 (s1 : (List Int)) => s1) (Int.toNat (6 - 0)) 0 (List.replicate 6 0)
/-- loop.example/g01210/laws.toIntA6S -/
def p_laws_toIntA6S (x0 : (List (List Int))) : Option ((List (List Int))) :=
  if (x0.length : Int) ≤ 1000000000 then cnt (fun i3 (s2 : (List (List Int))) c4 _ => c4 (s2.set i3.toNat (p_laws_toIntA6 (x0.getD i3.toNat (List.replicate 6 0))))) (fun i3 (s2 : (List (List Int))) => some s2) (Int.toNat ((x0.length : Int) - 0)) 0 (List.replicate (x0.length : Int).toNat (List.replicate 6 0)) else none
/-- loop.example/g01210/laws.toIntS -/
def p_laws_toIntS (x0 : (List Int)) : Option ((List Int)) :=
  if (x0.length : Int) ≤ 1000000000 then cnt (fun i3 (s2 : (List Int)) c4 _ => c4 (s2.set i3.toNat (x0.getD i3.toNat 0))) (fun i3 (s2 : (List Int)) => some s2) (Int.toNat ((x0.length : Int) - 0)) 0 (List.replicate (x0.length : Int).toNat 0) else none
/-- loop.example/g01210/laws.toTavern -/
def p_laws_toTavern (x0 : ((List (List Int)) × (Int × ((List Int) × (Int × (Int × (Int × Unit))))))) : Option (((List (List Int)) × (Int × ((List Int) × (Int × (Int × (Int × Unit))))))) :=
  (p_laws_toIntA6S x0.1).bind (fun r1 => (p_laws_toIntS x0.2.2.1).bind (fun r3 => some (r1, (x0.2.1, (r3, (x0.2.2.2.1, (x0.2.2.2.2.1, (x0.2.2.2.2.2.1, ()))))))))
/-- loop.example/g01210/laws.toTask -/
def p_laws_toTask (x0 : (Int × (Int × (Int × Unit)))) : (Int × (Int × (Int × Unit))) :=
  (x0.1, (x0.2.1, (x0.2.2.1, ())))
/-- loop.example/g01210/spec.l1In -/
def p_spec_l1In (x0 : Int) (x1 : Int) (x2 : Int) : Bool :=
  ((decide (x1 ≤ x0)) && (decide (x0 ≤ x2)))
/-- loop.example/g01210/spec.l2Die -/
def p_spec_l2Die (x0 : (List Int)) : Option (Bool) :=
  cnt (fun i2 (s1 : Unit) c3 _ => (if ((!(p_spec_l1In (x0.getD i2.toNat 0) 0 30)) || ((decide (0 < i2)) && (decide ((x0.getD i2.toNat 0) < (x0.getD (i2 - 1).toNat 0))))) = true then some false else c3 ())) (fun i2 (s1 : Unit) => some true) (Int.toNat (6 - 0)) 0 ()
/-- loop.example/g01210/spec.l2Pool -/
def p_spec_l2Pool (x0 : (List (List Int))) : Option (Bool) :=
  cnt (fun i2 (s1 : Unit) c3 k16 => (if ((decide (i2 < (x0.length : Int))) && (decide (i2 ≤ 4))) = true then (p_spec_l2Die (x0.getD i2.toNat (List.replicate 6 0))).bind (fun r14 => (if r14 = true then c3 () else some false)) else k16 i2 s1)) (fun i2 (s1 : Unit) => some (p_spec_l1In (x0.length : Int) 1 4)) (Int.toNat ((x0.length : Int) - 0)) 0 ()
/-- loop.example/g01210/spec.l1Has -/
def p_spec_l1Has (x0 : (List Int)) (x1 : Int) : Bool :=
  cnt (fun i2 (s1 : Unit) c3 _ => (if (x0.getD i2.toNat 0) = x1 then true else c3 ())) (fun i2 (s1 : Unit) => false) (Int.toNat ((x0.length : Int) - 0)) 0 ()
/-- loop.example/g01210/spec.l12Last -/
def p_spec_l12Last (x0 : (List (List Int))) (x1 : (List Int)) : Bool :=
  (if (x1.length : Int) = 0 then true else cnt (fun i5 (s4 : Unit) c6 k22 => (if ((decide (i5 < (x1.length : Int))) && (decide (i5 < (x0.length : Int)))) = true then (if (p_spec_l1Has (x0.getD i5.toNat (List.replicate 6 0)) (x1.getD i5.toNat 0)) = true then c6 () else false) else k22 i5 s4)) (fun i5 (s4 : Unit) => (decide ((x1.length : Int) = (x0.length : Int)))) (Int.toNat ((x1.length : Int) - 0)) 0 ())
/-- loop.example/g01210/spec.l12Good -/
def p_spec_l12Good (x0 : ((List (List Int)) × (Int × ((List Int) × (Int × (Int × (Int × Unit))))))) : Option (Bool) :=
  (p_spec_l2Pool x0.1).bind (fun r1 => some (((((r1 && (p_spec_l1In x0.2.1 0 65535)) && (p_spec_l12Last x0.1 x0.2.2.1)) && (p_spec_l1In x0.2.2.2.1 0 100000)) && (p_spec_l1In x0.2.2.2.2.1 0 120)) && (p_spec_l1In x0.2.2.2.2.2.1 0 1000)))
/-- loop.example/g01210/spec.l12Dice -/
def p_spec_l12Dice (x0 : ((List (List Int)) × (Int × ((List Int) × (Int × (Int × (Int × Unit))))))) (x1 : (List (List Int))) : ((List (List Int)) × (Int × ((List Int) × (Int × (Int × (Int × Unit)))))) :=
  (x1, (x0.2.1, ([], (x0.2.2.2.1, (x0.2.2.2.2.1, (x0.2.2.2.2.2.1, ()))))))
/-- loop.example/g01210/spec.l1Own -/
def p_spec_l1Own (x0 : (List Int)) : Option ((List Int)) :=
  if 0 + (x0.length : Int) ≤ 1000000000 then some ([] ++ x0) else none
/-- loop.example/g01210/spec.l12Throw -/
def p_spec_l12Throw (x0 : (List Int)) (x1 : Int) : Option (Int × Int) :=
  if 0 ≤ ((IntKind.wrap .i64 (((IntKind.wrap .i64 ((IntKind.wrap .i64 (25173 * x1)) + 13849)).tmod 65536).tdiv 256)).tmod 6) then if ((IntKind.wrap .i64 (((IntKind.wrap .i64 ((IntKind.wrap .i64 (25173 * x1)) + 13849)).tmod 65536).tdiv 256)).tmod 6) < 6 then some (((IntKind.wrap .i64 ((IntKind.wrap .i64 (25173 * x1)) + 13849)).tmod 65536), (x0.getD ((IntKind.wrap .i64 (((IntKind.wrap .i64 ((IntKind.wrap .i64 (25173 * x1)) + 13849)).tmod 65536).tdiv 256)).tmod 6).toNat 0)) else none else none
/-- loop.example/g01210/spec.l12Add -/
def p_spec_l12Add (x0 : (List Int)) : Int :=
  cnt (fun i2 (s1 : Int) c3 _ => c3 (IntKind.wrap .i64 (s1 + (x0.getD i2.toNat 0)))) (fun i2 (s1 : Int) => s1) (Int.toNat ((x0.length : Int) - 0)) 0 0
/-- loop.example/g01210/spec.l1Most -/
def p_spec_l1Most (x0 : Int) (x1 : Int) : Int :=
  (if x1 < x0 then x0 else x1)
/-- loop.example/g01210/spec.l12Rolled -/
def p_spec_l12Rolled (fu : Nat) (x0 : ((List (List Int)) × (Int × ((List Int) × (Int × (Int × (Int × Unit))))))) (x1 : Int) (x2 : Int) : Option (((List (List Int)) × (Int × ((List Int) × (Int × (Int × (Int × Unit))))))) :=
  (p_spec_l1Own x0.2.2.1).bind (fun r1 => whl (fun (s3 : Int × Int × (List Int)) c5 => (if s3.1 < (x0.1.length : Int) then jn (fun (s10 : (List Int)) => if 0 ≤ s3.1 then (if (andI .i64 (shrI .i64 x1 s3.1) 1) = 1 then (p_spec_l12Throw (x0.1.getD s3.1.toNat (List.replicate 6 0)) s3.2.1).bind (fun r17 => if s3.1 < (s10.length : Int) then c5 ((IntKind.wrap .i64 (s3.1 + 1)), r17.1, (s10.set s3.1.toNat r17.2)) else none) else c5 ((IntKind.wrap .i64 (s3.1 + 1)), s3.2.1, s10)) else none) (fun k11 => (if (s3.2.2.length : Int) ≤ s3.1 then if (s3.2.2.length : Int) + 1 ≤ 1000000000 then k11 (s3.2.2 ++ [0]) else none else k11 s3.2.2)) else some (x0.1, (s3.2.1, (s3.2.2, ((IntKind.wrap .i64 ((IntKind.wrap .i64 (x0.2.2.2.1 + (p_spec_l12Add s3.2.2))) - x2)), ((p_spec_l1Most x0.2.2.2.2.1 (p_spec_l12Add s3.2.2)), (x0.2.2.2.2.2.1, ())))))))) fu (0, x0.2.1, r1))
/-- loop.example/g01210/spec.l12Place -/
def p_spec_l12Place (x0 : ((List (List Int)) × (Int × ((List Int) × (Int × (Int × (Int × Unit))))))) (x1 : Int) : Bool :=
  (p_spec_l1In x1 0 (IntKind.wrap .i64 ((x0.1.length : Int) - 1)))
/-- loop.example/g01210/spec.ShiftDie -/
def p_spec_ShiftDie (x0 : (List Int)) (x1 : Int) : Option ((List Int) × Bool) :=
  (p_spec_l2Die x0).bind (fun r1 => (if ((!r1) || (!(p_spec_l1In x1 (-30) 30))) = true then some ((List.replicate 6 0), false) else cnt (fun i9 (s8 : (List Int)) c10 _ => c10 (s8.set i9.toNat (IntKind.wrap .i64 ((s8.getD i9.toNat 0) + x1)))) (fun i9 (s8 : (List Int)) => (p_spec_l2Die s8).bind (fun r15 => (if r15 = true then some (s8, true) else some ((List.replicate 6 0), false)))) (Int.toNat (6 - 0)) 0 x0))
/-- loop.example/g01210/spec.l2Own -/
def p_spec_l2Own (x0 : (List (List Int))) : Option ((List (List Int))) :=
  if 0 + (x0.length : Int) ≤ 1000000000 then some ([] ++ x0) else none
/-- loop.example/g01210/spec.l12Dice -/
def p_spec_l12Dicev1 (x0 : ((List (List Int)) × (Int × ((List Int) × (Int × (Int × (Int × Unit))))))) (x1 : (List (List Int))) : ((List (List Int)) × (Int × ((List Int) × (Int × (Int × (Int × Unit)))))) :=
  (x1, (x0.2.1, ([], (x0.2.2.2.1, (x0.2.2.2.2.1, (x0.2.2.2.2.2.1, ()))))))
/-- loop.example/g01210/spec.l12Make -/
def p_spec_l12Make (fu : Nat) (x0 : ((List (List Int)) × (Int × ((List Int) × (Int × (Int × (Int × Unit))))))) (x1 : (Int × (Int × (Int × Unit)))) : Option (((List (List Int)) × (Int × ((List Int) × (Int × (Int × (Int × Unit)))))) × Bool) :=
  (if x1.1 = 1 then (p_spec_l12Rolled fu (p_spec_l12Dice (x0.1, (x0.2.1, (x0.2.2.1, (x0.2.2.2.1, (x0.2.2.2.2.1, (x0.2.2.2.2.2.1, ())))))) x0.1) (IntKind.wrap .i64 ((shlI .i64 1 (x0.1.length : Int)) - 1)) 0).bind (fun r4 => some ((r4.1, (r4.2.1, (r4.2.2.1, (r4.2.2.2.1, (r4.2.2.2.2.1, (r4.2.2.2.2.2.1, ())))))), ((decide (x1.2.1 = 0)) && (decide (x1.2.2.1 = 0))))) else (if x1.1 = 2 then (if (((decide ((x0.2.2.1.length : Int) = 0)) || (!(p_spec_l1In x1.2.1 1 (IntKind.wrap .i64 ((shlI .i64 1 (x0.1.length : Int)) - 1))))) || (!(decide (x1.2.2.1 = 0)))) = true then some ((x0.1, (x0.2.1, (x0.2.2.1, (x0.2.2.2.1, (x0.2.2.2.2.1, (x0.2.2.2.2.2.1, ())))))), false) else (p_spec_l12Rolled fu (x0.1, (x0.2.1, (x0.2.2.1, (x0.2.2.2.1, (x0.2.2.2.2.1, (x0.2.2.2.2.2.1, ())))))) x1.2.1 (p_spec_l12Add x0.2.2.1)).bind (fun r57 => some ((r57.1, (r57.2.1, (r57.2.2.1, (r57.2.2.2.1, (r57.2.2.2.2.1, (r57.2.2.2.2.2.1, ())))))), true))) else (if x1.1 = 3 then (if (p_spec_l12Place (x0.1, (x0.2.1, (x0.2.2.1, (x0.2.2.2.1, (x0.2.2.2.2.1, (x0.2.2.2.2.2.1, ())))))) x1.2.1) = true then if 0 ≤ x1.2.1 then if x1.2.1 < (x0.1.length : Int) then (p_spec_ShiftDie (x0.1.getD x1.2.1.toNat (List.replicate 6 0)) x1.2.2.1).bind (fun r64 => (p_spec_l2Own x0.1).bind (fun r91 => if x1.2.1 < (r91.length : Int) then some (((p_spec_l12Dicev1 (x0.1, (x0.2.1, (x0.2.2.1, (x0.2.2.2.1, (x0.2.2.2.2.1, (x0.2.2.2.2.2.1, ())))))) (r91.set x1.2.1.toNat r64.1)).1, (((p_spec_l12Dicev1 (x0.1, (x0.2.1, (x0.2.2.1, (x0.2.2.2.1, (x0.2.2.2.2.1, (x0.2.2.2.2.2.1, ())))))) (r91.set x1.2.1.toNat r64.1)).2).1, ((((p_spec_l12Dicev1 (x0.1, (x0.2.1, (x0.2.2.1, (x0.2.2.2.1, (x0.2.2.2.2.1, (x0.2.2.2.2.2.1, ())))))) (r91.set x1.2.1.toNat r64.1)).2).2).1, (((((p_spec_l12Dicev1 (x0.1, (x0.2.1, (x0.2.2.1, (x0.2.2.2.1, (x0.2.2.2.2.1, (x0.2.2.2.2.2.1, ())))))) (r91.set x1.2.1.toNat r64.1)).2).2).2).1, ((((((p_spec_l12Dicev1 (x0.1, (x0.2.1, (x0.2.2.1, (x0.2.2.2.1, (x0.2.2.2.2.1, (x0.2.2.2.2.2.1, ())))))) (r91.set x1.2.1.toNat r64.1)).2).2).2).2).1, (((((((p_spec_l12Dicev1 (x0.1, (x0.2.1, (x0.2.2.1, (x0.2.2.2.1, (x0.2.2.2.2.1, (x0.2.2.2.2.2.1, ())))))) (r91.set x1.2.1.toNat r64.1)).2).2).2).2).2).1, ())))))), r64.2) else none)) else none else none else some ((x0.1, (x0.2.1, (x0.2.2.1, (x0.2.2.2.1, (x0.2.2.2.2.1, (x0.2.2.2.2.2.1, ())))))), false)) else (if x1.1 = 4 then (if ((!(p_spec_l1In x1.2.1 0 30)) || (!(p_spec_l1In x1.2.2.1 0 30))) = true then some ((x0.1, (x0.2.1, (x0.2.2.1, (x0.2.2.2.1, (x0.2.2.2.2.1, (x0.2.2.2.2.2.1, ())))))), false) else cnt (fun i107 (s106 : (List Int)) c108 _ => c108 (s106.set i107.toNat (IntKind.wrap .i64 (x1.2.1 + (IntKind.wrap .i64 (i107 * x1.2.2.1)))))) (fun i107 (s106 : (List Int)) => (p_spec_l2Own x0.1).bind (fun r113 => if (r113.length : Int) + 1 ≤ 1000000000 then some (((p_spec_l12Dicev1 (x0.1, (x0.2.1, (x0.2.2.1, (x0.2.2.2.1, (x0.2.2.2.2.1, (x0.2.2.2.2.2.1, ())))))) (r113 ++ [s106])).1, (((p_spec_l12Dicev1 (x0.1, (x0.2.1, (x0.2.2.1, (x0.2.2.2.1, (x0.2.2.2.2.1, (x0.2.2.2.2.2.1, ())))))) (r113 ++ [s106])).2).1, ((((p_spec_l12Dicev1 (x0.1, (x0.2.1, (x0.2.2.1, (x0.2.2.2.1, (x0.2.2.2.2.1, (x0.2.2.2.2.2.1, ())))))) (r113 ++ [s106])).2).2).1, (((((p_spec_l12Dicev1 (x0.1, (x0.2.1, (x0.2.2.1, (x0.2.2.2.1, (x0.2.2.2.2.1, (x0.2.2.2.2.2.1, ())))))) (r113 ++ [s106])).2).2).2).1, ((((((p_spec_l12Dicev1 (x0.1, (x0.2.1, (x0.2.2.1, (x0.2.2.2.1, (x0.2.2.2.2.1, (x0.2.2.2.2.2.1, ())))))) (r113 ++ [s106])).2).2).2).2).1, (((((((p_spec_l12Dicev1 (x0.1, (x0.2.1, (x0.2.2.1, (x0.2.2.2.1, (x0.2.2.2.2.1, (x0.2.2.2.2.2.1, ())))))) (r113 ++ [s106])).2).2).2).2).2).1, ())))))), true) else none)) (Int.toNat (6 - 0)) 0 (List.replicate 6 0)) else (if x1.1 = 5 then (if ((!(p_spec_l12Place (x0.1, (x0.2.1, (x0.2.2.1, (x0.2.2.2.1, (x0.2.2.2.2.1, (x0.2.2.2.2.2.1, ())))))) x1.2.1)) || (!(decide (x1.2.2.1 = 0)))) = true then some ((x0.1, (x0.2.1, (x0.2.2.1, (x0.2.2.2.1, (x0.2.2.2.2.1, (x0.2.2.2.2.2.1, ())))))), false) else if 0 ≤ x1.2.1 then if x1.2.1 ≤ (x0.1.length : Int) then (p_spec_l2Own (x0.1.take x1.2.1.toNat)).bind (fun r153 => if 0 ≤ (IntKind.wrap .i64 (x1.2.1 + 1)) then if (IntKind.wrap .i64 (x1.2.1 + 1)) ≤ (x0.1.length : Int) then if (r153.length : Int) + ((x0.1.length : Int) - (IntKind.wrap .i64 (x1.2.1 + 1))) ≤ 1000000000 then some (((p_spec_l12Dicev1 (x0.1, (x0.2.1, (x0.2.2.1, (x0.2.2.2.1, (x0.2.2.2.2.1, (x0.2.2.2.2.2.1, ())))))) (r153 ++ (x0.1.drop (IntKind.wrap .i64 (x1.2.1 + 1)).toNat))).1, (((p_spec_l12Dicev1 (x0.1, (x0.2.1, (x0.2.2.1, (x0.2.2.2.1, (x0.2.2.2.2.1, (x0.2.2.2.2.2.1, ())))))) (r153 ++ (x0.1.drop (IntKind.wrap .i64 (x1.2.1 + 1)).toNat))).2).1, ((((p_spec_l12Dicev1 (x0.1, (x0.2.1, (x0.2.2.1, (x0.2.2.2.1, (x0.2.2.2.2.1, (x0.2.2.2.2.2.1, ())))))) (r153 ++ (x0.1.drop (IntKind.wrap .i64 (x1.2.1 + 1)).toNat))).2).2).1, (((((p_spec_l12Dicev1 (x0.1, (x0.2.1, (x0.2.2.1, (x0.2.2.2.1, (x0.2.2.2.2.1, (x0.2.2.2.2.2.1, ())))))) (r153 ++ (x0.1.drop (IntKind.wrap .i64 (x1.2.1 + 1)).toNat))).2).2).2).1, ((((((p_spec_l12Dicev1 (x0.1, (x0.2.1, (x0.2.2.1, (x0.2.2.2.1, (x0.2.2.2.2.1, (x0.2.2.2.2.2.1, ())))))) (r153 ++ (x0.1.drop (IntKind.wrap .i64 (x1.2.1 + 1)).toNat))).2).2).2).2).1, (((((((p_spec_l12Dicev1 (x0.1, (x0.2.1, (x0.2.2.1, (x0.2.2.2.1, (x0.2.2.2.2.1, (x0.2.2.2.2.2.1, ())))))) (r153 ++ (x0.1.drop (IntKind.wrap .i64 (x1.2.1 + 1)).toNat))).2).2).2).2).2).1, ())))))), true) else none else none else none) else none else none) else (if x1.1 = 6 then some (((p_spec_l12Dice (x0.1, (x0.2.1, (x0.2.2.1, (0, (0, (x0.2.2.2.2.2.1, ())))))) x0.1).1, (((p_spec_l12Dice (x0.1, (x0.2.1, (x0.2.2.1, (0, (0, (x0.2.2.2.2.2.1, ())))))) x0.1).2).1, ((((p_spec_l12Dice (x0.1, (x0.2.1, (x0.2.2.1, (0, (0, (x0.2.2.2.2.2.1, ())))))) x0.1).2).2).1, (((((p_spec_l12Dice (x0.1, (x0.2.1, (x0.2.2.1, (0, (0, (x0.2.2.2.2.2.1, ())))))) x0.1).2).2).2).1, ((((((p_spec_l12Dice (x0.1, (x0.2.1, (x0.2.2.1, (0, (0, (x0.2.2.2.2.2.1, ())))))) x0.1).2).2).2).2).1, (((((((p_spec_l12Dice (x0.1, (x0.2.1, (x0.2.2.1, (0, (0, (x0.2.2.2.2.2.1, ())))))) x0.1).2).2).2).2).2).1, ())))))), ((decide (x1.2.1 = 0)) && (decide (x1.2.2.1 = 0)))) else some ((x0.1, (x0.2.1, (x0.2.2.1, (x0.2.2.2.1, (x0.2.2.2.2.1, (x0.2.2.2.2.2.1, ())))))), false)))))))
/-- loop.example/g01210/spec.l12Own -/
def p_spec_l12Own (x0 : ((List (List Int)) × (Int × ((List Int) × (Int × (Int × (Int × Unit))))))) : Option (((List (List Int)) × (Int × ((List Int) × (Int × (Int × (Int × Unit))))))) :=
  (p_spec_l2Own x0.1).bind (fun r1 => (p_spec_l1Own x0.2.2.1).bind (fun r3 => some (r1, (x0.2.1, (r3, (x0.2.2.2.1, (x0.2.2.2.2.1, (x0.2.2.2.2.2.1, ()))))))))
/-- loop.example/g01210/spec.l12Do -/
def p_spec_l12Do (fu : Nat) (x0 : ((List (List Int)) × (Int × ((List Int) × (Int × (Int × (Int × Unit))))))) (x1 : (Int × (Int × (Int × Unit)))) : Option (((List (List Int)) × (Int × ((List Int) × (Int × (Int × (Int × Unit)))))) × Bool) :=
  (p_spec_l12Make fu (x0.1, (x0.2.1, (x0.2.2.1, (x0.2.2.2.1, (x0.2.2.2.2.1, (x0.2.2.2.2.2.1, ())))))) (x1.1, (x1.2.1, (x1.2.2.1, ())))).bind (fun r1 => if ((!(!r1.2)) = true → (p_spec_l12Good (r1.1.1, (r1.1.2.1, (r1.1.2.2.1, (r1.1.2.2.2.1, (r1.1.2.2.2.2.1, ((IntKind.wrap .i64 (x0.2.2.2.2.2.1 + 1)), ()))))))).isSome = true) then (if ((!r1.2) || (!((p_spec_l12Good (r1.1.1, (r1.1.2.1, (r1.1.2.2.1, (r1.1.2.2.2.1, (r1.1.2.2.2.2.1, ((IntKind.wrap .i64 (x0.2.2.2.2.2.1 + 1)), ()))))))).getD false))) = true then some (([], (0, ([], (0, (0, (0, ())))))), false) else (p_spec_l12Own (r1.1.1, (r1.1.2.1, (r1.1.2.2.1, (r1.1.2.2.2.1, (r1.1.2.2.2.2.1, ((IntKind.wrap .i64 (x0.2.2.2.2.2.1 + 1)), ()))))))).bind (fun r9 => some ((r9.1, (r9.2.1, (r9.2.2.1, (r9.2.2.2.1, (r9.2.2.2.2.1, (r9.2.2.2.2.2.1, ())))))), true))) else none)
/-- loop.example/g01210/spec.DoTask -/
def p_spec_DoTask (fu : Nat) (x0 : ((List (List Int)) × (Int × ((List Int) × (Int × (Int × (Int × Unit))))))) (x1 : (Int × (Int × (Int × Unit)))) : Option (((List (List Int)) × (Int × ((List Int) × (Int × (Int × (Int × Unit)))))) × Bool) :=
  (p_spec_l12Good (x0.1, (x0.2.1, (x0.2.2.1, (x0.2.2.2.1, (x0.2.2.2.2.1, (x0.2.2.2.2.2.1, ()))))))).bind (fun r1 => (if r1 = true then (p_spec_l12Do fu (x0.1, (x0.2.1, (x0.2.2.1, (x0.2.2.2.1, (x0.2.2.2.2.1, (x0.2.2.2.2.2.1, ())))))) (x1.1, (x1.2.1, (x1.2.2.1, ())))).bind (fun r3 => some ((r3.1.1, (r3.1.2.1, (r3.1.2.2.1, (r3.1.2.2.2.1, (r3.1.2.2.2.2.1, (r3.1.2.2.2.2.2.1, ())))))), r3.2)) else some (([], (0, ([], (0, (0, (0, ())))))), false)))
/-- loop.example/g01210/impl.within -/
def p_impl_within (x0 : Int) (x1 : Int) (x2 : Int) : Bool :=
  ((decide (x1 ≤ x0)) && (decide (x0 ≤ x2)))
/-- loop.example/g01210/impl.isFace -/
def p_impl_isFace (x0 : Int) : Bool :=
  (p_impl_within x0 0 30)
/-- loop.example/g01210/impl.areAll[int]$1 -/
def p_impl_areAll_int_1 (x0 : Int) : Bool :=
  (!(p_impl_isFace x0))
/-- slices.IndexFunc[[]int,int] -/
def p_slices_IndexFunc_int_int (x0 : (List Int)) : Int :=
  cnt (fun i2 (s1 : Unit) c3 _ => (if (p_impl_areAll_int_1 (x0.getD i2.toNat 0)) = true then i2 else c3 ())) (fun i2 (s1 : Unit) => (-1)) (Int.toNat ((x0.length : Int) - 0)) 0 ()
/-- slices.ContainsFunc[[]int,int] -/
def p_slices_ContainsFunc_int_int (x0 : (List Int)) : Bool :=
  (decide (0 ≤ (p_slices_IndexFunc_int_int x0)))
/-- loop.example/g01210/impl.areAll[int] -/
def p_impl_areAll_int (x0 : (List Int)) : Bool :=
  (!(p_slices_ContainsFunc_int_int x0))
/-- cmp.isNaN[int] -/
def p_cmp_isNaN_int (x0 : Int) : Bool :=
  (!(decide (x0 = x0)))
/-- cmp.Less[int] -/
def p_cmp_Less_int (x0 : Int) (x1 : Int) : Bool :=
  (((p_cmp_isNaN_int x0) && (!(p_cmp_isNaN_int x1))) || (decide (x0 < x1)))
/-- slices.IsSorted[[]int,int] -/
def p_slices_IsSorted_int_int (x0 : (List Int)) : Bool :=
  cntd (fun i2 (s1 : Unit) c3 _ => (if (p_cmp_Less_int (x0.getD i2.toNat 0) (x0.getD (i2 - 1).toNat 0)) = true then false else c3 ())) (fun i2 (s1 : Unit) => true) (Int.toNat (((x0.length : Int) - 1) - 0)) ((x0.length : Int) - 1) ()
/-- loop.example/g01210/impl.IsDie -/
def p_impl_IsDie (x0 : (List Int)) : Bool :=
  ((p_impl_areAll_int x0) && (p_slices_IsSorted_int_int x0))
/-- loop.example/g01210/impl.areAll[[6]int]$1 -/
def p_impl_areAll_6_int_1 (x0 : (List Int)) : Bool :=
  (!(p_impl_IsDie x0))
/-- slices.IndexFunc[[][6]int,[6]int] -/
def p_slices_IndexFunc_6_int_6_int (x0 : (List (List Int))) : Int :=
  cnt (fun i2 (s1 : Unit) c3 _ => (if (p_impl_areAll_6_int_1 (x0.getD i2.toNat (List.replicate 6 0))) = true then i2 else c3 ())) (fun i2 (s1 : Unit) => (-1)) (Int.toNat ((x0.length : Int) - 0)) 0 ()
/-- slices.ContainsFunc[[][6]int,[6]int] -/
def p_slices_ContainsFunc_6_int_6_int (x0 : (List (List Int))) : Bool :=
  (decide (0 ≤ (p_slices_IndexFunc_6_int_6_int x0)))
/-- loop.example/g01210/impl.areAll[[6]int] -/
def p_impl_areAll_6_int (x0 : (List (List Int))) : Bool :=
  (!(p_slices_ContainsFunc_6_int_6_int x0))
/-- loop.example/g01210/impl.IsPool -/
def p_impl_IsPool (x0 : (List (List Int))) : Bool :=
  ((p_impl_within (x0.length : Int) 1 4) && (p_impl_areAll_6_int x0))
/-- slices.Index[[]int,int] -/
def p_slices_Index_int_int (x0 : (List Int)) (x1 : Int) : Int :=
  cnt (fun i2 (s1 : Unit) c3 _ => (if x1 = (x0.getD i2.toNat 0) then i2 else c3 ())) (fun i2 (s1 : Unit) => (-1)) (Int.toNat ((x0.length : Int) - 0)) 0 ()
/-- slices.Contains[[]int,int] -/
def p_slices_Contains_int_int (x0 : (List Int)) (x1 : Int) : Bool :=
  (decide (0 ≤ (p_slices_Index_int_int x0 x1)))
/-- loop.example/g01210/impl.has -/
def p_impl_has (x0 : (List Int)) (x1 : Int) : Bool :=
  (p_slices_Contains_int_int x0 x1)
/-- (loop.example/g01210/impl.Tavern).isLast -/
def p_impl_Tavern_isLast (fu : Nat) (x0 : ((List (List Int)) × (Int × ((List Int) × (Int × (Int × (Int × Unit))))))) : Option (Bool) :=
  (if (x0.2.2.1.length : Int) = 0 then some true else whl (fun (s4 : Int) c6 => (if s4 < (x0.2.2.1.length : Int) then if 0 ≤ s4 then (if ((decide ((x0.1.length : Int) ≤ s4)) || (!(p_impl_has (x0.1.getD s4.toNat (List.replicate 6 0)) (x0.2.2.1.getD s4.toNat 0)))) = true then some false else c6 (IntKind.wrap .i64 (s4 + 1))) else none else some (decide ((x0.2.2.1.length : Int) = (x0.1.length : Int))))) fu 0)
/-- loop.example/g01210/impl.IsTavern -/
def p_impl_IsTavern (fu : Nat) (x0 : ((List (List Int)) × (Int × ((List Int) × (Int × (Int × (Int × Unit))))))) : Option (Bool) :=
  if ((((((p_impl_IsPool x0.1) && (p_impl_within x0.2.1 0 65535)) && (p_impl_within x0.2.2.2.1 0 100000)) && (p_impl_within x0.2.2.2.2.1 0 120)) && (p_impl_within x0.2.2.2.2.2.1 0 1000)) = true → (p_impl_Tavern_isLast fu (x0.1, (x0.2.1, (x0.2.2.1, (x0.2.2.2.1, (x0.2.2.2.2.1, (x0.2.2.2.2.2.1, ()))))))).isSome = true) then some ((((((p_impl_IsPool x0.1) && (p_impl_within x0.2.1 0 65535)) && (p_impl_within x0.2.2.2.1 0 100000)) && (p_impl_within x0.2.2.2.2.1 0 120)) && (p_impl_within x0.2.2.2.2.2.1 0 1000)) && ((p_impl_Tavern_isLast fu (x0.1, (x0.2.1, (x0.2.2.1, (x0.2.2.2.1, (x0.2.2.2.2.1, (x0.2.2.2.2.2.1, ()))))))).getD false)) else none
/-- slices.Clone[[][6]int,[6]int] -/
def p_slices_Clone_6_int_6_int (x0 : (List (List Int))) : Option ((List (List Int))) :=
  if 0 + (x0.length : Int) ≤ 1000000000 then some ([] ++ x0) else none
/-- slices.Clone[[]int,int] -/
def p_slices_Clone_int_int (x0 : (List Int)) : Option ((List Int)) :=
  if 0 + (x0.length : Int) ≤ 1000000000 then some ([] ++ x0) else none
/-- (loop.example/g01210/impl.Tavern).own -/
def p_impl_Tavern_own (x0 : ((List (List Int)) × (Int × ((List Int) × (Int × (Int × (Int × Unit))))))) : Option (((List (List Int)) × (Int × ((List Int) × (Int × (Int × (Int × Unit))))))) :=
  (p_slices_Clone_6_int_6_int x0.1).bind (fun r1 => (p_slices_Clone_int_int x0.2.2.1).bind (fun r3 => some (r1, (x0.2.1, (r3, (x0.2.2.2.1, (x0.2.2.2.2.1, (x0.2.2.2.2.2.1, ()))))))))
/-- (*loop.example/g01210/impl.Tavern).throw -/
def p_impl_Tavern_throwv1 (x0 : Int) (x1 : Int) (x2 : Int) (x3 : Int) (x4 : Int) (x5 : (List (List Int))) (x6 : (List Int)) : Option (Int × Int) :=
  if 0 ≤ x0 then if x0 < (x5.length : Int) then if 0 ≤ ((IntKind.wrap .i64 (((IntKind.wrap .i64 ((IntKind.wrap .i64 (25173 * x1)) + 13849)).tmod 65536).tdiv 256)).tmod 6) then if ((IntKind.wrap .i64 (((IntKind.wrap .i64 ((IntKind.wrap .i64 (25173 * x1)) + 13849)).tmod 65536).tdiv 256)).tmod 6) < 6 then some (((x5.getD x0.toNat (List.replicate 6 0)).getD ((IntKind.wrap .i64 (((IntKind.wrap .i64 ((IntKind.wrap .i64 (25173 * x1)) + 13849)).tmod 65536).tdiv 256)).tmod 6).toNat 0), ((IntKind.wrap .i64 ((IntKind.wrap .i64 (25173 * x1)) + 13849)).tmod 65536)) else none else none else none else none
/-- loop.example/g01210/impl.total -/
def p_impl_total (x0 : (List Int)) : Int :=
  cnt (fun i2 (s1 : Int) c3 _ => c3 (IntKind.wrap .i64 (s1 + (x0.getD i2.toNat 0)))) (fun i2 (s1 : Int) => s1) (Int.toNat ((x0.length : Int) - 0)) 0 0
/-- (*loop.example/g01210/impl.Tavern).roll -/
def p_impl_Tavern_roll (x0 : Int) (x1 : Int) (x2 : Int) (x3 : Int) (x4 : (List (List Int))) (x5 : (List Int)) : Option (Bool × Int × Int × Int × (List Int)) :=
  cnt (fun i2 (s1 : Int × (List Int)) c3 _ => (p_impl_Tavern_throwv1 i2 s1.1 x1 x2 x3 x4 s1.2).bind (fun r8 => if (s1.2.length : Int) + 1 ≤ 1000000000 then c3 (r8.2, (s1.2 ++ [r8.1])) else none)) (fun i2 (s1 : Int × (List Int)) => some (true, s1.1, (IntKind.wrap .i64 (x1 + (p_impl_total s1.2))), (if (p_impl_total s1.2) > x2 then (p_impl_total s1.2) else x2), s1.2)) (Int.toNat ((x4.length : Int) - 0)) 0 (x0, [])
/-- loop.example/g01210/impl.isIn -/
def p_impl_isIn (x0 : Int) (x1 : Int) : Option (Bool) :=
  if 0 ≤ x1 then some (decide ((andI .i64 (shrI .i64 x0 x1) 1) = 1)) else none
/-- (*loop.example/g01210/impl.Tavern).again -/
def p_impl_Tavern_again (x0 : Int) (x1 : Int) (x2 : Int) (x3 : Int) (x4 : Int) (x5 : (List (List Int))) (x6 : (List Int)) : Option (Bool × Int × Int × Int × (List Int)) :=
  (if ((decide ((x6.length : Int) = 0)) || (!(p_impl_within x0 1 (IntKind.wrap .i64 ((shlI .i64 1 (x5.length : Int)) - 1))))) = true then some (false, x1, x2, x3, x6) else cnt (fun i26 (s25 : Int × (List Int)) c27 _ => (p_impl_isIn x0 i26).bind (fun r32 => (if r32 = true then (p_impl_Tavern_throwv1 i26 s25.1 x2 x3 x4 x5 s25.2).bind (fun r34 => if i26 < (x6.length : Int) then c27 (r34.2, (s25.2.set i26.toNat r34.1)) else none) else c27 (s25.1, s25.2)))) (fun i26 (s25 : Int × (List Int)) => some (true, s25.1, (IntKind.wrap .i64 (x2 + (IntKind.wrap .i64 ((p_impl_total s25.2) - (p_impl_total x6))))), (if (p_impl_total s25.2) > x3 then (p_impl_total s25.2) else x3), s25.2)) (Int.toNat ((x5.length : Int) - 0)) 0 (x1, x6))
/-- (*loop.example/g01210/impl.Tavern).isPlace -/
def p_impl_Tavern_isPlace (x0 : Int) (x1 : Int) (x2 : Int) (x3 : Int) (x4 : Int) (x5 : (List (List Int))) (x6 : (List Int)) : Bool :=
  (p_impl_within x0 0 ((x5.length : Int) - 1))
/-- loop.example/g01210/impl.shifted -/
def p_impl_shifted (x0 : (List Int)) (x1 : Int) : (List Int) :=
  cnt (fun i2 (s1 : (List Int)) c3 _ => c3 (s1.set i2.toNat (IntKind.wrap .i64 ((s1.getD i2.toNat 0) + x1)))) (fun i2 (s1 : (List Int)) => s1) (Int.toNat (6 - 0)) 0 x0
/-- loop.example/g01210/impl.ShiftDie -/
def p_impl_ShiftDie (x0 : (List Int)) (x1 : Int) : (List Int) × Bool :=
  (if (((!(p_impl_IsDie x0)) || (!(p_impl_within x1 (-30) 30))) || (!(p_impl_IsDie (p_impl_shifted x0 x1)))) = true then ((List.replicate 6 0), false) else ((p_impl_shifted x0 x1), true))
/-- (*loop.example/g01210/impl.Tavern).shift -/
def p_impl_Tavern_shift (x0 : Int) (x1 : Int) (x2 : Int) (x3 : Int) (x4 : Int) (x5 : Int) (x6 : (List (List Int))) (x7 : (List Int)) : Option (Bool × (List (List Int)) × (List Int)) :=
  (if (p_impl_Tavern_isPlace x0 x2 x3 x4 x5 x6 x7) = true then if 0 ≤ x0 then if x0 < (x6.length : Int) then some (((p_impl_ShiftDie (x6.getD x0.toNat (List.replicate 6 0)) x1).2), (x6.set x0.toNat ((p_impl_ShiftDie (x6.getD x0.toNat (List.replicate 6 0)) x1).1)), []) else none else none else some (false, x6, x7))
/-- (*loop.example/g01210/impl.Tavern).put -/
def p_impl_Tavern_put (x0 : Int) (x1 : Int) (x2 : Int) (x3 : Int) (x4 : Int) (x5 : Int) (x6 : (List (List Int))) (x7 : (List Int)) : Option (Bool × (List (List Int)) × (List Int)) :=
  (if ((!(p_impl_isFace x0)) || (!(p_impl_isFace x1))) = true then some (false, x6, x7) else cnt (fun i8 (s7 : (List Int)) c9 _ => c9 (s7.set i8.toNat (IntKind.wrap .i64 (x0 + (IntKind.wrap .i64 (i8 * x1)))))) (fun i8 (s7 : (List Int)) => if (x6.length : Int) + 1 ≤ 1000000000 then some (true, (x6 ++ [s7]), []) else none) (Int.toNat (6 - 0)) 0 (List.replicate 6 0))
/-- slices.Delete[[][6]int,[6]int] -/
def p_slices_Delete_6_int_6_int (x0 : (List (List Int))) (x1 : Int) (x2 : Int) : Option ((List (List Int))) :=
  if 0 ≤ x1 then if x1 ≤ x2 then if x2 ≤ (x0.length : Int) then (if x1 = x2 then some x0 else if (x0.length : Int) ≤ 1000000000 then some (((x0.take x1.toNat ++ ((x0.drop x2.toNat).take ((x0.length : Int) - x2).toNat) ++ x0.drop (x1.toNat + ((x0.length : Int) - x2).toNat)).take (((x1.toNat + ((x0.length : Int) - x2).toNat) : Nat) : Int).toNat ++ (List.replicate ((x0.length : Int) - (((x1.toNat + ((x0.length : Int) - x2).toNat) : Nat) : Int)).toNat (List.replicate 6 0) ++ (x0.take x1.toNat ++ ((x0.drop x2.toNat).take ((x0.length : Int) - x2).toNat) ++ x0.drop (x1.toNat + ((x0.length : Int) - x2).toNat)).drop ((((x1.toNat + ((x0.length : Int) - x2).toNat) : Nat) : Int).toNat + ((x0.length : Int) - (((x1.toNat + ((x0.length : Int) - x2).toNat) : Nat) : Int)).toNat))).take (x1.toNat + ((x0.length : Int) - x2).toNat)) else none) else none else none else none
/-- (*loop.example/g01210/impl.Tavern).take -/
def p_impl_Tavern_take (x0 : Int) (x1 : Int) (x2 : Int) (x3 : Int) (x4 : Int) (x5 : (List (List Int))) (x6 : (List Int)) : Option (Bool × (List (List Int)) × (List Int)) :=
  (if (p_impl_Tavern_isPlace x0 x1 x2 x3 x4 x5 x6) = true then (p_slices_Delete_6_int_6_int x5 x0 (IntKind.wrap .i64 (x0 + 1))).bind (fun r2 => some (true, r2, [])) else some (false, x5, x6))
/-- (*loop.example/g01210/impl.Tavern).turn -/
def p_impl_Tavern_turn (x0 : (Int × (Int × (Int × Unit)))) (x1 : Int) (x2 : Int) (x3 : Int) (x4 : Int) (x5 : (List (List Int))) (x6 : (List Int)) : Option (Bool × Int × Int × Int × (List (List Int)) × (List Int)) :=
  (if x0.1 = 1 then (if ((decide (x0.2.1 = 0)) && (decide (x0.2.2.1 = 0))) = true then (p_impl_Tavern_roll x1 x2 x3 x4 x5 x6).bind (fun r15 => some (r15.1, r15.2.1, r15.2.2.1, r15.2.2.2.1, x5, r15.2.2.2.2)) else some (false, x1, x2, x3, x5, x6)) else (if x0.1 = 2 then (if x0.2.2.1 = 0 then (p_impl_Tavern_again x0.2.1 x1 x2 x3 x4 x5 x6).bind (fun r22 => some (r22.1, r22.2.1, r22.2.2.1, r22.2.2.2.1, x5, r22.2.2.2.2)) else some (false, x1, x2, x3, x5, x6)) else (if x0.1 = 3 then (p_impl_Tavern_shift x0.2.1 x0.2.2.1 x1 x2 x3 x4 x5 x6).bind (fun r26 => some (r26.1, x1, x2, x3, r26.2.1, r26.2.2)) else (if x0.1 = 4 then (p_impl_Tavern_put x0.2.1 x0.2.2.1 x1 x2 x3 x4 x5 x6).bind (fun r30 => some (r30.1, x1, x2, x3, r30.2.1, r30.2.2)) else (if x0.1 = 5 then (if x0.2.2.1 = 0 then (p_impl_Tavern_take x0.2.1 x1 x2 x3 x4 x5 x6).bind (fun r37 => some (r37.1, x1, x2, x3, r37.2.1, r37.2.2)) else some (false, x1, x2, x3, x5, x6)) else (if x0.1 = 6 then some (((decide (x0.2.1 = 0)) && (decide (x0.2.2.1 = 0))), x1, 0, 0, x5, []) else some (false, x1, x2, x3, x5, x6)))))))
/-- (loop.example/g01210/impl.Tavern).done -/
def p_impl_Tavern_done (fu : Nat) (x0 : ((List (List Int)) × (Int × ((List Int) × (Int × (Int × (Int × Unit))))))) (x1 : (Int × (Int × (Int × Unit)))) : Option (((List (List Int)) × (Int × ((List Int) × (Int × (Int × (Int × Unit)))))) × Bool) :=
  (p_impl_Tavern_own (x0.1, (x0.2.1, (x0.2.2.1, (x0.2.2.2.1, (x0.2.2.2.2.1, (x0.2.2.2.2.2.1, ()))))))).bind (fun r1 => (p_impl_Tavern_turn (x1.1, (x1.2.1, (x1.2.2.1, ()))) r1.2.1 r1.2.2.2.1 r1.2.2.2.2.1 r1.2.2.2.2.2.1 r1.1 r1.2.2.1).bind (fun r4 => if ((!(!r4.1)) = true → (p_impl_IsTavern fu (r4.2.2.2.2.1, (r4.2.1, (r4.2.2.2.2.2, (r4.2.2.1, (r4.2.2.2.1, ((IntKind.wrap .i64 (r1.2.2.2.2.2.1 + 1)), ()))))))).isSome = true) then (if ((!r4.1) || (!((p_impl_IsTavern fu (r4.2.2.2.2.1, (r4.2.1, (r4.2.2.2.2.2, (r4.2.2.1, (r4.2.2.2.1, ((IntKind.wrap .i64 (r1.2.2.2.2.2.1 + 1)), ()))))))).getD false))) = true then some (([], (0, ([], (0, (0, (0, ())))))), false) else (p_impl_Tavern_own (r4.2.2.2.2.1, (r4.2.1, (r4.2.2.2.2.2, (r4.2.2.1, (r4.2.2.2.1, ((IntKind.wrap .i64 (r1.2.2.2.2.2.1 + 1)), ()))))))).bind (fun r12 => some ((r12.1, (r12.2.1, (r12.2.2.1, (r12.2.2.2.1, (r12.2.2.2.2.1, (r12.2.2.2.2.2.1, ())))))), true))) else none))
/-- loop.example/g01210/impl.DoTask -/
def p_impl_DoTask (fu : Nat) (x0 : ((List (List Int)) × (Int × ((List Int) × (Int × (Int × (Int × Unit))))))) (x1 : (Int × (Int × (Int × Unit)))) : Option (((List (List Int)) × (Int × ((List Int) × (Int × (Int × (Int × Unit)))))) × Bool) :=
  (p_impl_IsTavern fu (x0.1, (x0.2.1, (x0.2.2.1, (x0.2.2.2.1, (x0.2.2.2.2.1, (x0.2.2.2.2.2.1, ()))))))).bind (fun r1 => (if r1 = true then (p_impl_Tavern_done fu (x0.1, (x0.2.1, (x0.2.2.1, (x0.2.2.2.1, (x0.2.2.2.2.1, (x0.2.2.2.2.2.1, ())))))) (x1.1, (x1.2.1, (x1.2.2.1, ())))).bind (fun r3 => some ((r3.1.1, (r3.1.2.1, (r3.1.2.2.1, (r3.1.2.2.2.1, (r3.1.2.2.2.2.1, (r3.1.2.2.2.2.2.1, ())))))), r3.2)) else some (([], (0, ([], (0, (0, (0, ())))))), false)))
/-- loop.example/g01210/laws.eqIntA6 -/
def p_laws_eqIntA6 (x0 : (List Int)) (x1 : (List Int)) : Bool :=
  cnt (fun i2 (s1 : Unit) c3 _ => (if (x0.getD i2.toNat 0) = (x1.getD i2.toNat 0) then c3 () else false)) (fun i2 (s1 : Unit) => true) (Int.toNat (6 - 0)) 0 ()
/-- loop.example/g01210/laws.eqIntA6S -/
def p_laws_eqIntA6S (x0 : (List (List Int))) (x1 : (List (List Int))) : Bool :=
  (if (x0.length : Int) = (x1.length : Int) then cnt (fun i5 (s4 : Unit) c6 _ => (if (p_laws_eqIntA6 (x0.getD i5.toNat (List.replicate 6 0)) (x1.getD i5.toNat (List.replicate 6 0))) = true then c6 () else false)) (fun i5 (s4 : Unit) => true) (Int.toNat ((x0.length : Int) - 0)) 0 () else false)
/-- loop.example/g01210/laws.eqIntS -/
def p_laws_eqIntS (x0 : (List Int)) (x1 : (List Int)) : Bool :=
  (if (x0.length : Int) = (x1.length : Int) then cnt (fun i5 (s4 : Unit) c6 _ => (if (x0.getD i5.toNat 0) = (x1.getD i5.toNat 0) then c6 () else false)) (fun i5 (s4 : Unit) => true) (Int.toNat ((x0.length : Int) - 0)) 0 () else false)
/-- loop.example/g01210/laws.eqTavern -/
def p_laws_eqTavern (x0 : ((List (List Int)) × (Int × ((List Int) × (Int × (Int × (Int × Unit))))))) (x1 : ((List (List Int)) × (Int × ((List Int) × (Int × (Int × (Int × Unit))))))) : Bool :=
  (if (p_laws_eqIntA6S x0.1 x1.1) = true then (if x0.2.1 = x1.2.1 then (if (p_laws_eqIntS x0.2.2.1 x1.2.2.1) = true then (if x0.2.2.2.1 = x1.2.2.2.1 then (if x0.2.2.2.2.1 = x1.2.2.2.2.1 then (if x0.2.2.2.2.2.1 = x1.2.2.2.2.2.1 then true else false) else false) else false) else false) else false) else false)
/-- loop.example/g01210/laws.markIntA6S -/
def p_laws_markIntA6S (x0 : (List (List Int))) (x1 : Int) : Int × (List (List Int)) :=
  cnt (fun i2 (s1 : Int × (List (List Int))) c3 _ => cnt (fun i9 (s8 : Int × (List (List Int))) c10 _ => c10 ((IntKind.wrap .i64 (s8.1 + 1)), (s8.2.set i2.toNat ((s8.2.getD i2.toNat (List.replicate 6 0)).set i9.toNat s8.1)))) (fun i9 (s8 : Int × (List (List Int))) => c3 (s8.1, s8.2)) (Int.toNat (6 - 0)) 0 (s1.1, s1.2)) (fun i2 (s1 : Int × (List (List Int))) => (s1.1, s1.2)) (Int.toNat ((x0.length : Int) - 0)) 0 (x1, x0)
/-- loop.example/g01210/laws.markIntS -/
def p_laws_markIntS (x0 : (List Int)) (x1 : Int) : Int × (List Int) :=
  cnt (fun i2 (s1 : Int × (List Int)) c3 _ => c3 ((IntKind.wrap .i64 (s1.1 + 1)), (s1.2.set i2.toNat s1.1))) (fun i2 (s1 : Int × (List Int)) => (s1.1, s1.2)) (Int.toNat ((x0.length : Int) - 0)) 0 (x1, x0)
/-- loop.example/g01210/laws.markTavern -/
def p_laws_markTavern (x0 : (List (List Int))) (x1 : Int) (x2 : (List Int)) (x3 : Int) (x4 : Int) (x5 : Int) (x6 : Int) : Int × (List (List Int)) × (List Int) :=
  ((p_laws_markIntS x2 ((p_laws_markIntA6S x0 x6).1)).1, (p_laws_markIntA6S x0 x6).2, (p_laws_markIntS x2 ((p_laws_markIntA6S x0 x6).1)).2)
/-- loop.example/g01210/laws.heldIntA6S -/
def p_laws_heldIntA6S (x0 : (List (List Int))) (x1 : Int) : Int :=
  cnt (fun i2 (s1 : Int) c3 _ => cnt (fun i9 (s8 : Int) c10 _ => (if ((x0.getD i2.toNat (List.replicate 6 0)).getD i9.toNat 0) = s8 then c10 (IntKind.wrap .i64 (s8 + 1)) else (-1))) (fun i9 (s8 : Int) => c3 s8) (Int.toNat (6 - 0)) 0 s1) (fun i2 (s1 : Int) => s1) (Int.toNat ((x0.length : Int) - 0)) 0 x1
/-- loop.example/g01210/laws.heldIntS -/
def p_laws_heldIntS (x0 : (List Int)) (x1 : Int) : Int :=
  cnt (fun i2 (s1 : Int) c3 _ => (if (x0.getD i2.toNat 0) = s1 then c3 (IntKind.wrap .i64 (s1 + 1)) else (-1))) (fun i2 (s1 : Int) => s1) (Int.toNat ((x0.length : Int) - 0)) 0 x1
/-- loop.example/g01210/laws.heldTavern -/
def p_laws_heldTavern (x0 : ((List (List Int)) × (Int × ((List Int) × (Int × (Int × (Int × Unit))))))) (x1 : Int) : Int :=
  (if (p_laws_heldIntA6S x0.1 x1) < 0 then (-1) else (if (p_laws_heldIntS x0.2.2.1 (p_laws_heldIntA6S x0.1 x1)) < 0 then (-1) else (p_laws_heldIntS x0.2.2.1 (p_laws_heldIntA6S x0.1 x1))))
/-- loop.example/g01210/laws.FnExactDoTask -/
def p_laws_FnExactDoTask (fu : Nat) (x0 : ((List (List Int)) × (Int × ((List Int) × (Int × (Int × (Int × Unit))))))) (x1 : (Int × (Int × (Int × Unit)))) : Option (Bool) :=
  (if (p_laws_szTavern (x0.1, (x0.2.1, (x0.2.2.1, (x0.2.2.2.1, (x0.2.2.2.2.1, (x0.2.2.2.2.2.1, ())))))) 1048576) < 0 then some true else (p_laws_toTavern (x0.1, (x0.2.1, (x0.2.2.1, (x0.2.2.2.1, (x0.2.2.2.2.1, (x0.2.2.2.2.2.1, ()))))))).bind (fun r4 => (p_spec_DoTask fu (r4.1, (r4.2.1, (r4.2.2.1, (r4.2.2.2.1, (r4.2.2.2.2.1, (r4.2.2.2.2.2.1, ())))))) (p_laws_toTask (x1.1, (x1.2.1, (x1.2.2.1, ()))))).bind (fun r7 => (p_laws_toTavern (x0.1, (x0.2.1, (x0.2.2.1, (x0.2.2.2.1, (x0.2.2.2.2.1, (x0.2.2.2.2.2.1, ()))))))).bind (fun r28 => (p_impl_DoTask fu (r28.1, (r28.2.1, (r28.2.2.1, (r28.2.2.2.1, (r28.2.2.2.2.1, (r28.2.2.2.2.2.1, ())))))) (p_laws_toTask (x1.1, (x1.2.1, (x1.2.2.1, ()))))).bind (fun r31 => (if ((!(p_laws_eqTavern (r31.1.1, (r31.1.2.1, (r31.1.2.2.1, (r31.1.2.2.2.1, (r31.1.2.2.2.2.1, (r31.1.2.2.2.2.2.1, ())))))) (r7.1.1, (r7.1.2.1, (r7.1.2.2.1, (r7.1.2.2.2.1, (r7.1.2.2.2.2.1, (r7.1.2.2.2.2.2.1, ())))))))) || (r31.2 != r7.2)) = true then some false else (p_laws_toTavern (x0.1, (x0.2.1, (x0.2.2.1, (x0.2.2.2.1, (x0.2.2.2.2.1, (x0.2.2.2.2.2.1, ()))))))).bind (fun r56 => (if (p_laws_eqTavern (r28.1, (r28.2.1, (r28.2.2.1, (r28.2.2.2.1, (r28.2.2.2.2.1, (r28.2.2.2.2.2.1, ())))))) (r56.1, (r56.2.1, (r56.2.2.1, (r56.2.2.2.1, (r56.2.2.2.2.1, (r56.2.2.2.2.2.1, ()))))))) = true then (if (((decide ((p_laws_markTavern r28.1 r28.2.1 r28.2.2.1 r28.2.2.2.1 r28.2.2.2.2.1 r28.2.2.2.2.2.1 1).1 < 0)) || (!(p_laws_eqTavern (r31.1.1, (r31.1.2.1, (r31.1.2.2.1, (r31.1.2.2.2.1, (r31.1.2.2.2.2.1, (r31.1.2.2.2.2.2.1, ())))))) (r7.1.1, (r7.1.2.1, (r7.1.2.2.1, (r7.1.2.2.2.1, (r7.1.2.2.2.2.1, (r7.1.2.2.2.2.2.1, ()))))))))) || (r31.2 != r7.2)) = true then some false else (if (p_laws_heldTavern ((p_laws_markTavern r31.1.1 r31.1.2.1 r31.1.2.2.1 r31.1.2.2.2.1 r31.1.2.2.2.2.1 r31.1.2.2.2.2.2.1 1).2.1, (r31.1.2.1, ((p_laws_markTavern r31.1.1 r31.1.2.1 r31.1.2.2.1 r31.1.2.2.2.1 r31.1.2.2.2.2.1 r31.1.2.2.2.2.2.1 1).2.2, (r31.1.2.2.2.1, (r31.1.2.2.2.2.1, (r31.1.2.2.2.2.2.1, ())))))) 1) < 0 then some false else (if (p_laws_heldTavern ((p_laws_markTavern r31.1.1 r31.1.2.1 r31.1.2.2.1 r31.1.2.2.2.1 r31.1.2.2.2.2.1 r31.1.2.2.2.2.2.1 1).2.1, (r31.1.2.1, ((p_laws_markTavern r31.1.1 r31.1.2.1 r31.1.2.2.1 r31.1.2.2.2.1 r31.1.2.2.2.2.1 r31.1.2.2.2.2.2.1 1).2.2, (r31.1.2.2.2.1, (r31.1.2.2.2.2.1, (r31.1.2.2.2.2.2.1, ())))))) 1) = (p_laws_markTavern r31.1.1 r31.1.2.1 r31.1.2.2.1 r31.1.2.2.2.1 r31.1.2.2.2.2.1 r31.1.2.2.2.2.2.1 1).1 then (p_laws_toTavern (x0.1, (x0.2.1, (x0.2.2.1, (x0.2.2.2.1, (x0.2.2.2.2.1, (x0.2.2.2.2.2.1, ()))))))).bind (fun r92 => (p_impl_DoTask fu (r92.1, (r92.2.1, (r92.2.2.1, (r92.2.2.2.1, (r92.2.2.2.2.1, (r92.2.2.2.2.2.1, ())))))) (p_laws_toTask (x1.1, (x1.2.1, (x1.2.2.1, ()))))).bind (fun r95 => (if ((!(p_laws_eqTavern (r95.1.1, (r95.1.2.1, (r95.1.2.2.1, (r95.1.2.2.2.1, (r95.1.2.2.2.2.1, (r95.1.2.2.2.2.2.1, ())))))) (r7.1.1, (r7.1.2.1, (r7.1.2.2.1, (r7.1.2.2.2.1, (r7.1.2.2.2.2.1, (r7.1.2.2.2.2.2.1, ())))))))) || (r95.2 != r7.2)) = true then some false else (if (p_laws_heldTavern ((p_laws_markTavern r31.1.1 r31.1.2.1 r31.1.2.2.1 r31.1.2.2.2.1 r31.1.2.2.2.2.1 r31.1.2.2.2.2.2.1 1).2.1, (r31.1.2.1, ((p_laws_markTavern r31.1.1 r31.1.2.1 r31.1.2.2.1 r31.1.2.2.2.1 r31.1.2.2.2.2.1 r31.1.2.2.2.2.2.1 1).2.2, (r31.1.2.2.2.1, (r31.1.2.2.2.2.1, (r31.1.2.2.2.2.2.1, ())))))) 1) < 0 then some false else (if (p_laws_heldTavern ((p_laws_markTavern r31.1.1 r31.1.2.1 r31.1.2.2.1 r31.1.2.2.2.1 r31.1.2.2.2.2.1 r31.1.2.2.2.2.2.1 1).2.1, (r31.1.2.1, ((p_laws_markTavern r31.1.1 r31.1.2.1 r31.1.2.2.1 r31.1.2.2.2.1 r31.1.2.2.2.2.1 r31.1.2.2.2.2.2.1 1).2.2, (r31.1.2.2.2.1, (r31.1.2.2.2.2.1, (r31.1.2.2.2.2.2.1, ())))))) 1) = (p_laws_markTavern r31.1.1 r31.1.2.1 r31.1.2.2.1 r31.1.2.2.2.1 r31.1.2.2.2.2.1 r31.1.2.2.2.2.2.1 1).1 then some true else some false))))) else some false))) else some false))))))))
/-- loop.example/g01210/laws.szTaskS -/
def p_laws_szTaskS (x0 : (List (Int × (Int × (Int × Unit))))) (x1 : Int) : Int :=
  (if (IntKind.wrap .i64 (x1 - (x0.length : Int))) < 0 then (-1) else (IntKind.wrap .i64 (x1 - (x0.length : Int))))
/-- loop.example/g01210/laws.toTaskS -/
def p_laws_toTaskS (x0 : (List (Int × (Int × (Int × Unit))))) : Option ((List (Int × (Int × (Int × Unit))))) :=
  if (x0.length : Int) ≤ 1000000000 then cnt (fun i3 (s2 : (List (Int × (Int × (Int × Unit))))) c4 _ => c4 (s2.set i3.toNat (p_laws_toTask (x0.getD i3.toNat (0, (0, (0, ()))))))) (fun i3 (s2 : (List (Int × (Int × (Int × Unit))))) => some s2) (Int.toNat ((x0.length : Int) - 0)) 0 (List.replicate (x0.length : Int).toNat (0, (0, (0, ())))) else none
/-- loop.example/g01210/spec.DoTasks -/
def p_spec_DoTasks (fu : Nat) (x0 : ((List (List Int)) × (Int × ((List Int) × (Int × (Int × (Int × Unit))))))) (x1 : (List (Int × (Int × (Int × Unit))))) : Option (((List (List Int)) × (Int × ((List Int) × (Int × (Int × (Int × Unit)))))) × Int × Bool) :=
  (p_spec_l12Good (x0.1, (x0.2.1, (x0.2.2.1, (x0.2.2.2.1, (x0.2.2.2.2.1, (x0.2.2.2.2.2.1, ()))))))).bind (fun r1 => (if r1 = true then (p_spec_l12Own (x0.1, (x0.2.1, (x0.2.2.1, (x0.2.2.2.1, (x0.2.2.2.2.1, (x0.2.2.2.2.2.1, ()))))))).bind (fun r3 => cnt (fun i7 (s6 : Int × Int × Int × Int × (List (List Int)) × (List Int)) c8 _ => (p_spec_l12Do fu (s6.2.2.2.2.1, (s6.1, (s6.2.2.2.2.2, (s6.2.1, (s6.2.2.1, (s6.2.2.2.1, ())))))) (x1.getD i7.toNat (0, (0, (0, ()))))).bind (fun r13 => (if r13.2 = true then c8 (r13.1.2.1, r13.1.2.2.2.1, r13.1.2.2.2.2.1, r13.1.2.2.2.2.2.1, r13.1.1, r13.1.2.2.1) else some ((s6.2.2.2.2.1, (s6.1, (s6.2.2.2.2.2, (s6.2.1, (s6.2.2.1, (s6.2.2.2.1, ())))))), i7, true)))) (fun i7 (s6 : Int × Int × Int × Int × (List (List Int)) × (List Int)) => some ((s6.2.2.2.2.1, (s6.1, (s6.2.2.2.2.2, (s6.2.1, (s6.2.2.1, (s6.2.2.2.1, ())))))), (x1.length : Int), true)) (Int.toNat ((x1.length : Int) - 0)) 0 (r3.2.1, r3.2.2.2.1, r3.2.2.2.2.1, r3.2.2.2.2.2.1, r3.1, r3.2.2.1)) else some (([], (0, ([], (0, (0, (0, ())))))), 0, false)))
/-- loop.example/g01210/impl.DoTasks -/
def p_impl_DoTasks (fu : Nat) (x0 : ((List (List Int)) × (Int × ((List Int) × (Int × (Int × (Int × Unit))))))) (x1 : (List (Int × (Int × (Int × Unit))))) : Option (((List (List Int)) × (Int × ((List Int) × (Int × (Int × (Int × Unit)))))) × Int × Bool) :=
  (p_impl_IsTavern fu (x0.1, (x0.2.1, (x0.2.2.1, (x0.2.2.2.1, (x0.2.2.2.2.1, (x0.2.2.2.2.2.1, ()))))))).bind (fun r1 => (if r1 = true then (p_impl_Tavern_own (x0.1, (x0.2.1, (x0.2.2.1, (x0.2.2.2.1, (x0.2.2.2.2.1, (x0.2.2.2.2.2.1, ()))))))).bind (fun r3 => cnt (fun i7 (s6 : Int × Int × Int × Int × (List (List Int)) × (List Int)) c8 _ => (p_impl_Tavern_done fu (s6.2.2.2.2.1, (s6.1, (s6.2.2.2.2.2, (s6.2.1, (s6.2.2.1, (s6.2.2.2.1, ())))))) ((x1.getD i7.toNat (0, (0, (0, ())))).1, (((x1.getD i7.toNat (0, (0, (0, ())))).2).1, ((((x1.getD i7.toNat (0, (0, (0, ())))).2).2).1, ())))).bind (fun r13 => (if r13.2 = true then c8 (r13.1.2.1, r13.1.2.2.2.1, r13.1.2.2.2.2.1, r13.1.2.2.2.2.2.1, r13.1.1, r13.1.2.2.1) else some ((s6.2.2.2.2.1, (s6.1, (s6.2.2.2.2.2, (s6.2.1, (s6.2.2.1, (s6.2.2.2.1, ())))))), i7, true)))) (fun i7 (s6 : Int × Int × Int × Int × (List (List Int)) × (List Int)) => some ((s6.2.2.2.2.1, (s6.1, (s6.2.2.2.2.2, (s6.2.1, (s6.2.2.1, (s6.2.2.2.1, ())))))), (x1.length : Int), true)) (Int.toNat ((x1.length : Int) - 0)) 0 (r3.2.1, r3.2.2.2.1, r3.2.2.2.2.1, r3.2.2.2.2.2.1, r3.1, r3.2.2.1)) else some (([], (0, ([], (0, (0, (0, ())))))), 0, false)))
/-- loop.example/g01210/laws.eqTask -/
def p_laws_eqTask (x0 : (Int × (Int × (Int × Unit)))) (x1 : (Int × (Int × (Int × Unit)))) : Bool :=
  (if x0.1 = x1.1 then (if x0.2.1 = x1.2.1 then (if x0.2.2.1 = x1.2.2.1 then true else false) else false) else false)
/-- loop.example/g01210/laws.eqTaskS -/
def p_laws_eqTaskS (x0 : (List (Int × (Int × (Int × Unit))))) (x1 : (List (Int × (Int × (Int × Unit))))) : Bool :=
  (if (x0.length : Int) = (x1.length : Int) then cnt (fun i5 (s4 : Unit) c6 _ => (if (p_laws_eqTask (x0.getD i5.toNat (0, (0, (0, ())))) (x1.getD i5.toNat (0, (0, (0, ()))))) = true then c6 () else false)) (fun i5 (s4 : Unit) => true) (Int.toNat ((x0.length : Int) - 0)) 0 () else false)
/-- loop.example/g01210/laws.markTaskS -/
def p_laws_markTaskS (x0 : (List (Int × (Int × (Int × Unit))))) (x1 : Int) : Int × (List (Int × (Int × (Int × Unit)))) :=
  cnt (fun i2 (s1 : Int × (List (Int × (Int × (Int × Unit))))) c3 _ => c3 ((IntKind.wrap .i64 ((IntKind.wrap .i64 ((IntKind.wrap .i64 (s1.1 + 1)) + 1)) + 1)), (((s1.2.set i2.toNat (s1.1, ((s1.2.getD i2.toNat (0, (0, (0, ())))).2.1, ((s1.2.getD i2.toNat (0, (0, (0, ())))).2.2.1, ())))).set i2.toNat (((s1.2.set i2.toNat (s1.1, ((s1.2.getD i2.toNat (0, (0, (0, ())))).2.1, ((s1.2.getD i2.toNat (0, (0, (0, ())))).2.2.1, ())))).getD i2.toNat (0, (0, (0, ())))).1, ((IntKind.wrap .i64 (s1.1 + 1)), (((s1.2.set i2.toNat (s1.1, ((s1.2.getD i2.toNat (0, (0, (0, ())))).2.1, ((s1.2.getD i2.toNat (0, (0, (0, ())))).2.2.1, ())))).getD i2.toNat (0, (0, (0, ())))).2.2.1, ())))).set i2.toNat ((((s1.2.set i2.toNat (s1.1, ((s1.2.getD i2.toNat (0, (0, (0, ())))).2.1, ((s1.2.getD i2.toNat (0, (0, (0, ())))).2.2.1, ())))).set i2.toNat (((s1.2.set i2.toNat (s1.1, ((s1.2.getD i2.toNat (0, (0, (0, ())))).2.1, ((s1.2.getD i2.toNat (0, (0, (0, ())))).2.2.1, ())))).getD i2.toNat (0, (0, (0, ())))).1, ((IntKind.wrap .i64 (s1.1 + 1)), (((s1.2.set i2.toNat (s1.1, ((s1.2.getD i2.toNat (0, (0, (0, ())))).2.1, ((s1.2.getD i2.toNat (0, (0, (0, ())))).2.2.1, ())))).getD i2.toNat (0, (0, (0, ())))).2.2.1, ())))).getD i2.toNat (0, (0, (0, ())))).1, ((((s1.2.set i2.toNat (s1.1, ((s1.2.getD i2.toNat (0, (0, (0, ())))).2.1, ((s1.2.getD i2.toNat (0, (0, (0, ())))).2.2.1, ())))).set i2.toNat (((s1.2.set i2.toNat (s1.1, ((s1.2.getD i2.toNat (0, (0, (0, ())))).2.1, ((s1.2.getD i2.toNat (0, (0, (0, ())))).2.2.1, ())))).getD i2.toNat (0, (0, (0, ())))).1, ((IntKind.wrap .i64 (s1.1 + 1)), (((s1.2.set i2.toNat (s1.1, ((s1.2.getD i2.toNat (0, (0, (0, ())))).2.1, ((s1.2.getD i2.toNat (0, (0, (0, ())))).2.2.1, ())))).getD i2.toNat (0, (0, (0, ())))).2.2.1, ())))).getD i2.toNat (0, (0, (0, ())))).2.1, ((IntKind.wrap .i64 ((IntKind.wrap .i64 (s1.1 + 1)) + 1)), ())))))) (fun i2 (s1 : Int × (List (Int × (Int × (Int × Unit))))) => (s1.1, s1.2)) (Int.toNat ((x0.length : Int) - 0)) 0 (x1, x0)
/-- loop.example/g01210/laws.FnExactDoTasks -/
def p_laws_FnExactDoTasks (fu : Nat) (x0 : ((List (List Int)) × (Int × ((List Int) × (Int × (Int × (Int × Unit))))))) (x1 : (List (Int × (Int × (Int × Unit))))) : Option (Bool) :=
  (if (p_laws_szTavern (x0.1, (x0.2.1, (x0.2.2.1, (x0.2.2.2.1, (x0.2.2.2.2.1, (x0.2.2.2.2.2.1, ())))))) 1048576) < 0 then some true else (if (p_laws_szTaskS x1 (p_laws_szTavern (x0.1, (x0.2.1, (x0.2.2.1, (x0.2.2.2.1, (x0.2.2.2.2.1, (x0.2.2.2.2.2.1, ())))))) 1048576)) < 0 then some true else (p_laws_toTavern (x0.1, (x0.2.1, (x0.2.2.1, (x0.2.2.2.1, (x0.2.2.2.2.1, (x0.2.2.2.2.2.1, ()))))))).bind (fun r7 => (p_laws_toTaskS x1).bind (fun r10 => (p_spec_DoTasks fu (r7.1, (r7.2.1, (r7.2.2.1, (r7.2.2.2.1, (r7.2.2.2.2.1, (r7.2.2.2.2.2.1, ())))))) r10).bind (fun r12 => (p_laws_toTavern (x0.1, (x0.2.1, (x0.2.2.1, (x0.2.2.2.1, (x0.2.2.2.2.1, (x0.2.2.2.2.2.1, ()))))))).bind (fun r15 => (p_laws_toTaskS x1).bind (fun r18 => (p_impl_DoTasks fu (r15.1, (r15.2.1, (r15.2.2.1, (r15.2.2.2.1, (r15.2.2.2.2.1, (r15.2.2.2.2.2.1, ())))))) r18).bind (fun r20 => (if (((!(p_laws_eqTavern (r20.1.1, (r20.1.2.1, (r20.1.2.2.1, (r20.1.2.2.2.1, (r20.1.2.2.2.2.1, (r20.1.2.2.2.2.2.1, ())))))) (r12.1.1, (r12.1.2.1, (r12.1.2.2.1, (r12.1.2.2.2.1, (r12.1.2.2.2.2.1, (r12.1.2.2.2.2.2.1, ())))))))) || (!(decide (r20.2.1 = r12.2.1)))) || (r20.2.2 != r12.2.2)) = true then some false else (p_laws_toTavern (x0.1, (x0.2.1, (x0.2.2.1, (x0.2.2.2.1, (x0.2.2.2.2.1, (x0.2.2.2.2.2.1, ()))))))).bind (fun r44 => (if (p_laws_eqTavern (r15.1, (r15.2.1, (r15.2.2.1, (r15.2.2.2.1, (r15.2.2.2.2.1, (r15.2.2.2.2.2.1, ())))))) (r44.1, (r44.2.1, (r44.2.2.1, (r44.2.2.2.1, (r44.2.2.2.2.1, (r44.2.2.2.2.2.1, ()))))))) = true then (p_laws_toTaskS x1).bind (fun r48 => (if (p_laws_eqTaskS r18 r48) = true then (if ((((decide ((p_laws_markTaskS r18 ((p_laws_markTavern r15.1 r15.2.1 r15.2.2.1 r15.2.2.2.1 r15.2.2.2.2.1 r15.2.2.2.2.2.1 1).1)).1 < 0)) || (!(p_laws_eqTavern (r20.1.1, (r20.1.2.1, (r20.1.2.2.1, (r20.1.2.2.2.1, (r20.1.2.2.2.2.1, (r20.1.2.2.2.2.2.1, ())))))) (r12.1.1, (r12.1.2.1, (r12.1.2.2.1, (r12.1.2.2.2.1, (r12.1.2.2.2.2.1, (r12.1.2.2.2.2.2.1, ()))))))))) || (!(decide (r20.2.1 = r12.2.1)))) || (r20.2.2 != r12.2.2)) = true then some false else (if (p_laws_heldTavern ((p_laws_markTavern r20.1.1 r20.1.2.1 r20.1.2.2.1 r20.1.2.2.2.1 r20.1.2.2.2.2.1 r20.1.2.2.2.2.2.1 1).2.1, (r20.1.2.1, ((p_laws_markTavern r20.1.1 r20.1.2.1 r20.1.2.2.1 r20.1.2.2.2.1 r20.1.2.2.2.2.1 r20.1.2.2.2.2.2.1 1).2.2, (r20.1.2.2.2.1, (r20.1.2.2.2.2.1, (r20.1.2.2.2.2.2.1, ())))))) 1) < 0 then some false else (if (p_laws_heldTavern ((p_laws_markTavern r20.1.1 r20.1.2.1 r20.1.2.2.1 r20.1.2.2.2.1 r20.1.2.2.2.2.1 r20.1.2.2.2.2.2.1 1).2.1, (r20.1.2.1, ((p_laws_markTavern r20.1.1 r20.1.2.1 r20.1.2.2.1 r20.1.2.2.2.1 r20.1.2.2.2.2.1 r20.1.2.2.2.2.2.1 1).2.2, (r20.1.2.2.2.1, (r20.1.2.2.2.2.1, (r20.1.2.2.2.2.2.1, ())))))) 1) = (p_laws_markTavern r20.1.1 r20.1.2.1 r20.1.2.2.1 r20.1.2.2.2.1 r20.1.2.2.2.2.1 r20.1.2.2.2.2.2.1 1).1 then (p_laws_toTavern (x0.1, (x0.2.1, (x0.2.2.1, (x0.2.2.2.1, (x0.2.2.2.2.1, (x0.2.2.2.2.2.1, ()))))))).bind (fun r107 => (p_laws_toTaskS x1).bind (fun r110 => (p_impl_DoTasks fu (r107.1, (r107.2.1, (r107.2.2.1, (r107.2.2.2.1, (r107.2.2.2.2.1, (r107.2.2.2.2.2.1, ())))))) r110).bind (fun r112 => (if (((!(p_laws_eqTavern (r112.1.1, (r112.1.2.1, (r112.1.2.2.1, (r112.1.2.2.2.1, (r112.1.2.2.2.2.1, (r112.1.2.2.2.2.2.1, ())))))) (r12.1.1, (r12.1.2.1, (r12.1.2.2.1, (r12.1.2.2.2.1, (r12.1.2.2.2.2.1, (r12.1.2.2.2.2.2.1, ())))))))) || (!(decide (r112.2.1 = r12.2.1)))) || (r112.2.2 != r12.2.2)) = true then some false else (if (p_laws_heldTavern ((p_laws_markTavern r20.1.1 r20.1.2.1 r20.1.2.2.1 r20.1.2.2.2.1 r20.1.2.2.2.2.1 r20.1.2.2.2.2.2.1 1).2.1, (r20.1.2.1, ((p_laws_markTavern r20.1.1 r20.1.2.1 r20.1.2.2.1 r20.1.2.2.2.1 r20.1.2.2.2.2.1 r20.1.2.2.2.2.2.1 1).2.2, (r20.1.2.2.2.1, (r20.1.2.2.2.2.1, (r20.1.2.2.2.2.2.1, ())))))) 1) < 0 then some false else (if (p_laws_heldTavern ((p_laws_markTavern r20.1.1 r20.1.2.1 r20.1.2.2.1 r20.1.2.2.2.1 r20.1.2.2.2.2.1 r20.1.2.2.2.2.2.1 1).2.1, (r20.1.2.1, ((p_laws_markTavern r20.1.1 r20.1.2.1 r20.1.2.2.1 r20.1.2.2.2.1 r20.1.2.2.2.2.1 r20.1.2.2.2.2.2.1 1).2.2, (r20.1.2.2.2.1, (r20.1.2.2.2.2.1, (r20.1.2.2.2.2.2.1, ())))))) 1) = (p_laws_markTavern r20.1.1 r20.1.2.1 r20.1.2.2.1 r20.1.2.2.2.1 r20.1.2.2.2.2.1 r20.1.2.2.2.2.2.1 1).1 then some true else some false)))))) else some false))) else some false)) else some false)))))))))))
end Go.GA
