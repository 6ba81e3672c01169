/- Plain law of FnMade: what is finite, and draws. -/
import Derived.Test.YtedakmknjbjlbaaGpA
import Derived.Test.YtedakmknjbjlbaaC9md
namespace Go.GA
open Go
set_option maxRecDepth 100000
def SZ : List Int := [4, 5, 2, 7, 10, 6, 12, 36, 35, 100, 216, 1000, 1, 0, 1001, 3]
def body2 (n k : Int) (r43 : Int × Bool) (r55 : List Int × Bool) (K : Unit → Option Bool) : (Int × Int) → ((Int × Int) → Option Bool) → Option Bool := fun (s274 : Int × Int) c276 => (if s274.2 < k then c276 ((IntKind.wrap .i64 (6 * s274.1)), (IntKind.wrap .i64 (s274.2 + 1))) else if n ≠ 0 then (if (((((!(decide ((r43.1.tmod n) = 0))) || (decide (s274.1 < r43.1))) || (decide ((IntKind.wrap .i64 (r43.1 + n)) ≤ s274.1))) || (!(decide ((IntKind.wrap .i64 ((r55.1.getD 0 0) * r43.1)) = (IntKind.wrap .i64 ((IntKind.wrap .i64 (k * s274.1)) * (r55.1.getD 1 0))))))) || ((decide (r55.1 = [k, 1])) != (decide (r43.1 = s274.1)))) = true then some false else K ()) else none)
def chk3 (n k : Int) : Bool := match p_impl_TakenOf 64 n k, p_spec_TakenOf 64 n k, p_impl_MeanThrows 64 n k, p_spec_MeanThrows 64 n k with
  | some a, some b, some c, some d => (a == b) && (c == d) && (c.2 == a.2) && (!a.2 || whl (body2 n k a c (fun _ => some true)) 64 (1, 0) == some true)
  | _, _, _, _ => false
theorem chk3_all : ∀ n ∈ SZ, ∀ k ∈ ([0, 1, 2, 3, 4, 5, 6, 7] : List Int), chk3 n k = true := by decide +kernel
def body4 (m : Int) (r75 : Int × List Int × Bool) (K : Unit → Option Bool) : Int → (Int → Option Bool) → Option Bool := fun (s208 : Int) c210 => (if s208 ≤ 6 then (p_impl_MeanThrows 64 m s208).bind (fun r215 => (if (r215.2 && ((decide ((IntKind.wrap .i64 ((r215.1.getD 0 0) * (r75.2.1.getD 1 0))) < (IntKind.wrap .i64 ((r75.2.1.getD 0 0) * (r215.1.getD 1 0))))) || ((decide (s208 < r75.1)) && (decide (r215.1 = r75.2.1))))) = true then some false else c210 (s208 + 1))) else K ())
def chk4 (m : Int) : Bool := match p_impl_BestThrows 64 m, p_spec_BestThrows 64 m with
  | some a, some b => (a == b) && (!a.2.2 || whl (body4 m a (fun _ => some true)) 64 1 == some true)
  | _, _ => false
theorem chk4_0 : (List.range 200).all (fun (m : Nat) => chk4 (m : Int)) = true := by decide +kernel
theorem chk4_1 : (List.range 200).all (fun (m : Nat) => chk4 ((m + 200 : Nat) : Int)) = true := by decide +kernel
theorem chk4_2 : (List.range 200).all (fun (m : Nat) => chk4 ((m + 400 : Nat) : Int)) = true := by decide +kernel
theorem chk4_3 : (List.range 200).all (fun (m : Nat) => chk4 ((m + 600 : Nat) : Int)) = true := by decide +kernel
theorem chk4_4 : (List.range 202).all (fun (m : Nat) => chk4 ((m + 800 : Nat) : Int)) = true := by decide +kernel
theorem chk4_all {m : Int} (h0 : 0 ≤ m) (h1 : m ≤ 1001) : chk4 m = true := by
  obtain ⟨n, rfl⟩ : ∃ n : Nat, m = (n : Int) := ⟨m.toNat, by omega⟩
  by_cases a : n < 200
  · exact List.all_eq_true.1 chk4_0 n (List.mem_range.2 a)
  · by_cases b : n < 400
    · have := List.all_eq_true.1 chk4_1 (n - 200) (List.mem_range.2 (by omega)); rwa [show n - 200 + 200 = n by omega] at this
    · by_cases c : n < 600
      · have := List.all_eq_true.1 chk4_2 (n - 400) (List.mem_range.2 (by omega)); rwa [show n - 400 + 400 = n by omega] at this
      · by_cases d : n < 800
        · have := List.all_eq_true.1 chk4_3 (n - 600) (List.mem_range.2 (by omega)); rwa [show n - 600 + 600 = n by omega] at this
        · have := List.all_eq_true.1 chk4_4 (n - 800) (List.mem_range.2 (by omega)); rwa [show n - 800 + 800 = n by omega] at this
def chk6 (m : Int) : Bool := match p_impl_RoomForBits 64 m, p_spec_RoomForBits 64 m with
  | some a, some b => a == b
  | _, _ => false
theorem chk6_0 : (List.range 23).all (fun (m : Nat) => chk6 ((m : Int) - 1)) = true := by decide +kernel
theorem chk6_all {m : Int} (h0 : -1 ≤ m) (h1 : m ≤ 21) : chk6 m = true := by
  have := List.all_eq_true.1 chk6_0 (m + 1).toNat (List.mem_range.2 (by omega))
  rwa [show (((m + 1).toNat : Nat) : Int) - 1 = m by omega] at this
/-- made: both ask alike -/
def chk1 (n k : Int) : Bool := match p_impl_isMade 64 n k, p_spec_l9Good 64 n k with
  | some a, some b => (a == b) && (!a || (decide (1 ≤ k ∧ k ≤ 6 ∧ 1 ≤ n) && (match p_impl_taken 64 n k, p_spec_l9Taken 64 n k with
    | some s, some t => s == t
    | _, _ => false)))
  | _, _ => false
theorem chk1_all : ∀ n ∈ SZ, ∀ k ∈ ([0, 1, 2, 3, 4, 5, 6, 7] : List Int), chk1 n k = true := by decide +kernel
end Go.GA
