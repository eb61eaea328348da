import GoSem.Claim
namespace Go.Abs
open Go
/-- The tables that a run reads: the blocks of the package-level variables and their cells. -/
def tabs : List (Nat × List Value) := [(0, [.int .i64 100000, .int .i64 1073741824]), (1, (List.range 20).map fun k => .int .u64 ((10 ^ k : Nat) : Int))]
def tabAt : List (Nat × List Value) → Nat → Option (List Value)
  | [], _ => none
  | (k, v) :: r, t => if k = t then some v else tabAt r t
end Go.Abs
