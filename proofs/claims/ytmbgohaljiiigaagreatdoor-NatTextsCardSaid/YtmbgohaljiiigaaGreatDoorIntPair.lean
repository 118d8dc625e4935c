/- What Int returns, as a value. -/
import Derived.Test.YtmbgohaljiiigaaGreatDoorBase
namespace Go.Proofs.YtmbgohaljiiigaaGreatDoor
open Go.RowKit Num

/-- What nat.Int returns. -/
def intPair (n : Nat) : Value := if n < 9223372036854775808 then .tuple #[.int .i64 (n : Int), .bool true] else .tuple #[.int .i64 0, .bool false]
theorem intPair_lt {n : Nat} (h : n < 9223372036854775808) : intPair n = .tuple #[.int .i64 (n : Int), .bool true] := by unfold intPair; rw [if_pos h]
theorem intPair_ge {n : Nat} (h : 9223372036854775808 ≤ n) : intPair n = .tuple #[.int .i64 0, .bool false] := by unfold intPair; rw [if_neg (by omega)]

end Go.Proofs.YtmbgohaljiiigaaGreatDoor
