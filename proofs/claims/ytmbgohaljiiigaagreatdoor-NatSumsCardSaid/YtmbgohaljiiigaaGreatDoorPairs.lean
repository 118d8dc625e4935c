/- A block of pairs of strings that a loop goes through. -/
import Derived.Test.YtmbgohaljiiigaaGreatDoorBase
namespace Go.Proofs.YtmbgohaljiiigaaGreatDoor
open Go.RowKit Num

/-- What the loop holds: the block of the pairs. -/
def PairsR (w : World) (B : Nat) (ps : List (ByteArray × ByteArray)) (i : Value) (wr : World) : Prop :=
  ∃ k : Nat, k ≤ ps.length ∧ i = .int .i64 (k : Int) ∧ Blk wr B 59 (ps.flatMap fun p => [Value.string p.1, Value.string p.2]) ∧ Below w.heap.size w wr

theorem pairsR_at (ps : List (ByteArray × ByteArray)) (k : Nat) (hk : k < ps.length) :
    (ps.flatMap fun p => [Value.string p.1, Value.string p.2])[2 * k]? = some (.string ps[k].1) ∧ (ps.flatMap fun p => [Value.string p.1, Value.string p.2])[2 * k + 1]? = some (.string ps[k].2) := by
  induction ps generalizing k with
  | nil => simp at hk
  | cons p ps ih =>
    cases k with
    | zero => simp
    | succ k =>
      have := ih k (by simpa using hk)
      simp only [List.flatMap_cons, List.cons_append, List.nil_append, List.getElem_cons_succ]
      rw [show 2 * (k + 1) = 2 * k + 1 + 1 by omega]
      simpa using this

end Go.Proofs.YtmbgohaljiiigaaGreatDoor
