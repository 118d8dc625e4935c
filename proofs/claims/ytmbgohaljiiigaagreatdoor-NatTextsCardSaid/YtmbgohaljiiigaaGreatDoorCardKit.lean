/- What the cards of this seat share: the world of the witness, the opening of byte slices, the frame. -/
import Derived.Test.YtmbgohaljiiigaaGreatDoorCards
import Derived.Test.YtmbgohaljiiigaaGreatDoorTie
import Derived.Test.YtmbgohaljiiigaaGreatDoorText
import Derived.ProofKit
import Derived.OpenShut
import Derived.ChangeSlices
import Derived.Carry
import Derived.Deep.DeepHandedRow
import Derived.Deep.DeepWitnessRowRef
import Derived.Lib.LaidTab
import Derived.Lib.LaidIn
import Derived.Lib.LaidU8
import Derived.Lib.TrailingZeros
namespace Go.Proofs.YtmbgohaljiiigaaGreatDoor
open Go.ChangeShapes Go.WideShapes Go.ChangeAt Go.RowKit Num

theorem own : ownKnob Tryz.prog.godebug = none := by kernel_rfl
theorem laidOut : laidOutB Tryz.prog = true := by kernel_rfl

noncomputable abbrev N0 : Nat := (World.settled Tryz.prog default).heap.size

/-- The world of the witness: the settled one, the laid variables holding what their initialisers lay. -/
noncomputable def laidWorld (os : Os) : World :=
  let N := (World.settled Tryz.prog os).heap.size
  let w0 := World.holding Tryz.prog os ⟨#[
    .cells #[.string ⟨#[118, 97, 108, 117, 101, 32, 111, 117, 116, 32, 111, 102, 32, 114, 97, 110, 103, 101]⟩] 226,
    .cells #[.string ⟨#[105, 110, 118, 97, 108, 105, 100, 32, 115, 121, 110, 116, 97, 120]⟩] 226], #[], []⟩
  let put (h : Array Obj) (g : Nat) (cs : Array Value) : Array Obj := h.modify g fun
    | .cells _ t frozen => .cells cs t frozen
    | o => o
  let h1 := put w0.heap 4 (Lib.firstTab.map fun z => Value.int .u8 z).toArray
  let h2 := put h1 5 ((List.range 16).flatMap fun i => [Value.int .u8 (Lib.accLo i), Value.int .u8 (Lib.accHi i)]).toArray
  let h3 := put h2 6 (Lib.deBruijn32tab.map fun (z : Nat) => Value.int .u8 (z : Int)).toArray
  let h4 := put h3 7 (Lib.deBruijn64tab.map fun (z : Nat) => Value.int .u8 (z : Int)).toArray
  let h5 := put h4 2 (Lib.pow10Tab.map fun z => Value.int .u64 z).toArray
  let h6 := put h5 1 #[.iface 224 (.pointer (some ⟨N, 0, none⟩))]
  let h7 := put h6 0 #[.iface 224 (.pointer (some ⟨N + 1, 0, none⟩))]
  { w0 with heap := h7 }

set_option maxRecDepth 1000000 in
theorem laid_met (os : Os) (args : Array Value) : laidMet Tryz.prog Rows.natDividesRow.laid ((laidWorld os).forCall (fun _ _ => 0) ⟨#[], args, []⟩).memory :=
  (LaidIn.of_run (l := Rows.natDividesRow.laid) [0, 1, 2, 3, 4, 5, 6, 7, N0, N0 + 1] 8 (by kernel_rfl) (by kernel_rfl) (by kernel_rfl) (by kernel_rfl)).met

#print axioms laid_met
end Go.Proofs.YtmbgohaljiiigaaGreatDoor
