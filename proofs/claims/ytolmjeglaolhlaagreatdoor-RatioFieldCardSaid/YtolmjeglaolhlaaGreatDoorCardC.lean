/- The frame of a card. -/
import Derived.ProofKit
import Derived.OpenShut
import Derived.ChangeSlices
import Derived.Carry
import Derived.Deep.DeepHandedRow
import Derived.Deep.DeepWitnessRowRef
import Derived.Lib.LaidTab
import Derived.Lib.LaidIn
import Derived.Lib.LaidU8
import Derived.Lib.TrailingZeros
import Derived.LaidSub
import Derived.WideKeyArgs
import Derived.ChangeMaps5
import Derived.WideKeyPair
import Derived.Test.YtolmjeglaolhlaaGreatDoorCards
import Derived.Test.YtolmjeglaolhlaaGreatDoorTie
import Derived.Test.YtolmjeglaolhlaaGreatDoorText

/- What the cards of this seat share: the world of the witness, the opening of byte slices, the frame. -/
namespace Go.Proofs.YtolmjeglaolhlaaGreatDoor
open Go.ChangeShapes Go.WideShapes Go.ChangeAt Go.RowKit Num

theorem own : ownKnob Tryz.prog.godebug = none := by kernel_rfl
theorem laidOut : laidOutB Tryz.prog = true := by kernel_rfl

noncomputable abbrev N0 : Nat := (World.settled Tryz.prog default).heap.size

/-- The world of the witness: the settled one, the laid variables holding what their initialisers lay. -/
noncomputable def laidWorld (os : Os) : World :=
  let N := (World.settled Tryz.prog os).heap.size
  let w0 := World.holding Tryz.prog os ⟨#[
    .cells #[.string ⟨#[118, 97, 108, 117, 101, 32, 111, 117, 116, 32, 111, 102, 32, 114, 97, 110, 103, 101]⟩] 190,
    .cells #[.string ⟨#[105, 110, 118, 97, 108, 105, 100, 32, 115, 121, 110, 116, 97, 120]⟩] 190], #[], []⟩
  let put (h : Array Obj) (g : Nat) (cs : Array Value) : Array Obj := h.modify g fun
    | .cells _ t frozen => .cells cs t frozen
    | o => o
  let h1 := put w0.heap 4 (Lib.firstTab.map fun z => Value.int .u8 z).toArray
  let h2 := put h1 5 ((List.range 16).flatMap fun i => [Value.int .u8 (Lib.accLo i), Value.int .u8 (Lib.accHi i)]).toArray
  let h3 := put h2 6 (Lib.deBruijn32tab.map fun (z : Nat) => Value.int .u8 (z : Int)).toArray
  let h4 := put h3 7 (Lib.deBruijn64tab.map fun (z : Nat) => Value.int .u8 (z : Int)).toArray
  let h5 := put h4 3 (Lib.pow10Tab.map fun z => Value.int .u64 z).toArray
  let h6 := put h5 2 #[.iface 188 (.pointer (some ⟨N, 0, none⟩))]
  let h7 := put h6 1 #[.iface 188 (.pointer (some ⟨N + 1, 0, none⟩))]
  { w0 with heap := h7 }

set_option maxRecDepth 1000000 in
theorem laid_met (os : Os) (args : Array Value) : laidMet Tryz.prog Rows.natPowsRow.laid ((laidWorld os).forCall (fun _ _ => 0) ⟨#[], args, []⟩).memory :=
  (LaidIn.of_run (l := Rows.natPowsRow.laid) [0, 1, 2, 3, 4, 5, 6, 7, N0, N0 + 1] 8 (by kernel_rfl) (by kernel_rfl) (by kernel_rfl) (by kernel_rfl)).met

end Go.Proofs.YtolmjeglaolhlaaGreatDoor

/- The frame of the cards: what a law that answers yes and leaves what lay owes. -/
namespace Go.Proofs.YtolmjeglaolhlaaGreatDoor
open Go.ChangeShapes Go.WideShapes Go.ChangeAt Go.RowKit Num

theorem celllt {W : World} {a : Addr} {v : Value} (h : W.cell? a = some v) : a.block < W.heap.size := by
  rcases Nat.lt_or_ge a.block W.heap.size with h1 | h1
  · exact h1
  · have : W.heap[a.block]? = none := by simpa using h1
    simp [World.cell?, this] at h

theorem cells8 : Tryz.prog.cellsOf 5 = 1 := by kernel_rfl
theorem cells64 : Tryz.prog.cellsOf 121 = 1 := by kernel_rfl
theorem cells20 : Tryz.prog.cellsOf 192 = 20 := by kernel_rfl
theorem cellsDb : Tryz.prog.cellsOf 201 = 64 := by kernel_rfl
theorem gPowT : (Tryz.prog.globals[3]?).map (·.type) = some 192 := by kernel_rfl
theorem gDb : Tryz.prog.globalNamed "math/bits.deBruijn64tab" = some 7 := by kernel_rfl
theorem gDbT : (Tryz.prog.globals[7]?).map (·.type) = some 201 := by kernel_rfl

/-- What the list of laid variables gives. -/
theorem env_of {W : World} (h : laidMetH Tryz.prog Rows.natPowsRow.laid W) : Env W := by
  have h1 := h.filter (fun x => x.1 == "internal/strconv.uint64pow10")
  have e1 : (Rows.natPowsRow.laid.filter fun x => x.1 == "internal/strconv.uint64pow10") = [("internal/strconv.uint64pow10", Lib.tabData .u64 Lib.pow10Tab)] := by kernel_rfl
  rw [e1] at h1
  have h2 := h.filter (fun x => x.1 == "math/bits.deBruijn64tab")
  have e2 : (Rows.natPowsRow.laid.filter fun x => x.1 == "math/bits.deBruijn64tab") = [("math/bits.deBruijn64tab", Lib.tabData .u8 (Lib.deBruijn64tab.map fun (n : Nat) => (n : Int)))] := by kernel_rfl
  rw [e2] at h2
  have t1 : Lib.TabIs Tryz.prog W "internal/strconv.uint64pow10" .u64 Lib.pow10Tab := Lib.tabIs_of_head (rest := []) gPow10 gPowT Tryz.underlying192 Tryz.underlying121 cells64 cells20 h1
  have t2 : Lib.TabIs Tryz.prog W "math/bits.deBruijn64tab" .u8 (Lib.deBruijn64tab.map fun (n : Nat) => (n : Int)) := Lib.tabIs_of_head (rest := []) gDb gDbT Tryz.underlying201 Tryz.underlying5 cells8 cellsDb h2
  refine ⟨t1, ?_⟩
  have c := t2.cell gDb 0 (by decide)
  have := celllt c
  exact this

/-- A slice of bytes that came in. -/
theorem open_bytes {H : Type} {enc : TypeId × Value → H} {W : World} {a0 : Option Addr} {len cap fuel : Nat} {x : DataW H × List MemPlace}
    (hf : DataW.trod enc Tryz.prog W 0 (fun _ => true) true fuel 22 [.slice a0 len cap] = some x) :
    ∃ l : List Nat, l.length = len ∧ Dig 256 l ∧ Sl .u8 W (.slice a0 len cap) l := by
  rcases open_ints Tryz.underlying22 Tryz.underlying5 cells8 hf with ⟨hcs, _⟩ | ⟨a, len', cap', zs, hcs, _, hl, hm, hz, _, hcell, hwz⟩
  · simp at hcs
    obtain ⟨rfl, rfl, rfl⟩ := hcs
    exact ⟨[], rfl, Dig.nil 256, ⟨none, 0, rfl, Nat.le_refl _, by decide, fun h => by simp at h⟩⟩
  · simp at hcs
    obtain ⟨rfl, rfl, rfl⟩ := hcs
    simp only [if_true] at hz
    have hb : ∀ n ∈ zs, 0 ≤ n ∧ n < 256 := fun n hn => by
      have := hwz n hn
      simp only [Lit.wf, Bool.and_eq_true, decide_eq_true_eq] at this
      have e1 : IntKind.u8.min = 0 := by decide
      have e2 : IntKind.u8.max = 255 := by decide
      omega
    refine ⟨(zs.take len).map Int.toNat, by simp; omega, fun y hy => ?_, a, cap, ?_, ?_, by unfold maxLen at hm; omega, fun h0 => ?_⟩
    · obtain ⟨z, hz1, rfl⟩ := List.mem_map.1 hy
      have := hb z (List.mem_of_mem_take hz1)
      omega
    · congr 1; simp; omega
    · simp; omega
    · simp at h0
      obtain ⟨b, off, spot⟩ := a
      have hspot : spot = none := by simpa [Addr.add] using World.cell?_spot (hcell 0 (by omega))
      subst hspot
      refine ⟨b, off, rfl, celllt (hcell 0 (by omega)), fun i hi => ?_⟩
      simp at hi
      have hc := hcell i (by omega)
      rw [show (⟨b, off + i, none⟩ : Addr) = (⟨b, off, none⟩ : Addr).add i by simp [Addr.add], hc]
      have hget : zs[i]? = some (zs.getD i 0) := by simp [List.getD_eq_getElem?_getD, List.getElem?_eq_getElem (show i < zs.length by omega)]
      have h01 := hb _ (List.mem_of_getElem? hget)
      congr 2
      simp [List.getD_eq_getElem?_getD, show i < len by omega]
      rw [List.getElem?_eq_getElem (show i < zs.length by omega)] at hget ⊢
      simp at hget ⊢
      simp [List.getD_eq_getElem?_getD, List.getElem?_eq_getElem (show i < zs.length by omega)] at h01
      omega

/-- What lies below the heap's size of the start reads on, whatever the types. -/
theorem trodAll_below {H : Type} {enc : TypeId × Value → H} {P : Program} (hl : laidOutB P = true) {W W' : World} (hb : Below W.heap.size W W') (sp : Nat → Bool) : ∀ (ts : List TypeId) (vs : List Value) (ds : List (DataW H)) (ps : List MemPlace),
    (∀ t ∈ ts, P.readableRec t = true ∧ t < P.types.size) → DataW.TrodAll enc P W 0 (fun _ => true) true ts vs ds ps → (∀ p ∈ ps, p.block < W.heap.size) → (∀ p ∈ ps, sp p.block = true) →
    DataW.TrodAll enc P W' 0 sp true ts vs ds ps := by
  intro ts
  induction ts with
  | nil =>
    intro vs ds ps _ h _ _
    obtain ⟨rfl, rfl, rfl⟩ := trodAll_nil h
    exact trodAll_mk0
  | cons t ts ih =>
    intro vs ds ps hr h hlt hs
    obtain ⟨v, vs1, d, ds1, p, q, rfl, rfl, rfl, h1, h2⟩ := trodAll_cons h
    obtain ⟨hr1, hr2⟩ := hr t (List.mem_cons.2 (.inl rfl))
    exact trodAll_cons_mk (WideElems.Trod_stays hl hr1 hr2 h1 (fun x hx => hb.same (hlt x (List.mem_append_left _ hx))) (fun x hx => hs x (List.mem_append_left _ hx)))
      (ih _ _ _ (fun t ht => hr t (List.mem_cons.2 (.inr ht))) h2 (fun x hx => hlt x (List.mem_append_right _ hx)) (fun x hx => hs x (List.mem_append_right _ hx)))

/-- The condition on types, by a look. -/
theorem readable_of {P : Program} {ts : List TypeId} (h : (ts.all fun t => P.readableRec t && decide (t < P.types.size)) = true) : ∀ t ∈ ts, P.readableRec t = true ∧ t < P.types.size := fun t ht => by
  have := List.all_eq_true.1 h t ht
  simpa [Bool.and_eq_true] using this

end Go.Proofs.YtolmjeglaolhlaaGreatDoor

/- What the cards with numbers, strings and pairs among their parameters share. -/
namespace Go.Proofs.YtolmjeglaolhlaaGreatDoor
open Go.ChangeShapes Go.WideShapes Go.ChangeAt Go.RowKit Num

theorem wf_i64 {z : Int} (h : (Lit.int .i64 z).wf = true) : -9223372036854775808 ≤ z ∧ z ≤ 9223372036854775807 := by
  simp only [Lit.wf, Bool.and_eq_true, decide_eq_true_eq] at h
  have e1 : IntKind.i64.min = -9223372036854775808 := by decide
  have e2 : IntKind.i64.max = 9223372036854775807 := by decide
  omega

theorem wf_u8 {z : Int} (h : (Lit.int .u8 z).wf = true) : ∃ m : Nat, z = (m : Int) ∧ m < 256 := by
  simp only [Lit.wf, Bool.and_eq_true, decide_eq_true_eq] at h
  have e1 : IntKind.u8.min = 0 := by decide
  have e2 : IntKind.u8.max = 255 := by decide
  exact ⟨z.toNat, by omega, by omega⟩

theorem wf_u16 {z : Int} (h : (Lit.int .u16 z).wf = true) : ∃ m : Nat, z = (m : Int) ∧ m < 65536 := by
  simp only [Lit.wf, Bool.and_eq_true, decide_eq_true_eq] at h
  have e1 : IntKind.u16.min = 0 := by decide
  have e2 : IntKind.u16.max = 65535 := by decide
  exact ⟨z.toNat, by omega, by omega⟩

theorem wf_u32 {z : Int} (h : (Lit.int .u32 z).wf = true) : ∃ m : Nat, z = (m : Int) ∧ m < 4294967296 := by
  simp only [Lit.wf, Bool.and_eq_true, decide_eq_true_eq] at h
  have e1 : IntKind.u32.min = 0 := by decide
  have e2 : IntKind.u32.max = 4294967295 := by decide
  exact ⟨z.toNat, by omega, by omega⟩

#print axioms wf_u32
end Go.Proofs.YtolmjeglaolhlaaGreatDoor
