/- The frame of the cards: what a law that answers yes and leaves what lay owes. -/
import Derived.Test.YtmbgohaljiiigaaGreatDoorCardKit
import Derived.LaidSub
import Derived.WideKeyArgs
namespace Go.Proofs.YtmbgohaljiiigaaGreatDoor
open Go.ChangeShapes Go.WideShapes Go.ChangeAt Go.RowKit Num

theorem celllt {W : World} {a : Addr} {v : Value} (h : W.cell? a = some v) : a.block < W.heap.size := by
  rcases Nat.lt_or_ge a.block W.heap.size with h1 | h1
  · exact h1
  · have : W.heap[a.block]? = none := by simpa using h1
    simp [World.cell?, this] at h

theorem cells8 : Tryz.prog.cellsOf 5 = 1 := by kernel_rfl
theorem cells64 : Tryz.prog.cellsOf 139 = 1 := by kernel_rfl
theorem cells20 : Tryz.prog.cellsOf 218 = 20 := by kernel_rfl
theorem cellsDb : Tryz.prog.cellsOf 232 = 64 := by kernel_rfl
theorem gPowT : (Tryz.prog.globals[2]?).map (·.type) = some 218 := by kernel_rfl
theorem gDb : Tryz.prog.globalNamed "math/bits.deBruijn64tab" = some 7 := by kernel_rfl
theorem gDbT : (Tryz.prog.globals[7]?).map (·.type) = some 232 := by kernel_rfl

/-- What the list of laid variables gives. -/
theorem env_of {W : World} (h : laidMetH Tryz.prog Rows.natDividesRow.laid W) : Env W := by
  have h1 := h.filter (fun x => x.1 == "internal/strconv.uint64pow10")
  have e1 : (Rows.natDividesRow.laid.filter fun x => x.1 == "internal/strconv.uint64pow10") = [("internal/strconv.uint64pow10", Lib.tabData .u64 Lib.pow10Tab)] := by kernel_rfl
  rw [e1] at h1
  have h2 := h.filter (fun x => x.1 == "math/bits.deBruijn64tab")
  have e2 : (Rows.natDividesRow.laid.filter fun x => x.1 == "math/bits.deBruijn64tab") = [("math/bits.deBruijn64tab", Lib.tabData .u8 (Lib.deBruijn64tab.map fun (n : Nat) => (n : Int)))] := by kernel_rfl
  rw [e2] at h2
  have t1 : Lib.TabIs Tryz.prog W "internal/strconv.uint64pow10" .u64 Lib.pow10Tab := Lib.tabIs_of_head (rest := []) gPow10 gPowT Tryz.underlying218 Tryz.underlying139 cells64 cells20 h1
  have t2 : Lib.TabIs Tryz.prog W "math/bits.deBruijn64tab" .u8 (Lib.deBruijn64tab.map fun (n : Nat) => (n : Int)) := Lib.tabIs_of_head (rest := []) gDb gDbT Tryz.underlying232 Tryz.underlying5 cells8 cellsDb h2
  refine ⟨t1, ?_⟩
  have c := t2.cell gDb 0 (by decide)
  have := celllt c
  exact this

/-- A slice of bytes that came in. -/
theorem open_bytes {H : Type} {enc : TypeId × Value → H} {W : World} {a0 : Option Addr} {len cap fuel : Nat} {x : DataW H × List MemPlace}
    (hf : DataW.trod enc Tryz.prog W 0 (fun _ => true) true fuel 22 [.slice a0 len cap] = some x) :
    ∃ l : List Nat, l.length = len ∧ Dig 256 l ∧ Sl .u8 W (.slice a0 len cap) l := by
  rcases open_ints Tryz.underlying22 Tryz.underlying5 cells8 hf with ⟨hcs, _⟩ | ⟨a, len', cap', zs, hcs, _, hl, hm, hz, _, hcell, hwz⟩
  · simp at hcs
    obtain ⟨rfl, rfl, rfl⟩ := hcs
    exact ⟨[], rfl, Dig.nil 256, ⟨none, 0, rfl, Nat.le_refl _, by decide, fun h => by simp at h⟩⟩
  · simp at hcs
    obtain ⟨rfl, rfl, rfl⟩ := hcs
    simp only [if_true] at hz
    have hb : ∀ n ∈ zs, 0 ≤ n ∧ n < 256 := fun n hn => by
      have := hwz n hn
      simp only [Lit.wf, Bool.and_eq_true, decide_eq_true_eq] at this
      have e1 : IntKind.u8.min = 0 := by decide
      have e2 : IntKind.u8.max = 255 := by decide
      omega
    refine ⟨(zs.take len).map Int.toNat, by simp; omega, fun y hy => ?_, a, cap, ?_, ?_, by unfold maxLen at hm; omega, fun h0 => ?_⟩
    · obtain ⟨z, hz1, rfl⟩ := List.mem_map.1 hy
      have := hb z (List.mem_of_mem_take hz1)
      omega
    · congr 1; simp; omega
    · simp; omega
    · simp at h0
      obtain ⟨b, off, spot⟩ := a
      have hspot : spot = none := by simpa [Addr.add] using World.cell?_spot (hcell 0 (by omega))
      subst hspot
      refine ⟨b, off, rfl, celllt (hcell 0 (by omega)), fun i hi => ?_⟩
      simp at hi
      have hc := hcell i (by omega)
      rw [show (⟨b, off + i, none⟩ : Addr) = (⟨b, off, none⟩ : Addr).add i by simp [Addr.add], hc]
      have hget : zs[i]? = some (zs.getD i 0) := by simp [List.getD_eq_getElem?_getD, List.getElem?_eq_getElem (show i < zs.length by omega)]
      have h01 := hb _ (List.mem_of_getElem? hget)
      congr 2
      simp [List.getD_eq_getElem?_getD, show i < len by omega]
      rw [List.getElem?_eq_getElem (show i < zs.length by omega)] at hget ⊢
      simp at hget ⊢
      simp [List.getD_eq_getElem?_getD, List.getElem?_eq_getElem (show i < zs.length by omega)] at h01
      omega

/-- What lies below the heap's size of the start reads on, whatever the types. -/
theorem trodAll_below {H : Type} {enc : TypeId × Value → H} {P : Program} (hl : laidOutB P = true) {W W' : World} (hb : Below W.heap.size W W') (sp : Nat → Bool) : ∀ (ts : List TypeId) (vs : List Value) (ds : List (DataW H)) (ps : List MemPlace),
    (∀ t ∈ ts, P.readableRec t = true ∧ t < P.types.size) → DataW.TrodAll enc P W 0 (fun _ => true) true ts vs ds ps → (∀ p ∈ ps, p.block < W.heap.size) → (∀ p ∈ ps, sp p.block = true) →
    DataW.TrodAll enc P W' 0 sp true ts vs ds ps := by
  intro ts
  induction ts with
  | nil =>
    intro vs ds ps _ h _ _
    obtain ⟨rfl, rfl, rfl⟩ := trodAll_nil h
    exact trodAll_mk0
  | cons t ts ih =>
    intro vs ds ps hr h hlt hs
    obtain ⟨v, vs1, d, ds1, p, q, rfl, rfl, rfl, h1, h2⟩ := trodAll_cons h
    obtain ⟨hr1, hr2⟩ := hr t (List.mem_cons.2 (.inl rfl))
    exact trodAll_cons_mk (WideElems.Trod_stays hl hr1 hr2 h1 (fun x hx => hb.same (hlt x (List.mem_append_left _ hx))) (fun x hx => hs x (List.mem_append_left _ hx)))
      (ih _ _ _ (fun t ht => hr t (List.mem_cons.2 (.inr ht))) h2 (fun x hx => hlt x (List.mem_append_right _ hx)) (fun x hx => hs x (List.mem_append_right _ hx)))

/-- The condition on types, by a look. -/
theorem readable_of {P : Program} {ts : List TypeId} (h : (ts.all fun t => P.readableRec t && decide (t < P.types.size)) = true) : ∀ t ∈ ts, P.readableRec t = true ∧ t < P.types.size := fun t ht => by
  have := List.all_eq_true.1 h t ht
  simpa [Bool.and_eq_true] using this

#print axioms open_bytes
#print axioms env_of
#print axioms trodAll_below
end Go.Proofs.YtmbgohaljiiigaaGreatDoor
