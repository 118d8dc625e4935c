/- Memory words used by all walks: a slice that reads as a list of numbers (Sl), a block that is known whole (Blk), and how they are kept. -/
import Derived.Test.YtmbgohaljiiigaaGreatDoorProg
import Derived.Test.YtmbgohaljiiigaaGreatDoorNum
import Derived.WalkKit
import Derived.WalkLawsBesides
import Derived.WalkSpells
import Derived.Handy
import Derived.Outline
import Derived.Lib.Hide
import Derived.Deep.OwnRows
import Derived.BigQuiet
import Derived.Deep.QuietTactic
namespace Go.Proofs.YtmbgohaljiiigaaGreatDoor
open Go.RowKit

/-- Numbers as values of one kind. -/
def ints (k : IntKind) (l : List Nat) : List Value := l.map fun (x : Nat) => Value.int k (x : Int)
@[simp] theorem ints_length (k : IntKind) (l : List Nat) : (ints k l).length = l.length := by simp [ints]
theorem ints_get (k : IntKind) (l : List Nat) (i : Nat) (h : i < l.length) : (ints k l)[i]? = some (.int k ((l.getD i 0 : Nat) : Int)) := by
  simp [ints, List.getElem?_eq_getElem h]
theorem ints_set (k : IntKind) (l : List Nat) (i x : Nat) : ints k (l.set i x) = (ints k l).set i (.int k (x : Int)) := by simp [ints, List.map_set]

/-- The cells from (b, off) on hold the numbers l. -/
def Row (k : IntKind) (w : World) (b off : Nat) (l : List Nat) : Prop := ∀ i, i < l.length → w.cell? ⟨b, off + i, none⟩ = some (.int k ((l.getD i 0 : Nat) : Int))

/-- How long a slice may be. -/
def big : Nat := 9223372036854775807
theorem big_val : big = 9223372036854775807 := rfl

/-- The value v is a slice that reads as the numbers l. -/
def Sl (k : IntKind) (w : World) (v : Value) (l : List Nat) : Prop :=
  ∃ a cap, v = .slice a l.length cap ∧ l.length ≤ cap ∧ cap ≤ 9223372036854775807 ∧ (0 < l.length → ∃ b off, a = some ⟨b, off, none⟩ ∧ b < w.heap.size ∧ Row k w b off l)

theorem Row.below {k : IntKind} {w w' : World} {b off B : Nat} {l : List Nat} (h : Row k w b off l) (hb : b < B) (hw : Below B w w') : Row k w' b off l :=
  fun i hi => by rw [hw.cell (p := ⟨b, off + i, none⟩) hb]; exact h i hi

theorem Sl.below {k : IntKind} {w w' : World} {v : Value} {l : List Nat} (h : Sl k w v l) (hw : Below w.heap.size w w') : Sl k w' v l := by
  obtain ⟨a, cap, rfl, h1, h2, h3⟩ := h
  refine ⟨a, cap, rfl, h1, h2, fun hl => ?_⟩
  obtain ⟨b, off, rfl, hb, hr⟩ := h3 hl
  exact ⟨b, off, rfl, Nat.lt_of_lt_of_le hb hw.size, hr.below hb hw⟩

theorem Sl.drew {k : IntKind} {w : World} {v : Value} {l : List Nat} (h : Sl k w v l) : Sl k w.drew v l := h

theorem Sl.nil (k : IntKind) (w : World) (a : Option Addr) (cap : Nat) (hc : cap ≤ 9223372036854775807) : Sl k w (.slice a 0 cap) [] :=
  ⟨a, cap, rfl, Nat.zero_le _, hc, fun h => by simp at h⟩

/-- The block b is known whole: its cells are the values vs; nothing in it is frozen. -/
def Blk (w : World) (b : Nat) (E : TypeId) (vs : List Value) : Prop := w.heap[b]? = some (.cells vs.toArray E (0, 0))

theorem Blk.lt {w : World} {b : Nat} {E : TypeId} {vs : List Value} (h : Blk w b E vs) : b < w.heap.size := by
  unfold Blk at h
  exact (Array.getElem?_eq_some_iff.1 h).1

theorem Blk.cell {w : World} {b : Nat} {E : TypeId} {vs : List Value} (h : Blk w b E vs) (i : Nat) : w.cell? ⟨b, i, none⟩ = vs[i]? := by
  unfold Blk at h
  simp [World.cell?, h]

theorem Blk.get {w : World} {b : Nat} {E : TypeId} {k : IntKind} {l : List Nat} (h : Blk w b E (ints k l)) (i : Nat) (hi : i < l.length) : w.cell? ⟨b, i, none⟩ = some (.int k ((l.getD i 0 : Nat) : Int)) := by
  rw [h.cell, ints_get k l i hi]

theorem Blk.free {w : World} {b : Nat} {E : TypeId} {vs : List Value} (h : Blk w b E vs) (i : Nat) : w.frozen? ⟨b, i, none⟩ = false := by
  unfold Blk at h
  simp [World.frozen?, h]

theorem Blk.below {w w' : World} {b B : Nat} {E : TypeId} {vs : List Value} (h : Blk w b E vs) (hb : b < B) (hw : Below B w w') : Blk w' b E vs := by
  unfold Blk at *
  rw [hw.block b hb, h]

theorem Blk.alloc {w : World} {b : Nat} {E : TypeId} {vs : List Value} (h : Blk w b E vs) (o : Obj) : Blk (w.alloc o) b E vs := by
  have := h.lt
  unfold Blk at *
  rw [Below.heap_alloc w o b this, h]

theorem Blk.drew {w : World} {b : Nat} {E : TypeId} {vs : List Value} (h : Blk w b E vs) : Blk w.drew b E vs := h

theorem Blk.new (w : World) (E : TypeId) (vs : List Value) : Blk (w.alloc (.cells vs.toArray E)) w.heap.size E vs := by
  unfold Blk
  show (w.heap.push _)[w.heap.size]? = _
  simp

theorem Blk.other {w : World} {b : Nat} {E : TypeId} {vs : List Value} (h : Blk w b E vs) (p : Addr) (v : Value) (hp : b ≠ p.block) : Blk (w.setCell p v) b E vs := by
  unfold Blk at *
  rw [Below.heap_setCell w p v b hp, h]

theorem Blk.put {w : World} {b : Nat} {E : TypeId} {vs : List Value} (h : Blk w b E vs) (i : Nat) (v : Value) : Blk (w.setCell ⟨b, i, none⟩ v) b E (vs.set i v) := by
  unfold Blk at *
  simp only [World.setCell, Array.getElem?_modify, h, Option.map_some, if_true]
  simp

theorem Blk.set {w : World} {b : Nat} {E : TypeId} {k : IntKind} {l : List Nat} (h : Blk w b E (ints k l)) (i x : Nat) : Blk (w.setCell ⟨b, i, none⟩ (.int k (x : Int))) b E (ints k (l.set i x)) := by
  rw [ints_set]; exact h.put i _

theorem Blk.row {w : World} {b : Nat} {E : TypeId} {k : IntKind} {l : List Nat} (h : Blk w b E (ints k l)) : Row k w b 0 l := fun i hi => by
  rw [Nat.zero_add]; exact h.get i hi

theorem Row.take {k : IntKind} {w : World} {b off : Nat} {l : List Nat} (h : Row k w b off l) (n : Nat) : Row k w b off (l.take n) := fun i hi => by
  rw [List.length_take] at hi
  rw [h i (by omega)]
  congr 3
  simp [show i < n by omega]

theorem Row.drop {k : IntKind} {w : World} {b off : Nat} {l : List Nat} (h : Row k w b off l) (n : Nat) : Row k w b (off + n) (l.drop n) := fun i hi => by
  rw [List.length_drop] at hi
  rw [Nat.add_assoc, h (n + i) (by omega)]
  congr 3
  simp [List.getElem?_drop]

/-- The first n numbers of a row, as a slice. -/
theorem Row.sl {k : IntKind} {w : World} {b off : Nat} {l : List Nat} (h : Row k w b off l) (hb : b < w.heap.size) (cap : Nat) (h1 : l.length ≤ cap) (h2 : cap ≤ 9223372036854775807) : Sl k w (.slice (some ⟨b, off, none⟩) l.length cap) l :=
  ⟨_, cap, rfl, h1, h2, fun _ => ⟨b, off, rfl, hb, h⟩⟩

theorem made_toList (k : IntKind) (n : Nat) : (madeCells #[Value.int k 0] n) = (ints k (List.replicate n 0)).toArray := by
  apply Array.ext'
  rw [toList_madeCells_one]
  simp [ints]

theorem Blk.made (w : World) (k : IntKind) (n : Nat) (E : TypeId) : Blk (w.alloc (.cells (madeCells #[Value.int k 0] n) E)) w.heap.size E (ints k (List.replicate n 0)) := by
  rw [made_toList]; exact Blk.new _ _ _

theorem bcell {W w1 : World} (hb : Below W.heap.size W w1) : (∀ b o, b < W.heap.size → w1.cell? ⟨b, o, none⟩ = W.cell? ⟨b, o, none⟩) ∧ (∀ b o, b < W.heap.size → w1.frozen? ⟨b, o, none⟩ = W.frozen? ⟨b, o, none⟩) :=
  ⟨fun b o h => hb.cell (p := ⟨b, o, none⟩) h, fun b o h => hb.frozen (p := ⟨b, o, none⟩) h⟩

theorem getD_set (l : List Nat) (i j x : Nat) (h : i < l.length) : (l.set i x).getD j 0 = if i = j then x else l.getD j 0 := by
  simp only [List.getD_eq_getElem?_getD, List.getElem?_set]
  split
  · rename_i e; subst e; simp
  · rfl

/-- Infos of the element types. -/
theorem info_u32 : (Tryz.prog.info? 79).map (fun i => (i.zero, i.size, i.bytes)) = some (some (.int .u32 0), 1, 4) := by kernel_rfl
theorem info_u8 : (Tryz.prog.info? 5).map (fun i => (i.zero, i.size, i.bytes)) = some (some (.int .u8 0), 1, 1) := by kernel_rfl
theorem info_int : (Tryz.prog.info? 3).map (fun i => (i.zero, i.size, i.bytes)) = some (some (.int .i64 0), 1, 8) := by kernel_rfl

#print axioms Blk.made
end Go.Proofs.YtmbgohaljiiigaaGreatDoor
