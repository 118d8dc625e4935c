/- Rows of numbers that a call owns and appends to. -/
import Derived.Test.YtmbgohaljiiigaaGreatDoorRTrim
import Derived.Laws.AppendOwn
import Derived.Maps.AppendAt
namespace Go.Proofs.YtmbgohaljiiigaaGreatDoor
open Go.RowKit Num

/-- The value v is a row of the call's own (its block at or beyond B) that holds the numbers l. -/
def OwnL (k : IntKind) (w : World) (B : Nat) (e : TypeId) (v : Value) (l : List Nat) : Prop := w.ownsRow B e 1 v l.length (ints k l)

theorem OwnL.nil (k : IntKind) (w : World) (B : Nat) (e : TypeId) : OwnL k w B e (.slice none 0 0) [] := World.ownsRow_nil w B e 1

theorem OwnL.sl {k : IntKind} {w : World} {B : Nat} {e : TypeId} {v : Value} {l : List Nat} (h : OwnL k w B e v l) : Sl k w v l := by
  have h' := h
  rcases h.2 with ⟨rfl, hn⟩ | ⟨g, cap, cur, rfl, _, hg, hnc, hcm, _, _⟩
  · obtain rfl : l = [] := List.length_eq_zero_iff.1 hn
    exact Sl.nil k w none 0 (by decide)
  · refine ⟨_, cap, rfl, hnc, by unfold maxLen at hcm; omega, fun _ => ⟨g, 0, rfl, (Array.getElem?_eq_some_iff.1 hg).1, fun i hi => ?_⟩⟩
    have hc := World.ownsRow.cells h' (g := g) rfl i _ (ints_get k l i hi)
    rw [WideShapes.add_plain] at hc
    exact hc

theorem OwnL.below {k : IntKind} {w w' : World} {B : Nat} {e : TypeId} {v : Value} {l : List Nat} (h : OwnL k w B e v l) (hb : Below w.heap.size w w') : OwnL k w' B e v l := by
  refine ⟨h.1, ?_⟩
  rcases h.2 with h0 | ⟨g, cap, cur, rfl, hB, hg, h1, h2, h3, h4⟩
  · exact .inl h0
  · exact .inr ⟨g, cap, cur, rfl, hB, (hb.block g (Array.getElem?_eq_some_iff.1 hg).1).trans hg, h1, h2, h3, h4⟩

theorem OwnL.grown {k : IntKind} {w w' : World} {B : Nat} {e : TypeId} {v : Value} {l : List Nat} (h : OwnL k w B e v l) (hB : B ≤ w.heap.size) (hg : w.grownBy w' v.ownBlock) : Below B w w' := by
  refine (Below.refl B w).grown hg hB (fun j ej => ?_)
  rcases h.2 with ⟨rfl, _⟩ | ⟨g, cap, cur, rfl, h1, _⟩
  · cases ej
  · cases ej; exact h1

theorem OwnL.snoc {k : IntKind} {w : World} {B : Nat} {e : TypeId} {v : Value} {l : List Nat} {x : Nat} (h : w.ownsRow B e 1 v (l.length + 1) (ints k l ++ [.int k (x : Int)])) : OwnL k w B e v (l ++ [x]) := by
  unfold OwnL
  rw [List.length_append, show ints k (l ++ [x]) = ints k l ++ [.int k (x : Int)] by simp [ints]]
  exact h

theorem OwnL.snoc' {k : IntKind} {w : World} {B : Nat} {e : TypeId} {v : Value} {l : List Nat} {z : Int} (x : Nat) (h : w.ownsRow B e 1 v (l.length + 1) (ints k l ++ [.int k z])) (hz : z = (x : Int)) : OwnL k w B e v (l ++ [x]) := by
  subst hz; exact OwnL.snoc h

/-- Bytes in memory become a number's string. -/
theorem conv_row {w : World} {b off : Nat} {l : List Nat} (hr : Row .u8 w b off l) (cap : Nat) :
    (convert 22 25 (.slice (some ⟨b, off, none⟩) l.length cap)).run Tryz.prog w = .ok (.string ⟨(l.map UInt8.ofNat).toArray⟩) w := by
  have h := run_convert_bytes_arg (P := Tryz.prog) w 22 5 Tryz.underlying22 Tryz.underlying5 b off l.length cap (l.map Int.ofNat) (by simp) (fun i hi => by
    rw [hr i hi]
    simp [List.getElem?_eq_getElem hi]) 25 Tryz.underlying25
  have e : strOfNums (l.map Int.ofNat) = ⟨(l.map UInt8.ofNat).toArray⟩ := by
    unfold strOfNums
    rw [List.map_map]
    rfl
  rw [e] at h
  exact h

theorem OwnL.conv {w : World} {B : Nat} {e : TypeId} {v : Value} {l : List Nat} (h : OwnL .u8 w B e v l) :
    (convert 22 25 v).run Tryz.prog w = .ok (.string ⟨(l.map UInt8.ofNat).toArray⟩) w := by
  obtain ⟨a, cap, rfl, _, _, h3⟩ := h.sl
  rcases Nat.eq_zero_or_pos l.length with h0 | h0
  · obtain rfl : l = [] := List.length_eq_zero_iff.1 h0
    rcases a with _ | ⟨b, off, spot⟩
    · simp [convert, Conv.bytesToString, go_sem]; rfl
    · simp [convert, Conv.bytesToString, go_sem]; rfl
  · obtain ⟨b, off, rfl, _, hr⟩ := h3 h0
    exact conv_row hr cap

theorem OwnL.ne {k : IntKind} {w : World} {B : Nat} {e : TypeId} {v : Value} {l : List Nat} (h : OwnL k w B e v l) {b : Nat} (hb : b < B) : v.ownBlock ≠ some b := by
  rcases h.2 with ⟨rfl, _⟩ | ⟨g, cap, cur, rfl, h1, _⟩
  · simp [Value.ownBlock]
  · simp [Value.ownBlock]; omega

#print axioms OwnL.sl
end Go.Proofs.YtmbgohaljiiigaaGreatDoor
