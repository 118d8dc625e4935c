/- Boxes, rows and slices of numbers; trimming of both. -/
import Derived.WalkKit
import Derived.WalkLawsBesides
import Derived.WalkSpells
import Derived.Handy
import Derived.Outline
import Derived.Lib.Hide
import Derived.Deep.OwnRows
import Derived.BigQuiet
import Derived.Deep.QuietTactic
import Derived.Test.YtolmjeglaolhlaaGreatDoorProg
import Derived.Test.YtolmjeglaolhlaaGreatDoorPlain

/- Memory words used by all walks: a slice that reads as a list of numbers (Sl), a block that is known whole (Blk), and how they are kept. -/
namespace Go.Proofs.YtolmjeglaolhlaaGreatDoor
open Go.RowKit

/-- Numbers as values of one kind. -/
def ints (k : IntKind) (l : List Nat) : List Value := l.map fun (x : Nat) => Value.int k (x : Int)
@[simp] theorem ints_length (k : IntKind) (l : List Nat) : (ints k l).length = l.length := by simp [ints]
theorem ints_get (k : IntKind) (l : List Nat) (i : Nat) (h : i < l.length) : (ints k l)[i]? = some (.int k ((l.getD i 0 : Nat) : Int)) := by
  simp [ints, List.getElem?_eq_getElem h]
theorem ints_set (k : IntKind) (l : List Nat) (i x : Nat) : ints k (l.set i x) = (ints k l).set i (.int k (x : Int)) := by simp [ints, List.map_set]

/-- The cells from (b, off) on hold the numbers l. -/
def Row (k : IntKind) (w : World) (b off : Nat) (l : List Nat) : Prop := ∀ i, i < l.length → w.cell? ⟨b, off + i, none⟩ = some (.int k ((l.getD i 0 : Nat) : Int))

/-- How long a slice may be. -/
def big : Nat := 9223372036854775807
theorem big_val : big = 9223372036854775807 := rfl

/-- The value v is a slice that reads as the numbers l. -/
def Sl (k : IntKind) (w : World) (v : Value) (l : List Nat) : Prop :=
  ∃ a cap, v = .slice a l.length cap ∧ l.length ≤ cap ∧ cap ≤ 9223372036854775807 ∧ (0 < l.length → ∃ b off, a = some ⟨b, off, none⟩ ∧ b < w.heap.size ∧ Row k w b off l)

theorem Row.below {k : IntKind} {w w' : World} {b off B : Nat} {l : List Nat} (h : Row k w b off l) (hb : b < B) (hw : Below B w w') : Row k w' b off l :=
  fun i hi => by rw [hw.cell (p := ⟨b, off + i, none⟩) hb]; exact h i hi

theorem Sl.below {k : IntKind} {w w' : World} {v : Value} {l : List Nat} (h : Sl k w v l) (hw : Below w.heap.size w w') : Sl k w' v l := by
  obtain ⟨a, cap, rfl, h1, h2, h3⟩ := h
  refine ⟨a, cap, rfl, h1, h2, fun hl => ?_⟩
  obtain ⟨b, off, rfl, hb, hr⟩ := h3 hl
  exact ⟨b, off, rfl, Nat.lt_of_lt_of_le hb hw.size, hr.below hb hw⟩

theorem Sl.drew {k : IntKind} {w : World} {v : Value} {l : List Nat} (h : Sl k w v l) : Sl k w.drew v l := h

theorem Sl.nil (k : IntKind) (w : World) (a : Option Addr) (cap : Nat) (hc : cap ≤ 9223372036854775807) : Sl k w (.slice a 0 cap) [] :=
  ⟨a, cap, rfl, Nat.zero_le _, hc, fun h => by simp at h⟩

/-- The block b is known whole: its cells are the values vs; nothing in it is frozen. -/
def Blk (w : World) (b : Nat) (E : TypeId) (vs : List Value) : Prop := w.heap[b]? = some (.cells vs.toArray E (0, 0))

theorem Blk.lt {w : World} {b : Nat} {E : TypeId} {vs : List Value} (h : Blk w b E vs) : b < w.heap.size := by
  unfold Blk at h
  exact (Array.getElem?_eq_some_iff.1 h).1

theorem Blk.cell {w : World} {b : Nat} {E : TypeId} {vs : List Value} (h : Blk w b E vs) (i : Nat) : w.cell? ⟨b, i, none⟩ = vs[i]? := by
  unfold Blk at h
  simp [World.cell?, h]

theorem Blk.get {w : World} {b : Nat} {E : TypeId} {k : IntKind} {l : List Nat} (h : Blk w b E (ints k l)) (i : Nat) (hi : i < l.length) : w.cell? ⟨b, i, none⟩ = some (.int k ((l.getD i 0 : Nat) : Int)) := by
  rw [h.cell, ints_get k l i hi]

theorem Blk.free {w : World} {b : Nat} {E : TypeId} {vs : List Value} (h : Blk w b E vs) (i : Nat) : w.frozen? ⟨b, i, none⟩ = false := by
  unfold Blk at h
  simp [World.frozen?, h]

theorem Blk.below {w w' : World} {b B : Nat} {E : TypeId} {vs : List Value} (h : Blk w b E vs) (hb : b < B) (hw : Below B w w') : Blk w' b E vs := by
  unfold Blk at *
  rw [hw.block b hb, h]

theorem Blk.alloc {w : World} {b : Nat} {E : TypeId} {vs : List Value} (h : Blk w b E vs) (o : Obj) : Blk (w.alloc o) b E vs := by
  have := h.lt
  unfold Blk at *
  rw [Below.heap_alloc w o b this, h]

theorem Blk.drew {w : World} {b : Nat} {E : TypeId} {vs : List Value} (h : Blk w b E vs) : Blk w.drew b E vs := h

theorem Blk.new (w : World) (E : TypeId) (vs : List Value) : Blk (w.alloc (.cells vs.toArray E)) w.heap.size E vs := by
  unfold Blk
  show (w.heap.push _)[w.heap.size]? = _
  simp

theorem Blk.other {w : World} {b : Nat} {E : TypeId} {vs : List Value} (h : Blk w b E vs) (p : Addr) (v : Value) (hp : b ≠ p.block) : Blk (w.setCell p v) b E vs := by
  unfold Blk at *
  rw [Below.heap_setCell w p v b hp, h]

theorem Blk.put {w : World} {b : Nat} {E : TypeId} {vs : List Value} (h : Blk w b E vs) (i : Nat) (v : Value) : Blk (w.setCell ⟨b, i, none⟩ v) b E (vs.set i v) := by
  unfold Blk at *
  simp only [World.setCell, Array.getElem?_modify, h, Option.map_some, if_true]
  simp

theorem Blk.set {w : World} {b : Nat} {E : TypeId} {k : IntKind} {l : List Nat} (h : Blk w b E (ints k l)) (i x : Nat) : Blk (w.setCell ⟨b, i, none⟩ (.int k (x : Int))) b E (ints k (l.set i x)) := by
  rw [ints_set]; exact h.put i _

theorem Blk.row {w : World} {b : Nat} {E : TypeId} {k : IntKind} {l : List Nat} (h : Blk w b E (ints k l)) : Row k w b 0 l := fun i hi => by
  rw [Nat.zero_add]; exact h.get i hi

theorem Row.take {k : IntKind} {w : World} {b off : Nat} {l : List Nat} (h : Row k w b off l) (n : Nat) : Row k w b off (l.take n) := fun i hi => by
  rw [List.length_take] at hi
  rw [h i (by omega)]
  congr 3
  simp [show i < n by omega]

theorem Row.drop {k : IntKind} {w : World} {b off : Nat} {l : List Nat} (h : Row k w b off l) (n : Nat) : Row k w b (off + n) (l.drop n) := fun i hi => by
  rw [List.length_drop] at hi
  rw [Nat.add_assoc, h (n + i) (by omega)]
  congr 3
  simp [List.getElem?_drop]

/-- The first n numbers of a row, as a slice. -/
theorem Row.sl {k : IntKind} {w : World} {b off : Nat} {l : List Nat} (h : Row k w b off l) (hb : b < w.heap.size) (cap : Nat) (h1 : l.length ≤ cap) (h2 : cap ≤ 9223372036854775807) : Sl k w (.slice (some ⟨b, off, none⟩) l.length cap) l :=
  ⟨_, cap, rfl, h1, h2, fun _ => ⟨b, off, rfl, hb, h⟩⟩

theorem made_toList (k : IntKind) (n : Nat) : (madeCells #[Value.int k 0] n) = (ints k (List.replicate n 0)).toArray := by
  apply Array.ext'
  rw [toList_madeCells_one]
  simp [ints]

theorem Blk.made (w : World) (k : IntKind) (n : Nat) (E : TypeId) : Blk (w.alloc (.cells (madeCells #[Value.int k 0] n) E)) w.heap.size E (ints k (List.replicate n 0)) := by
  rw [made_toList]; exact Blk.new _ _ _

theorem bcell {W w1 : World} (hb : Below W.heap.size W w1) : (∀ b o, b < W.heap.size → w1.cell? ⟨b, o, none⟩ = W.cell? ⟨b, o, none⟩) ∧ (∀ b o, b < W.heap.size → w1.frozen? ⟨b, o, none⟩ = W.frozen? ⟨b, o, none⟩) :=
  ⟨fun b o h => hb.cell (p := ⟨b, o, none⟩) h, fun b o h => hb.frozen (p := ⟨b, o, none⟩) h⟩

theorem getD_set (l : List Nat) (i j x : Nat) (h : i < l.length) : (l.set i x).getD j 0 = if i = j then x else l.getD j 0 := by
  simp only [List.getD_eq_getElem?_getD, List.getElem?_set]
  split
  · rename_i e; subst e; simp
  · rfl

/-- Infos of the element types. -/
theorem info_u32 : (Tryz.prog.info? 30).map (fun i => (i.zero, i.size, i.bytes)) = some (some (.int .u32 0), 1, 4) := by kernel_rfl
theorem info_u8 : (Tryz.prog.info? 5).map (fun i => (i.zero, i.size, i.bytes)) = some (some (.int .u8 0), 1, 1) := by kernel_rfl
theorem info_int : (Tryz.prog.info? 3).map (fun i => (i.zero, i.size, i.bytes)) = some (some (.int .i64 0), 1, 8) := by kernel_rfl

end Go.Proofs.YtolmjeglaolhlaaGreatDoor

/- The contract of nat.trim: the digits without zeros at the end, the same memory. -/
namespace Go.Proofs.YtolmjeglaolhlaaGreatDoor
open Go.RowKit Num

/-- How many digits stay. -/
def tlen (l : List Nat) : Nat → Nat
  | 0 => 0
  | n + 1 => if l.getD n 0 = 0 then tlen l n else n + 1

theorem tlen_le (l : List Nat) : ∀ n, tlen l n ≤ n
  | 0 => Nat.le_refl _
  | n + 1 => by
    unfold tlen
    split
    · exact Nat.le_succ_of_le (tlen_le l n)
    · exact Nat.le_refl _

theorem tlen_zero (l : List Nat) : ∀ n j, tlen l n ≤ j → j < n → l.getD j 0 = 0
  | 0, _, _, h => by omega
  | n + 1, j, h1, h2 => by
    unfold tlen at h1
    split at h1
    · rename_i h0
      rcases Nat.lt_or_ge j n with h | h
      · exact tlen_zero l n j h1 h
      · obtain rfl : j = n := by omega
        exact h0
    · omega

theorem tlen_tr (l : List Nat) : ∀ n, n ≤ l.length → Tr (l.take (tlen l n))
  | 0, _ => by simp [tlen, Tr]
  | n + 1, h => by
    unfold tlen
    split
    · exact tlen_tr l n (by omega)
    · rename_i h0
      apply Tr.of_last
      rw [List.length_take, Nat.min_eq_left h]
      simpa [List.getElem?_take] using h0

theorem tlen_vl (b : Nat) (l : List Nat) : vl b (l.take (tlen l l.length)) = vl b l :=
  vl_take_of_zero b l _ fun j h1 h2 => tlen_zero l l.length j h1 h2

set_option maxHeartbeats 400000 in
theorem trim_walk (a : Option Addr) (n cap : Nat) (l : List Nat) (w : World) (hn : n ≤ l.length) (hnc : n ≤ cap) (hc : cap ≤ 9223372036854775807)
    (hr : 0 < n → ∃ b off, a = some ⟨b, off, none⟩ ∧ b < w.heap.size ∧ Row .u32 w b off l) :
    Calls Tryz.prog 98 #[.slice a n cap] w fun e w' => e = .returned (.slice a (tlen l n) cap) ∧ w = w' := by
  go_enter Tryz.func98, Tryz.ntmps98
  go_wp2
  go_loop [0] (fun v => ∃ k : Nat, k ≤ n ∧ v = .slice a k cap ∧ tlen l k = tlen l n) (fun v => match v with | .slice _ k _ => k | _ => 0)
  case atStart => exact ⟨n, Nat.le_refl _, rfl, rfl⟩
  case round =>
    obtain ⟨k, hk, rfl, ht⟩ := hrel
    have Ht := Lib.hid ht; clear ht
    rcases Nat.eq_zero_or_pos k with h0 | h0
    · subst h0
      go_wp2
      go_ret
      exact ⟨by rw [← Ht.out]; rfl, rfl⟩
    · obtain ⟨b, off, rfl, _, hrow⟩ := hr (by omega)
      clear hr
      have hcell := hrow (k - 1) (by omega)
      clear hrow
      go_wp2
      case roundEnd =>
        have h1 : (((l[k - 1]?.getD 0 : Nat) : Int) == 0) = true := by assumption
        refine ⟨⟨k - 1, by omega, rfl, ?_⟩, by simp only []; omega⟩
        rw [← Ht.out]
        obtain ⟨j, rfl⟩ : ∃ j, k = j + 1 := ⟨k - 1, by omega⟩
        simp at h1
        simp [tlen, h1]
      · have h1 : (((l[k - 1]?.getD 0 : Nat) : Int) == 0) = false := by assumption
        go_ret
        refine ⟨?_, rfl⟩
        rw [← Ht.out]
        obtain ⟨j, rfl⟩ : ∃ j, k = j + 1 := ⟨k - 1, by omega⟩
        simp at h1
        simp [tlen, h1]

/-- **nat.trim** at a slice that reads as l. -/
theorem trim_any {b : Nat} {v : Value} {l : List Nat} {w : World} (h : Sl .u32 w v l) :
    Calls Tryz.prog 98 #[v] w fun e w' => ∃ v' l', e = .returned v' ∧ Sl .u32 w v' l' ∧ (Dig b l → Dig b l') ∧ Tr l' ∧ vl b l' = vl b l ∧ l'.length ≤ l.length ∧ w = w' := by
  obtain ⟨a, cap, rfl, h1, h2, h3⟩ := h
  refine (trim_walk a l.length cap l w (Nat.le_refl _) h1 h2 h3).mono ?_
  rintro e w' ⟨rfl, rfl⟩
  have hl := tlen_le l l.length
  have hlen : (l.take (tlen l l.length)).length = tlen l l.length := by rw [List.length_take, Nat.min_eq_left hl]
  refine ⟨_, l.take (tlen l l.length), rfl, ⟨a, cap, by rw [hlen], by omega, h2, fun hp => ?_⟩, fun d => d.take _, tlen_tr l _ (Nat.le_refl _), tlen_vl b l, by omega, rfl⟩
  obtain ⟨b, off, rfl, hb, hr⟩ := h3 (by omega)
  exact ⟨b, off, rfl, hb, hr.take _⟩

end Go.Proofs.YtolmjeglaolhlaaGreatDoor

/- What Int returns, as a value. -/
namespace Go.Proofs.YtolmjeglaolhlaaGreatDoor
open Go.RowKit Num

/-- What nat.Int returns. -/
def intPair (n : Nat) : Value := if n < 9223372036854775808 then .tuple #[.int .i64 (n : Int), .bool true] else .tuple #[.int .i64 0, .bool false]
theorem intPair_lt {n : Nat} (h : n < 9223372036854775808) : intPair n = .tuple #[.int .i64 (n : Int), .bool true] := by unfold intPair; rw [if_pos h]
theorem intPair_ge {n : Nat} (h : 9223372036854775808 ≤ n) : intPair n = .tuple #[.int .i64 0, .bool false] := by unfold intPair; rw [if_neg (by omega)]

end Go.Proofs.YtolmjeglaolhlaaGreatDoor

/- sortesref01.Canon: a number without zeros in front. -/
namespace Go.Proofs.YtolmjeglaolhlaaGreatDoor
open Go.RowKit Num

theorem val_drop_zero : ∀ (l : List UInt8) (k : Nat), (∀ j, j < k → l.getD j 0 = 0) → val (l.drop k) = val l
  | [], k, _ => by simp
  | c :: t, 0, _ => by simp
  | c :: t, k + 1, h => by
    have h0 : c = 0 := by simpa using h 0 (by omega)
    have ih := val_drop_zero t k (fun j hj => by simpa using h (j + 1) (by omega))
    subst h0
    rw [List.drop_succ_cons, ih, val_cons]
    simp

theorem extract_canon (s : ByteArray) (k : Nat) (hz : ∀ j, j < k → s.data.toList.getD j 0 = 0) (hr : Rt (s.data.toList.drop k)) : s.extract k s.size = Enc (SN s) := by
  have h1 : enc (val (s.data.toList.drop k)) = s.data.toList.drop k := enc_of_rt hr
  rw [val_drop_zero _ _ hz] at h1
  apply ByteArray.ext
  apply Array.ext'
  show (s.extract k s.size).data.toList = (enc (val s.data.toList)).toArray.toList
  rw [h1]
  simp
  rw [List.take_of_length_le]
  simp

set_option maxRecDepth 100000 in
theorem Canon_any (s : ByteArray) (w : World) (hs : s.size ≤ 268435456) :
    Calls Tryz.prog 72 #[.string s] w fun e w' => e = .returned (.string (Enc (SN s))) ∧ w = w' := by
  go_enter Tryz.func72, Tryz.ntmps72
  go_wp2
  go_loopw [3] (fun i wr => ∃ k : Nat, k ≤ s.size ∧ i = .int .i64 (k : Int) ∧ w = wr ∧ ∀ j, j < k → s.data.toList.getD j 0 = 0)
    (fun i _ => s.size - (intOf i).toNat)
  case atStart => exact ⟨0, by omega, rfl, rfl, fun j h => by omega⟩
  case round =>
    obtain ⟨k, hk, rfl, rfl, hz⟩ := hrel
    have HZ := Lib.hid hz; clear hz
    go_wp2
    case roundEnd =>
      rename_i hlt hx
      refine ⟨⟨k + 1, by omega, by simp, trivial, fun j hj => ?_⟩, by simp [intOf]; omega⟩
      rcases Nat.lt_or_ge j k with h | h
      · exact HZ.out j h
      · obtain rfl : j = k := by omega
        have h2 : s.data.toList.getD j 0 = s[j] := by
          rw [List.getD_eq_getElem?_getD, List.getElem?_eq_getElem (by simpa using hlt)]
          rfl
        rw [h2]
        have h3 : s[j].toNat = 0 := by simpa using hx
        exact UInt8.toNat_inj.1 h3
    · rename_i hlt hx
      go_ret
      refine ⟨?_, rfl⟩
      suffices hr : Rt (s.data.toList.drop k) by rw [extract_canon s k HZ.out hr]; rfl
      have h2 : s.data.toList.drop k = s[k] :: s.data.toList.drop (k + 1) := by
        rw [List.drop_eq_getElem_cons (by simpa using hlt)]
        rfl
      rw [h2]
      unfold Rt
      have h3 : s[k].toNat ≠ 0 := by simpa using hx
      intro e
      simp at e
      rw [e] at h3
      exact h3 rfl
    · go_ret
      refine ⟨?_, rfl⟩
      suffices hr : Rt (s.data.toList.drop k) by rw [extract_canon s k HZ.out hr]; rfl
      rw [List.drop_eq_nil_of_le (by simp; omega)]
      simp [Rt]

end Go.Proofs.YtolmjeglaolhlaaGreatDoor

/- The contract of sortesref01.trim: the digits without zeros at the end, the same memory. -/
namespace Go.Proofs.YtolmjeglaolhlaaGreatDoor
open Go.RowKit Num

set_option maxHeartbeats 400000 in
theorem rtrim_walk (a : Option Addr) (n cap : Nat) (l : List Nat) (w : World) (hn : n ≤ l.length) (hnc : n ≤ cap) (hc : cap ≤ 9223372036854775807)
    (hr : 0 < n → ∃ b off, a = some ⟨b, off, none⟩ ∧ b < w.heap.size ∧ Row .i64 w b off l) :
    Calls Tryz.prog 114 #[.slice a n cap] w fun e w' => e = .returned (.slice a (tlen l n) cap) ∧ w = w' := by
  go_enter Tryz.func114, Tryz.ntmps114
  go_wp2
  go_loop [0] (fun v => ∃ k : Nat, k ≤ n ∧ v = .slice a k cap ∧ tlen l k = tlen l n) (fun v => match v with | .slice _ k _ => k | _ => 0)
  case atStart => exact ⟨n, Nat.le_refl _, rfl, rfl⟩
  case round =>
    obtain ⟨k, hk, rfl, ht⟩ := hrel
    have Ht := Lib.hid ht; clear ht
    rcases Nat.eq_zero_or_pos k with h0 | h0
    · subst h0
      go_wp2
      go_ret
      exact ⟨by rw [← Ht.out]; rfl, rfl⟩
    · obtain ⟨b, off, rfl, _, hrow⟩ := hr (by omega)
      clear hr
      have hcell := hrow (k - 1) (by omega)
      clear hrow
      go_wp2
      case roundEnd =>
        have h1 : (((l[k - 1]?.getD 0 : Nat) : Int) == 0) = true := by assumption
        refine ⟨⟨k - 1, by omega, rfl, ?_⟩, by simp only []; omega⟩
        rw [← Ht.out]
        obtain ⟨j, rfl⟩ : ∃ j, k = j + 1 := ⟨k - 1, by omega⟩
        simp at h1
        simp [tlen, h1]
      · have h1 : (((l[k - 1]?.getD 0 : Nat) : Int) == 0) = false := by assumption
        go_ret
        refine ⟨?_, rfl⟩
        rw [← Ht.out]
        obtain ⟨j, rfl⟩ : ∃ j, k = j + 1 := ⟨k - 1, by omega⟩
        simp at h1
        simp [tlen, h1]

/-- **sortesref01.trim** at a slice that reads as l. -/
theorem rtrim_any {b : Nat} {v : Value} {l : List Nat} {w : World} (h : Sl .i64 w v l) :
    Calls Tryz.prog 114 #[v] w fun e w' => ∃ v' l', e = .returned v' ∧ Sl .i64 w v' l' ∧ (Dig b l → Dig b l') ∧ Tr l' ∧ vl b l' = vl b l ∧ l'.length ≤ l.length ∧ w = w' := by
  obtain ⟨a, cap, rfl, h1, h2, h3⟩ := h
  refine (rtrim_walk a l.length cap l w (Nat.le_refl _) h1 h2 h3).mono ?_
  rintro e w' ⟨rfl, rfl⟩
  have hl := tlen_le l l.length
  have hlen : (l.take (tlen l l.length)).length = tlen l l.length := by rw [List.length_take, Nat.min_eq_left hl]
  refine ⟨_, l.take (tlen l l.length), rfl, ⟨a, cap, by rw [hlen], by omega, h2, fun hp => ?_⟩, fun d => d.take _, tlen_tr l _ (Nat.le_refl _), tlen_vl b l, by omega, rfl⟩
  obtain ⟨b, off, rfl, hb, hr⟩ := h3 (by omega)
  exact ⟨b, off, rfl, hb, hr.take _⟩

#print axioms rtrim_any
end Go.Proofs.YtolmjeglaolhlaaGreatDoor
