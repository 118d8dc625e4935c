/- The iterator nat.digits: the binary digits of a number, the most significant one first. -/
import Derived.Test.YtmbgohaljiiigaaGreatDoorBase
import Derived.RangeFuncNested
import Derived.RangeFuncBound
import Derived.RangeFuncCalls
import Derived.RangeFuncLeaves
import Derived.RangeFuncBox
import Derived.Shelf.Abstract
import Derived.Shelf.RegionOpen
import Derived.OwnWalkIn
import Derived.TacticsInMore
import Derived.LoopNIn
import Derived.LoopIn
namespace Go.Proofs.YtmbgohaljiiigaaGreatDoor
open Go.RowKit Go.Shelf Num

attribute [local go_sem] Oper.semAt_some

/-- f 0, .., f (k - 1). -/
def upto {α : Type} (f : Nat → α) (k : Nat) : List α := (List.range k).map f
theorem upto_succ {α : Type} (f : Nat → α) (k : Nat) : upto f (k + 1) = upto f k ++ [f k] := by simp [upto, List.range_succ]
theorem upto_length {α : Type} (f : Nat → α) (k : Nat) : (upto f k).length = k := by simp [upto]

/-- Some blocks lie as they lay. -/
def KpB (C : Nat → Prop) (W W' : World) : Prop := ∀ c, C c → W'.heap[c]? = W.heap[c]?
theorem KpB.refl (C : Nat → Prop) (W : World) : KpB C W W := fun _ _ => rfl
theorem KpB.trans {C : Nat → Prop} {A B D : World} (h : KpB C A B) (k : KpB C B D) : KpB C A D := fun c hc => (k c hc).trans (h c hc)
theorem KpB.cell {C : Nat → Prop} {W W' : World} (h : KpB C W W') {b o : Nat} (hb : C b) : W'.cell? ⟨b, o, none⟩ = W.cell? ⟨b, o, none⟩ := World.cell?_of_block (w := W) (h b hb)
theorem KpB.row {C : Nat → Prop} {W W' : World} (h : KpB C W W') {k : IntKind} {b off : Nat} {l : List Nat} (hb : C b) (hr : Row k W b off l) : Row k W' b off l := fun i hi => by rw [h.cell hb]; exact hr i hi
theorem KpB.below {C : Nat → Prop} {W W' : World} {B : Nat} (h : Below B W W') (hC : ∀ c, C c → c < B) : KpB C W W' := fun c hc => h.block c (hC c hc)
theorem KpB.put {C : Nat → Prop} {w : World} (hC : ∀ c, C c → c < w.heap.size) (W : World) (l : Nat) (o' : Obj) (hl : w.heap.size ≤ l) : KpB C W (W.putObj l o') := fun c hc =>
  World.putObj_heap_other (by have := hC c hc; omega)

/-- The j-th of N binary digits of e, the most significant one first. -/
def topBit (e N : Nat) (j : Nat) : Bool := decide (e / 2 ^ (N - 1 - j) % 2 = 1)

theorem bit_of {l : List Nat} (hd : Dig 4294967296 l) (k : Nat) : l.getD (k / 32) 0 / 2 ^ (k % 32) % 2 = vl 4294967296 l / 2 ^ k % 2 := by
  have hr : k % 32 < 32 := Nat.mod_lt _ (by omega)
  have hk2 : (4294967296 : Nat) ^ (k / 32) * 2 ^ (k % 32) = 2 ^ k := by
    rw [show (4294967296 : Nat) = 2 ^ 32 by decide, ← Nat.pow_mul, ← Nat.pow_add, Nat.div_add_mod]
  rcases Nat.lt_or_ge (k / 32) l.length with hk | hk
  · rw [vl_take_drop _ l (k / 32) (by omega), vl_drop _ l (k / 32) hk, ← hk2]
    have h1 := vl_lt (hd.take (k / 32))
    rw [List.length_take, Nat.min_eq_left (by omega)] at h1
    rw [← Nat.div_div_eq_div_mul, Nat.add_mul_div_left _ _ (Nat.pow_pos (by omega)), Nat.div_eq_of_lt h1, Nat.zero_add]
    generalize l.getD (k / 32) 0 = x
    generalize vl 4294967296 (l.drop (k / 32 + 1)) = t
    have e : 4294967296 * t = 2 ^ (k % 32) * (2 * (2 ^ (31 - k % 32) * t)) := by
      rw [← Nat.mul_assoc, ← Nat.mul_assoc, ← Nat.pow_succ, ← Nat.pow_add, show k % 32 + 1 + (31 - k % 32) = 32 by omega]
    rw [e, Nat.add_mul_div_left _ _ (Nat.pow_pos (by omega)), Nat.add_mul_mod_self_left]
  · have h1 := vl_lt hd
    have h2 : (4294967296 : Nat) ^ l.length ≤ 2 ^ k := by
      rw [show (4294967296 : Nat) = 2 ^ 32 by decide, ← Nat.pow_mul]
      exact Nat.pow_le_pow_right (by omega) (by omega)
    rw [List.getD_eq_getElem?_getD, List.getElem?_eq_none hk, Nat.div_eq_of_lt (a := vl 4294967296 l) (by omega)]
    simp

theorem and_one_u32 (y : Nat) (hy : y < 4294967296) : bits .and .u32 (y : Int) 1 = ((y % 2 : Nat) : Int) := by
  have h := u32_and_nat y 1 hy (by decide)
  rw [show y &&& 1 = y % 2 from Nat.and_one_is_mod y] at h
  exact h

set_option maxRecDepth 100000 in
set_option maxHeartbeats 2000000 in
/-- The closure of nat.digits: for every loop body that keeps what lay below n₀. -/
theorem digits1_in (F : Fence) (n : Nat) (h7 : F.fn 137) (hro : F.round = none) (hn : 1 ≤ n) (l Bs : Nat) (C : Nat → Prop) (a : Option Addr) (cap : Nat) (zs : List Nat) (hcap : zs.length ≤ cap) (hreach : zs.length ≤ 1073741824) (hdz : Dig 4294967296 zs)
    (J Jx : List Bool → World → Prop)
    (hY : ∀ pre x W, J pre W → pre.length < 32 * zs.length → YieldAt F (n - 1) Tryz.prog l #[.bool x] W fun e W' =>
      (e = .returned (.bool true) ∧ J (pre ++ [x]) W' ∧ KpB C W W') ∨ (e = .returned (.bool false) ∧ Jx (pre ++ [x]) W'))
    (W : World) (hBs : W.cell? ⟨Bs, 0, none⟩ = some (.slice a zs.length cap)) (hBs0 : C Bs) (hc : 0 < zs.length → ∃ b off, a = some ⟨b, off, none⟩ ∧ C b ∧ Row .u32 W b off zs) (h0 : J [] W) :
    CallsIn F n Tryz.prog 137 #[.func (.yield l) #[] #[], .pointer (some ⟨Bs, 0, none⟩)] W fun e W' => (∃ v, e = .returned v) ∧
      ((∃ ys, ys = upto (topBit (vl 4294967296 zs) (32 * zs.length)) (32 * zs.length) ∧ J ys W') ∨ (∃ pre, (∃ k, k ≤ 32 * zs.length ∧ pre = upto (topBit (vl 4294967296 zs) (32 * zs.length)) k) ∧ Jx pre W')) := by
  have _ := hcap
  refine callsIn_of_wp Tryz.func137 rfl h7 ?_ hro
  simp only [Tryz.ntmps137, List.size_toArray, List.length_cons, List.length_nil, Nat.reduceAdd, Nat.reduceSub, Array.replicate_succ, Array.replicate_zero, List.push_toArray, List.append_toArray, List.nil_append, List.cons_append]
  have HC := Lib.hid hc; clear hc
  gi_wp2
  gi_loopw [3] (fun i wr => ∃ (j g : Nat) (z : Int), j + g = 32 * zs.length ∧ i = .int .i64 z ∧ z = (g : Int) - 1 ∧ J (upto (topBit (vl 4294967296 zs) (32 * zs.length)) j) wr ∧ KpB C W wr)
    (fun i _ => (intOf i + 1).toNat)
  case atStart => exact ⟨0, 32 * zs.length, _, by omega, rfl, by simp, h0, KpB.refl _ _⟩
  case round =>
    obtain ⟨j, g, z, hjg, rfl, hz, hJs, hnx⟩ := hrel
    have hbx : wr.cell? ⟨Bs, 0, none⟩ = some (.slice a zs.length cap) := (hnx.cell hBs0).trans hBs
    clear hBs
    cases g with
    | zero =>
      obtain rfl : z = -1 := by omega
      obtain rfl : j = 32 * zs.length := by omega
      clear hz hjg
      gi_wp2
      go_end0
      exact ⟨⟨_, rfl⟩, .inl ⟨_, rfl, hJs⟩⟩
    | succ k =>
      obtain rfl : z = (k : Int) := by omega
      clear hz
      obtain ⟨b, off, rfl, hbn, hrow⟩ := HC.out (by omega)
      have hx := (hnx.row hbn hrow) (k / 32) (by omega)
      have hx32 := hdz.get (by decide) (k / 32)
      have hbit := bit_of hdz k
      generalize zs.getD (k / 32) 0 = x at hx hx32 hbit
      obtain ⟨y, hy, hy2⟩ : ∃ y : Nat, (x : Int) / 2 ^ (k % 32) = (y : Int) ∧ y = x / 2 ^ (k % 32) := ⟨x / 2 ^ (k % 32), by simp, rfl⟩
      have hy32 : y < 4294967296 := by rw [hy2]; exact Nat.lt_of_le_of_lt (Nat.div_le_self _ _) hx32
      have hand := and_one_u32 y hy32
      rw [hy2, hbit] at hand
      obtain ⟨t, ht⟩ : ∃ t : Bool, t = topBit (vl 4294967296 zs) (32 * zs.length) j := ⟨_, rfl⟩
      obtain ⟨d, hd⟩ : ∃ d, d = vl 4294967296 zs / 2 ^ k % 2 := ⟨_, rfl⟩
      have htd : ((d : Int) == 1) = t := by
        rw [ht]
        unfold topBit
        rw [show 32 * zs.length - 1 - j = k by omega, ← hd]
        rcases (show d = 0 ∨ d = 1 by have := Nat.mod_lt (vl 4294967296 zs / 2 ^ k) (show 0 < 2 by omega); omega) with h | h <;> rw [h] <;> rfl
      rw [← hd, ← hy2] at hand
      have HT := Lib.hid ht; have HNX := Lib.hid hnx; have HJG := Lib.hid hjg
      have hk : k < 32 * zs.length := by omega
      clear ht hd hbit hy2 hrow hnx hjg
      obtain ⟨fn, tmps, assign, body, hyy, hR⟩ := hY _ t wr hJs (by rw [upto_length]; have := HJG.out; omega)
      have HJS := Lib.hid hJs; clear hJs
      gi_wp2
      refine hR.mono ?_
      rintro e W3 (⟨rfl, hJ3, hk3⟩ | ⟨rfl, hJx3⟩)
      · gi_wp2
        go_roundw
        case rel => exact ⟨j + 1, k, _, by have := HJG.out; omega, rfl, rfl, by rw [upto_succ, ← HT.out]; exact hJ3, HNX.out.trans hk3⟩
        case measure => simp [intOf]
      · gi_wp2
        refine bodyPost_ret (results_none rfl _ _ _) rfl ?_
        exact ⟨⟨_, rfl⟩, .inr ⟨_, ⟨j + 1, by have := HJG.out; omega, by rw [upto_succ, ← HT.out]⟩, hJx3⟩⟩

set_option maxRecDepth 100000 in
set_option maxHeartbeats 1000000 in
/-- nat.digits boxes the number; the function value captures the box. -/
theorem digits_in (F : Fence) (n : Nat) (h5 : F.fn 104) (hro : F.round = none) (a : Option Addr) (len cap : Nat) (w : World) :
    CallsIn F n Tryz.prog 104 #[.slice a len cap] w fun e w' => e = .returned (.func (.func 137) #[] #[.pointer (some ⟨w.heap.size, 0, none⟩)]) ∧ w' = w.alloc (.cells #[.slice a len cap] 108) := by
  refine callsIn_of_wp Tryz.func104 rfl h5 ?_ hro
  simp only [Tryz.ntmps104, List.size_toArray, List.length_cons, List.length_nil, Nat.reduceAdd, Nat.reduceSub, Array.replicate_succ, Array.replicate_zero, List.push_toArray, List.append_toArray, List.nil_append, List.cons_append]
  gi_wp2
  go_ret
  exact ⟨rfl, rfl⟩

/-- All binary digits, in order, for every body that keeps the box and the digits. -/
theorem digits_stops (F : Fence) (n : Nat) (h7 : F.fn 137) (hro : F.round = none) (hn : 1 ≤ n) (Bs : Nat) (C : Nat → Prop) (a : Option Addr) (cap : Nat) (zs : List Nat) (hcap : zs.length ≤ cap) (hreach : zs.length ≤ 1073741824) (hdz : Dig 4294967296 zs)
    (w : World) (hBs : C Bs) (hC : ∀ c, C c → c < w.heap.size)
    (hc : w.cell? ⟨Bs, 0, none⟩ = some (.slice a zs.length cap)) (hI : 0 < zs.length → ∃ b off, a = some ⟨b, off, none⟩ ∧ C b ∧ Row .u32 w b off zs) :
    SeqStopsK F n Tryz.prog 137 #[.pointer (some ⟨Bs, 0, none⟩)] (fun x : Bool => #[Value.bool x]) (KpB C) (fun ys => ys = upto (topBit (vl 4294967296 zs) (32 * zs.length)) (32 * zs.length)) (fun _ => True) (32 * zs.length) w := fun l J Jx W hW _ _ hY h0 => by
  have hk := KpB.below hW hC
  refine (digits1_in F n h7 hro hn l Bs C a cap zs hcap hreach hdz J Jx hY W ((hk.cell hBs).trans hc) hBs (fun h => ?_) h0).mono ?_
  · obtain ⟨b, off, e, hb, hr⟩ := hI h
    exact ⟨b, off, e, hb, hk.row hb hr⟩
  · rintro e W' ⟨he, ⟨ys, rfl, hj⟩ | ⟨pre, _, hj⟩⟩
    · exact ⟨he, .inl ⟨_, rfl, hj⟩⟩
    · exact ⟨he, .inr ⟨_, trivial, hj⟩⟩

#print axioms digits_stops
end Go.Proofs.YtmbgohaljiiigaaGreatDoor
