/- Odd moduli, and the binary digits of an exponent. -/
import Derived.RangeFuncNested
import Derived.RangeFuncBound
import Derived.RangeFuncCalls
import Derived.RangeFuncLeaves
import Derived.RangeFuncBox
import Derived.Shelf.Abstract
import Derived.Shelf.RegionOpen
import Derived.OwnWalkIn
import Derived.TacticsInMore
import Derived.LoopNIn
import Derived.LoopIn
import Derived.Laws.Append
import Derived.Laws.AppendOwn
import Derived.BigRegion
import Derived.RegionTactic
import Derived.Deep.RegionLaw
import Derived.Test.YtolmjeglaolhlaaGreatDoorBase
import Derived.Test.YtolmjeglaolhlaaGreatDoorPlain

/- The iterator nat.digits: the binary digits of a number, the most significant one first. -/
namespace Go.Proofs.YtolmjeglaolhlaaGreatDoor
open Go.RowKit Go.Shelf Num

attribute [local go_sem] Oper.semAt_some

/-- f 0, .., f (k - 1). -/
def upto {α : Type} (f : Nat → α) (k : Nat) : List α := (List.range k).map f
theorem upto_succ {α : Type} (f : Nat → α) (k : Nat) : upto f (k + 1) = upto f k ++ [f k] := by simp [upto, List.range_succ]
theorem upto_length {α : Type} (f : Nat → α) (k : Nat) : (upto f k).length = k := by simp [upto]

/-- Some blocks lie as they lay. -/
def KpB (C : Nat → Prop) (W W' : World) : Prop := ∀ c, C c → W'.heap[c]? = W.heap[c]?
theorem KpB.refl (C : Nat → Prop) (W : World) : KpB C W W := fun _ _ => rfl
theorem KpB.trans {C : Nat → Prop} {A B D : World} (h : KpB C A B) (k : KpB C B D) : KpB C A D := fun c hc => (k c hc).trans (h c hc)
theorem KpB.cell {C : Nat → Prop} {W W' : World} (h : KpB C W W') {b o : Nat} (hb : C b) : W'.cell? ⟨b, o, none⟩ = W.cell? ⟨b, o, none⟩ := World.cell?_of_block (w := W) (h b hb)
theorem KpB.row {C : Nat → Prop} {W W' : World} (h : KpB C W W') {k : IntKind} {b off : Nat} {l : List Nat} (hb : C b) (hr : Row k W b off l) : Row k W' b off l := fun i hi => by rw [h.cell hb]; exact hr i hi
theorem KpB.below {C : Nat → Prop} {W W' : World} {B : Nat} (h : Below B W W') (hC : ∀ c, C c → c < B) : KpB C W W' := fun c hc => h.block c (hC c hc)
theorem KpB.put {C : Nat → Prop} {w : World} (hC : ∀ c, C c → c < w.heap.size) (W : World) (l : Nat) (o' : Obj) (hl : w.heap.size ≤ l) : KpB C W (W.putObj l o') := fun c hc =>
  World.putObj_heap_other (by have := hC c hc; omega)

/-- The j-th of N binary digits of e, the most significant one first. -/
def topBit (e N : Nat) (j : Nat) : Bool := decide (e / 2 ^ (N - 1 - j) % 2 = 1)

theorem bit_of {l : List Nat} (hd : Dig 4294967296 l) (k : Nat) : l.getD (k / 32) 0 / 2 ^ (k % 32) % 2 = vl 4294967296 l / 2 ^ k % 2 := by
  have hr : k % 32 < 32 := Nat.mod_lt _ (by omega)
  have hk2 : (4294967296 : Nat) ^ (k / 32) * 2 ^ (k % 32) = 2 ^ k := by
    rw [show (4294967296 : Nat) = 2 ^ 32 by decide, ← Nat.pow_mul, ← Nat.pow_add, Nat.div_add_mod]
  rcases Nat.lt_or_ge (k / 32) l.length with hk | hk
  · rw [vl_take_drop _ l (k / 32) (by omega), vl_drop _ l (k / 32) hk, ← hk2]
    have h1 := vl_lt (hd.take (k / 32))
    rw [List.length_take, Nat.min_eq_left (by omega)] at h1
    rw [← Nat.div_div_eq_div_mul, Nat.add_mul_div_left _ _ (Nat.pow_pos (by omega)), Nat.div_eq_of_lt h1, Nat.zero_add]
    generalize l.getD (k / 32) 0 = x
    generalize vl 4294967296 (l.drop (k / 32 + 1)) = t
    have e : 4294967296 * t = 2 ^ (k % 32) * (2 * (2 ^ (31 - k % 32) * t)) := by
      rw [← Nat.mul_assoc, ← Nat.mul_assoc, ← Nat.pow_succ, ← Nat.pow_add, show k % 32 + 1 + (31 - k % 32) = 32 by omega]
    rw [e, Nat.add_mul_div_left _ _ (Nat.pow_pos (by omega)), Nat.add_mul_mod_self_left]
  · have h1 := vl_lt hd
    have h2 : (4294967296 : Nat) ^ l.length ≤ 2 ^ k := by
      rw [show (4294967296 : Nat) = 2 ^ 32 by decide, ← Nat.pow_mul]
      exact Nat.pow_le_pow_right (by omega) (by omega)
    rw [List.getD_eq_getElem?_getD, List.getElem?_eq_none hk, Nat.div_eq_of_lt (a := vl 4294967296 l) (by omega)]
    simp

theorem and_one_u32 (y : Nat) (hy : y < 4294967296) : bits .and .u32 (y : Int) 1 = ((y % 2 : Nat) : Int) := by
  have h := u32_and_nat y 1 hy (by decide)
  rw [show y &&& 1 = y % 2 from Nat.and_one_is_mod y] at h
  exact h

set_option maxRecDepth 100000 in
set_option maxHeartbeats 2000000 in
/-- The closure of nat.digits: for every loop body that keeps what lay below n₀. -/
theorem digits1_in (F : Fence) (n : Nat) (h7 : F.fn 113) (hro : F.round = none) (hn : 1 ≤ n) (l Bs : Nat) (C : Nat → Prop) (a : Option Addr) (cap : Nat) (zs : List Nat) (hcap : zs.length ≤ cap) (hreach : zs.length ≤ 1073741824) (hdz : Dig 4294967296 zs)
    (J Jx : List Bool → World → Prop)
    (hY : ∀ pre x W, J pre W → pre.length < 32 * zs.length → YieldAt F (n - 1) Tryz.prog l #[.bool x] W fun e W' =>
      (e = .returned (.bool true) ∧ J (pre ++ [x]) W' ∧ KpB C W W') ∨ (e = .returned (.bool false) ∧ Jx (pre ++ [x]) W'))
    (W : World) (hBs : W.cell? ⟨Bs, 0, none⟩ = some (.slice a zs.length cap)) (hBs0 : C Bs) (hc : 0 < zs.length → ∃ b off, a = some ⟨b, off, none⟩ ∧ C b ∧ Row .u32 W b off zs) (h0 : J [] W) :
    CallsIn F n Tryz.prog 113 #[.func (.yield l) #[] #[], .pointer (some ⟨Bs, 0, none⟩)] W fun e W' => (∃ v, e = .returned v) ∧
      ((∃ ys, ys = upto (topBit (vl 4294967296 zs) (32 * zs.length)) (32 * zs.length) ∧ J ys W') ∨ (∃ pre, (∃ k, k ≤ 32 * zs.length ∧ pre = upto (topBit (vl 4294967296 zs) (32 * zs.length)) k) ∧ Jx pre W')) := by
  have _ := hcap
  refine callsIn_of_wp Tryz.func113 rfl h7 ?_ hro
  simp only [Tryz.ntmps113, List.size_toArray, List.length_cons, List.length_nil, Nat.reduceAdd, Nat.reduceSub, Array.replicate_succ, Array.replicate_zero, List.push_toArray, List.append_toArray, List.nil_append, List.cons_append]
  have HC := Lib.hid hc; clear hc
  gi_wp2
  gi_loopw [3] (fun i wr => ∃ (j g : Nat) (z : Int), j + g = 32 * zs.length ∧ i = .int .i64 z ∧ z = (g : Int) - 1 ∧ J (upto (topBit (vl 4294967296 zs) (32 * zs.length)) j) wr ∧ KpB C W wr)
    (fun i _ => (intOf i + 1).toNat)
  case atStart => exact ⟨0, 32 * zs.length, _, by omega, rfl, by simp, h0, KpB.refl _ _⟩
  case round =>
    obtain ⟨j, g, z, hjg, rfl, hz, hJs, hnx⟩ := hrel
    have hbx : wr.cell? ⟨Bs, 0, none⟩ = some (.slice a zs.length cap) := (hnx.cell hBs0).trans hBs
    clear hBs
    cases g with
    | zero =>
      obtain rfl : z = -1 := by omega
      obtain rfl : j = 32 * zs.length := by omega
      clear hz hjg
      gi_wp2
      go_end0
      exact ⟨⟨_, rfl⟩, .inl ⟨_, rfl, hJs⟩⟩
    | succ k =>
      obtain rfl : z = (k : Int) := by omega
      clear hz
      obtain ⟨b, off, rfl, hbn, hrow⟩ := HC.out (by omega)
      have hx := (hnx.row hbn hrow) (k / 32) (by omega)
      have hx32 := hdz.get (by decide) (k / 32)
      have hbit := bit_of hdz k
      generalize zs.getD (k / 32) 0 = x at hx hx32 hbit
      obtain ⟨y, hy, hy2⟩ : ∃ y : Nat, (x : Int) / 2 ^ (k % 32) = (y : Int) ∧ y = x / 2 ^ (k % 32) := ⟨x / 2 ^ (k % 32), by simp, rfl⟩
      have hy32 : y < 4294967296 := by rw [hy2]; exact Nat.lt_of_le_of_lt (Nat.div_le_self _ _) hx32
      have hand := and_one_u32 y hy32
      rw [hy2, hbit] at hand
      obtain ⟨t, ht⟩ : ∃ t : Bool, t = topBit (vl 4294967296 zs) (32 * zs.length) j := ⟨_, rfl⟩
      obtain ⟨d, hd⟩ : ∃ d, d = vl 4294967296 zs / 2 ^ k % 2 := ⟨_, rfl⟩
      have htd : ((d : Int) == 1) = t := by
        rw [ht]
        unfold topBit
        rw [show 32 * zs.length - 1 - j = k by omega, ← hd]
        rcases (show d = 0 ∨ d = 1 by have := Nat.mod_lt (vl 4294967296 zs / 2 ^ k) (show 0 < 2 by omega); omega) with h | h <;> rw [h] <;> rfl
      rw [← hd, ← hy2] at hand
      have HT := Lib.hid ht; have HNX := Lib.hid hnx; have HJG := Lib.hid hjg
      have hk : k < 32 * zs.length := by omega
      clear ht hd hbit hy2 hrow hnx hjg
      obtain ⟨fn, tmps, assign, body, hyy, hR⟩ := hY _ t wr hJs (by rw [upto_length]; have := HJG.out; omega)
      have HJS := Lib.hid hJs; clear hJs
      gi_wp2
      refine hR.mono ?_
      rintro e W3 (⟨rfl, hJ3, hk3⟩ | ⟨rfl, hJx3⟩)
      · gi_wp2
        go_roundw
        case rel => exact ⟨j + 1, k, _, by have := HJG.out; omega, rfl, rfl, by rw [upto_succ, ← HT.out]; exact hJ3, HNX.out.trans hk3⟩
        case measure => simp [intOf]
      · gi_wp2
        refine bodyPost_ret (results_none rfl _ _ _) rfl ?_
        exact ⟨⟨_, rfl⟩, .inr ⟨_, ⟨j + 1, by have := HJG.out; omega, by rw [upto_succ, ← HT.out]⟩, hJx3⟩⟩

set_option maxRecDepth 100000 in
set_option maxHeartbeats 1000000 in
/-- nat.digits boxes the number; the function value captures the box. -/
theorem digits_in (F : Fence) (n : Nat) (h5 : F.fn 68) (hro : F.round = none) (a : Option Addr) (len cap : Nat) (w : World) :
    CallsIn F n Tryz.prog 68 #[.slice a len cap] w fun e w' => e = .returned (.func (.func 113) #[] #[.pointer (some ⟨w.heap.size, 0, none⟩)]) ∧ w' = w.alloc (.cells #[.slice a len cap] 80) := by
  refine callsIn_of_wp Tryz.func68 rfl h5 ?_ hro
  simp only [Tryz.ntmps68, List.size_toArray, List.length_cons, List.length_nil, Nat.reduceAdd, Nat.reduceSub, Array.replicate_succ, Array.replicate_zero, List.push_toArray, List.append_toArray, List.nil_append, List.cons_append]
  gi_wp2
  go_ret
  exact ⟨rfl, rfl⟩

/-- All binary digits, in order, for every body that keeps the box and the digits. -/
theorem digits_stops (F : Fence) (n : Nat) (h7 : F.fn 113) (hro : F.round = none) (hn : 1 ≤ n) (Bs : Nat) (C : Nat → Prop) (a : Option Addr) (cap : Nat) (zs : List Nat) (hcap : zs.length ≤ cap) (hreach : zs.length ≤ 1073741824) (hdz : Dig 4294967296 zs)
    (w : World) (hBs : C Bs) (hC : ∀ c, C c → c < w.heap.size)
    (hc : w.cell? ⟨Bs, 0, none⟩ = some (.slice a zs.length cap)) (hI : 0 < zs.length → ∃ b off, a = some ⟨b, off, none⟩ ∧ C b ∧ Row .u32 w b off zs) :
    SeqStopsK F n Tryz.prog 113 #[.pointer (some ⟨Bs, 0, none⟩)] (fun x : Bool => #[Value.bool x]) (KpB C) (fun ys => ys = upto (topBit (vl 4294967296 zs) (32 * zs.length)) (32 * zs.length)) (fun _ => True) (32 * zs.length) w := fun l J Jx W hW _ _ hY h0 => by
  have hk := KpB.below hW hC
  refine (digits1_in F n h7 hro hn l Bs C a cap zs hcap hreach hdz J Jx hY W ((hk.cell hBs).trans hc) hBs (fun h => ?_) h0).mono ?_
  · obtain ⟨b, off, e, hb, hr⟩ := hI h
    exact ⟨b, off, e, hb, hk.row hb hr⟩
  · rintro e W' ⟨he, ⟨ys, rfl, hj⟩ | ⟨pre, _, hj⟩⟩
    · exact ⟨he, .inl ⟨_, rfl, hj⟩⟩
    · exact ⟨he, .inr ⟨_, trivial, hj⟩⟩

end Go.Proofs.YtolmjeglaolhlaaGreatDoor

/- nat.newOdd: the inverse of an odd modulus' first digit, modulo 2^32, negated. -/
namespace Go.Proofs.YtolmjeglaolhlaaGreatDoor
open Go.RowKit Num

/-- How many of the inverse's bits are right after j rounds (as a power of 2). -/
def mp : Nat → Nat
  | 0 => 8
  | 1 => 64
  | 2 => 4096
  | 3 => 16777216
  | _ => 4294967296

theorem mp_sq : ∀ j, j < 5 → mp (j + 1) ∣ mp j * mp j
  | 0, _ => ⟨1, rfl⟩
  | 1, _ => ⟨1, rfl⟩
  | 2, _ => ⟨1, rfl⟩
  | 3, _ => ⟨65536, rfl⟩
  | 4, _ => ⟨4294967296, rfl⟩
  | n + 5, h => by omega

theorem mp_dvd : ∀ j, j < 6 → mp j ∣ 4294967296
  | 0, _ => ⟨536870912, rfl⟩
  | 1, _ => ⟨67108864, rfl⟩
  | 2, _ => ⟨1048576, rfl⟩
  | 3, _ => ⟨256, rfl⟩
  | 4, _ => ⟨1, rfl⟩
  | 5, _ => ⟨1, rfl⟩
  | n + 6, h => by omega

/-- n is what newOdd reckons for the digit m. -/
def OddN (m n : Nat) : Prop := n < 4294967296 ∧ ∃ x : Nat, ((m : Int) * x - 1) % 4294967296 = 0 ∧ (n : Int) = (-(x : Int)) % 4294967296

def NewRel (m : Nat) (x i : Value) : Prop := ∃ j y : Nat, j ≤ 5 ∧ y < 4294967296 ∧ i = .int .i64 (j : Int) ∧ x = .int .u32 (y : Int) ∧ ((m : Int) * y - 1) % (mp j : Int) = 0

theorem new_step {m y j : Nat} (hj : j < 5) (h : ((m : Int) * y - 1) % (mp j : Int) = 0) :
    ((m : Int) * ((y : Int) * ((2 - (m : Int) * y) % 4294967296) % 4294967296) - 1) % (mp (j + 1) : Int) = 0 :=
  inv_step (mp_sq j hj) (mp_dvd (j + 1) (by omega)) h

set_option maxRecDepth 100000 in
set_option maxHeartbeats 1000000 in
/-- **nat.newOdd**. -/
theorem newOdd_any {vm : Value} {lm : List Nat} {w : World} (hs : Sl .u32 w vm lm) (hd : Dig 4294967296 lm) (ho : vl 4294967296 lm % 2 = 1) :
    Calls Tryz.prog 66 #[vm] w fun e w' => ∃ n : Nat, e = .returned (.agg #[vm, .int .u32 (n : Int)]) ∧ OddN (lm.getD 0 0) n ∧ Below w.heap.size w w' := by
  have hl : 0 < lm.length := by
    cases lm with
    | nil => simp at ho
    | cons x t => simp
  have hm2 : lm.getD 0 0 % 2 = 1 := by
    cases lm with
    | nil => simp at ho
    | cons x t => simp only [List.getD_cons_zero]; simp only [vl_cons] at ho; omega
  obtain ⟨a, cap, rfl, h1, h2, h3⟩ := hs
  obtain ⟨b, off, rfl, hb, hr⟩ := h3 hl
  have hc := hr 0 hl
  have hm32 := hd.get (by decide) 0
  generalize lm.getD 0 0 = m at *
  generalize lm.length = n at *
  rw [Nat.add_zero] at hc
  have hca : ∀ o, (w.alloc o).cell? ⟨b, off, none⟩ = some (.int .u32 (m : Int)) := fun o => (World.cell?_alloc_lt w o ⟨b, off, none⟩ hb).trans hc
  have hsq := odd_sq hm2
  have HSQ := Lib.hid hsq
  clear hsq h3 hr hd ho hm2
  go_enter Tryz.func66, Tryz.ntmps66
  go_wp2
  go_loop [3, 7] (fun x i => NewRel m x i) (fun _ i => 5 - (intOf i).toNat)
  case atStart => exact ⟨0, m, by omega, hm32, rfl, rfl, HSQ.out⟩
  case round =>
    obtain ⟨j, y, hj, hy, rfl, rfl, hv⟩ := hrel
    have HV := Lib.hid hv; clear hv
    rcases Nat.lt_or_ge j 5 with hlt | hge
    · obtain ⟨y', hy', hyb⟩ : ∃ y' : Nat, (y : Int) * ((2 - (m : Int) * y) % 4294967296) % 4294967296 = (y' : Int) ∧ y' < 4294967296 :=
        ⟨((y : Int) * ((2 - (m : Int) * y) % 4294967296) % 4294967296).toNat, by omega, by omega⟩
      have hst := new_step hlt HV.out
      rw [hy'] at hst
      have HST := Lib.hid hst
      clear hst
      go_wp2
      exact ⟨⟨j + 1, y', by omega, hyb, by go_num, by rw [← hy'], HST.out⟩, by simp only [intOf]; omega⟩
    · obtain rfl : j = 5 := by omega
      obtain ⟨z, hz, hzb⟩ : ∃ z : Nat, (-(y : Int)) % 4294967296 = (z : Int) ∧ z < 4294967296 := ⟨((-(y : Int)) % 4294967296).toNat, by omega, by omega⟩
      have hO : OddN m z := ⟨hzb, y, HV.out, hz.symm⟩
      have HOO := Lib.hid hO; clear hO hzb
      go_wp2
      refine bodyPost_ret (v := .agg #[.slice (some ⟨b, off, none⟩) n cap, .int .u32 (z : Int)]) (by simp [results, Tryz.results66, go_sem]) rfl ⟨z, rfl, HOO.out, (Below.refl _ _).alloc (Nat.le_refl _) _⟩

end Go.Proofs.YtolmjeglaolhlaaGreatDoor

/- The full form of a number below an odd modulus: nat.odd.full; append of a make. -/
namespace Go.Proofs.YtolmjeglaolhlaaGreatDoor
open Go.RowKit Num

/-- append(s, make([]T, j)...), j > 0, where there is no room. -/
theorem run_append_make {P : Program} (w : World) (t ti ty e : TypeId) (i : TypeInfo) (z : Value) (ht : P.underlying t = some (.slice e)) (hti : P.underlying ti = some (.int .i64)) (hi : P.info? e = some i) (hz : i.zero = some z)
    (b : Option Addr) (n : Nat) (olds : List Value) (hf : ∀ W : World, W.heap = w.heap → (Builtin.firstCells i.size n (.slice b n n)).run P W = .ok olds.toArray W)
    (j : Nat) (hj : 0 < j) (hs : 0 < i.size) (h63 : n + j ≤ 1073741824) (hby : i.bytes ≤ 8) :
    (Builtin.append_ #[t, ti] ty #[.slice b n n, .int .i64 (j : Int)]).run P w =
      .ok (.slice (some ⟨w.heap.size, 0, none⟩) (n + j) (grownCap w (n + j) n e))
        (w.drew.alloc (.cells (olds.toArray ++ Builtin.zeroCells z.cells j ++ Builtin.zeroCells z.cells (grownCap w (n + j) n e - (n + j))) e)) := by
  have hw : IntKind.i64.wrap (j : Int) = (j : Int) := by rw [IntKind.wrap_i64]; omega
  have hn : ¬ (n + j ≤ n) := by omega
  have hl0 : ¬ ((j : Int) < 0) := by omega
  have hb1 : (j : Int) * (i.bytes : Int) ≤ 281474976710656 := by
    have : j * i.bytes ≤ 1073741824 * 8 := Nat.mul_le_mul (by omega) hby
    have e : (j : Int) * (i.bytes : Int) = ((j * i.bytes : Nat) : Int) := by simp
    rw [e]; omega
  have h48 : ¬ (281474976710656 < (j : Int) * (i.bytes : Int)) := by omega
  have h63' : ¬ (9223372036854775807 < ((n : Int) + (j : Int))) := by omega
  have hfit := growslice_fits (need := n + j) (old := n) (bytes := i.bytes) (by omega) (by
    have : (n + j) * i.bytes ≤ 1073741824 * 8 := Nat.mul_le_mul h63 hby
    omega)
  have h48' : ¬ (281474976710656 < Builtin.nextslicecap (n + j) n * i.bytes) := by omega
  have hjs : ¬ (j * i.size = 0) := by
    intro h0
    rcases Nat.mul_eq_zero.1 h0 with h | h <;> omega
  have hf2 := hf w.drew rfl
  simp [Builtin.append_, run_underlying ht, run_underlying hti, sizeOf, typeInfo, zeroValue, hi, hz, Builtin.lenOf, asInt, asIntOf, hw, hl0, h48, hn, h63', h48', Question.forced, hf2, newRow, grownCap, hjs]

theorem run_append_make_zero {P : Program} (w : World) (t ti ty e : TypeId) (i : TypeInfo) (ht : P.underlying t = some (.slice e)) (hti : P.underlying ti = some (.int .i64)) (hi : P.info? e = some i) (b : Option Addr) (n : Nat) :
    (Builtin.append_ #[t, ti] ty #[.slice b n n, .int .i64 0]).run P w = .ok (.slice b n n) w := by
  have hw : IntKind.i64.wrap 0 = 0 := by rw [IntKind.wrap_i64]; omega
  cases b <;> simp [Builtin.append_, run_underlying ht, run_underlying hti, sizeOf, typeInfo, hi, Builtin.lenOf, asInt, asIntOf, hw, storeCells]

/-- An append whose run is known, at a step of a region that draws its order. -/
theorem step_append_run {P : Program} {w : World} {ops : Array Oper} {o : Oper} {a : Act} {K : Act → World → Prop} {Q : Exit → Act → World → Prop} {E : Prop} (hgd : o.guard = none) (s x : Operand) (t t2 : TypeId)
    (ho : o.op = .call { callee := .builtin .append, args := #[s, x], argTypes := #[t, t2] }) (vs vx : Value) (hs : a.eval s = vs) (hx : a.eval x = vx) (v : Value) (w' : World)
    (hrun : (Builtin.append_ #[t, t2] o.type #[vs, vx]).run P w = .ok v w') (h : K (a.put o.dst v) w') :
    if Region.wanted o (yielded ops a.tmps) = true then Oper.wp P o a w K Q else E := by
  have hw : Region.wanted o (yielded ops a.tmps) = true := by simp [Region.wanted, hgd]
  rw [if_pos hw]
  unfold Oper.wp execOp
  simp only [ho, resolve, invoke, builtin, Sem.run_bind, Sem.run_pure, Result.andThen_ok, List.map_toArray, List.map_cons, List.map_nil, hs, hx, hrun]
  exact h

/-- The cells of a slice that reads as numbers. -/
theorem firstCells_sl {P : Program} {k : IntKind} {w : World} {a : Option Addr} {cap : Nat} {l : List Nat} (h : Sl k w (.slice a l.length cap) l) (W : World) (hW : Below w.heap.size w W) :
    (Builtin.firstCells 1 l.length (.slice a l.length l.length)).run P W = .ok (ints k l).toArray W := by
  obtain ⟨a', cap', e, _, _, h3⟩ := h
  cases e
  rcases Nat.eq_zero_or_pos l.length with h0 | h0
  · obtain rfl : l = [] := List.length_eq_zero_iff.1 h0
    cases a with
    | none => exact run_firstCells_none W 1 0 0 0
    | some ad => exact run_firstCells_some (P := P) W 1 0 ad 0 0 [] rfl (fun j v h => by simp at h)
  · obtain ⟨b, off, rfl, hb, hr⟩ := h3 h0
    refine run_firstCells_some (P := P) W 1 l.length ⟨b, off, none⟩ l.length l.length (ints k l) (by simp) (fun j v hv => ?_)
    have hj : j < l.length := by
      rcases Nat.lt_or_ge j l.length with h | h
      · exact h
      · rw [List.getElem?_eq_none (by simpa using h)] at hv; cases hv
    rw [WideShapes.add_plain, hW.cell (p := ⟨b, off + j, none⟩) hb, hr j hj, ← ints_get k l j hj]
    exact hv

theorem firstCells_sl' {P : Program} {k : IntKind} {w : World} {o : Obj} {a : Option Addr} {cap : Nat} {l : List Nat} (h : Sl k w (.slice a l.length cap) l) (W : World) (hW : W.heap = (w.alloc o).heap) :
    (Builtin.firstCells 1 l.length (.slice a l.length l.length)).run P W = .ok (ints k l).toArray W := by
  have h2 := h.below ((Below.refl w.heap.size w).alloc (Nat.le_refl _) o)
  obtain ⟨a', cap', e, h1, h4, h3⟩ := h2
  cases e
  have h5 : Sl k W (.slice a l.length cap) l := by
    refine ⟨a, cap, rfl, h1, h4, fun hl => ?_⟩
    obtain ⟨b, off, rfl, hb, hr⟩ := h3 hl
    refine ⟨b, off, rfl, by rw [hW]; exact hb, fun i hi => ?_⟩
    rw [← hr i hi]
    unfold World.cell?
    rw [hW]
  exact firstCells_sl h5 W (Below.refl _ _)

theorem zeroCells_u32 (n : Nat) : (Builtin.zeroCells #[.int .u32 0] n).toList = ints .u32 (List.replicate n 0) := by
  rw [show ints .u32 (List.replicate n 0) = List.replicate n (.int .u32 0) by simp [ints]]
  apply List.ext_getElem
  · simp [Builtin.zeroCells]
  · intro i h1 h2
    simp [Builtin.zeroCells, Nat.mod_one]

theorem Sl.recap {k : IntKind} {w : World} {a : Option Addr} {cap : Nat} {l : List Nat} (h : Sl k w (.slice a l.length cap) l) : Sl k w (.slice a l.length l.length) l := by
  obtain ⟨a', cap', e, h1, h2, h3⟩ := h
  cases e
  exact ⟨a, l.length, rfl, Nat.le_refl _, by omega, h3⟩

/-- A new block whose first cells are the numbers. -/
theorem sl_grown (W : World) (e : TypeId) (lx : List Nat) (j cap : Nat) (hc : lx.length + j ≤ cap) (hm : cap ≤ 9223372036854775807) :
    Sl .u32 (W.alloc (.cells ((ints .u32 lx).toArray ++ Builtin.zeroCells (Value.int .u32 0).cells j ++ Builtin.zeroCells (Value.int .u32 0).cells (cap - (lx.length + j))) e)) (.slice (some ⟨W.heap.size, 0, none⟩) (lx.length + j) cap) (lx ++ List.replicate j 0) := by
  have e1 : ((ints .u32 lx).toArray ++ Builtin.zeroCells (Value.int .u32 0).cells j ++ Builtin.zeroCells (Value.int .u32 0).cells (cap - (lx.length + j))) = (ints .u32 ((lx ++ List.replicate j 0) ++ List.replicate (cap - (lx.length + j)) 0)).toArray := by
    apply Array.ext'
    have h1 := zeroCells_u32 j
    have h2 := zeroCells_u32 (cap - (lx.length + j))
    simp only [Array.toList_append]
    rw [show (Value.int IntKind.u32 0).cells = #[.int .u32 0] from rfl, h1, h2]
    simp [ints]
  rw [e1]
  have hb := Blk.new W e (ints .u32 ((lx ++ List.replicate j 0) ++ List.replicate (cap - (lx.length + j)) 0))
  have hr := hb.row.take (lx.length + j)
  have ht : ((lx ++ List.replicate j 0) ++ List.replicate (cap - (lx.length + j)) 0).take (lx.length + j) = lx ++ List.replicate j 0 := by
    rw [List.take_append_of_le_length (by simp), List.take_of_length_le (by simp)]
  rw [ht] at hr
  have := hr.sl hb.lt cap (by simp; omega) hm
  simpa using this

set_option maxRecDepth 100000 in
set_option maxHeartbeats 1000000 in
/-- **nat.odd.full**. -/
theorem full_any {vm vx : Value} {lm lx : List Nat} {m : Nat} {w : World} (hm : Sl .u32 w vm lm) (hx : Sl .u32 w vx lx) (hle : lx.length ≤ lm.length) (hsz : lm.length ≤ 1073741824) :
    Calls Tryz.prog 112 #[.agg #[vm, .int .u32 (m : Int)], vx] w fun e w' => ∃ v', e = .returned v' ∧ Sl .u32 w' v' (lx ++ List.replicate (lm.length - lx.length) 0) ∧ Below w.heap.size w w' := by
  obtain ⟨i0, hi, hz0, hz1, hz2⟩ := info_parts info_u32
  obtain ⟨am, cm, rfl, hm1, hm2, -⟩ := hm
  have hx' := hx
  obtain ⟨ax, cx, rfl, hx1, hx2, -⟩ := hx'
  obtain ⟨j, hj⟩ : ∃ j, lm.length - lx.length = j := ⟨_, rfl⟩
  rw [hj]
  have hO := (Below.refl w.heap.size w).alloc (Nat.le_refl _) (.cells #[.slice am lm.length cm, .int .u32 (m : Int)] 86)
  have hsxw := hx
  have hdr : Below w.heap.size w (w.alloc (.cells #[.slice am lm.length cm, .int .u32 (m : Int)] 86)).drew := hO.drew
  have hz : 0 ≤ (lm.length : Int) - (lx.length : Int) := by omega
  have hji : (lm.length : Int) - (lx.length : Int) = (j : Int) := by omega
  have ew : IntKind.i64.wrap (j : Int) = (j : Int) := by rw [IntKind.wrap_i64]; omega
  rcases Nat.eq_zero_or_pos j with h0 | h0
  · subst h0
    have hap := fun W => run_append_make_zero (P := Tryz.prog) W 80 3 80 30 i0 Tryz.underlying80 Tryz.underlying3 hi ax lx.length
    have HX := Lib.hid hx; have HO := Lib.hid hO
    clear hx hsxw hj hO hdr
    go_enter Tryz.func112, Tryz.ntmps112
    go_wp2
    go_region_law ((refine step_append_run (by rfl) _ _ _ _ (by rfl) _ _ (by rfl) (by rfl) _ _ (hap _) ?_))
    go_wp2
    go_ret
    refine ⟨.slice ax lx.length lx.length, rfl, ?_, HO.out.drew⟩
    rw [List.replicate_zero, List.append_nil]
    exact (HX.out.below HO.out.drew).recap
  · have hap := fun W (hW : W.heap = (w.alloc (.cells #[.slice am lm.length cm, .int .u32 (m : Int)] 86)).heap) => run_append_make (P := Tryz.prog) W 80 3 80 30 i0 (.int .u32 0) Tryz.underlying80 Tryz.underlying3 hi hz0 ax lx.length (ints .u32 lx) (fun W2 h2 => by
      rw [hz1]
      exact firstCells_sl' hsxw W2 (h2.trans hW)) j h0 (by rw [hz1]; decide) (by omega) (by rw [hz2]; decide)
    go_enter Tryz.func112, Tryz.ntmps112
    go_wp2
    go_region_law ((refine step_append_run (by rfl) _ _ _ _ (by rfl) _ _ (by rfl) (by rfl) _ _ (hap _ (by rfl)) ?_))
    go_wp2
    go_ret
    refine ⟨.slice (some ⟨w.heap.size + 1, 0, none⟩) (lx.length + j) (grownCap (w.alloc (.cells #[.slice am lm.length cm, .int .u32 (m : Int)] 86)).drew (lx.length + j) lx.length 30), rfl, ?_, ?_⟩
    · have h := sl_grown (w.alloc (.cells #[.slice am lm.length cm, .int .u32 (m : Int)] 86)) 30 lx j (grownCap (w.alloc (.cells #[.slice am lm.length cm, .int .u32 (m : Int)] 86)).drew (lx.length + j) lx.length 30) (grownCap_ge _ _ _ _) (grownCap_le_maxLen _ _ _ _ (by unfold maxLen; omega))
      simp only [World.size_alloc] at h
      first | exact h | (simp only [Array.append_assoc] at h ⊢; exact h)
    · first | exact ((hO.alloc hO.size _).drew).drew | exact (hO.drew.drew).alloc (by simp) _

#print axioms run_append_make
end Go.Proofs.YtolmjeglaolhlaaGreatDoor
