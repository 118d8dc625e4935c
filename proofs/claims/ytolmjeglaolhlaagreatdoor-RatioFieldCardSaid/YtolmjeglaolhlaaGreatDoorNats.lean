/- Numbers as strings: reading and writing, small ones. -/
import Derived.RegionTactic
import Derived.ChangeAlike
import Derived.BigRegion
import Derived.Laws.BytesArg
import Derived.Lib.ItoaNum
import Derived.Test.YtolmjeglaolhlaaGreatDoorBase
import Derived.Test.YtolmjeglaolhlaaGreatDoorShelf

/- The contract of nat.of: the digits of a number. -/
namespace Go.Proofs.YtolmjeglaolhlaaGreatDoor
open Go.RowKit Num

def OfRel (w : World) (s : ByteArray) (n : Nat) (i : Value) (wr : World) : Prop :=
  ∃ (k : Nat) (o : List Nat), k ≤ s.size ∧ i = .int .i64 (k : Int) ∧ Blk wr w.heap.size 30 (ints .u32 o) ∧ o.length = n ∧
    Dig 4294967296 o ∧ (∀ j, k / 4 < j → o.getD j 0 = 0) ∧ o.getD (k / 4) 0 < 256 ^ (k % 4) ∧ vl 4294967296 o = vl 256 ((s.data.toList.reverse.map UInt8.toNat).take k) ∧ Below w.heap.size w wr

theorem rev_get (s : ByteArray) (j k : Nat) (h : j < s.size) (hj : j + k + 1 = s.size) : (s.data.toList.reverse.map UInt8.toNat).getD k 0 = (s[j]'h).toNat := by
  have hl : s.data.toList.length = s.size := by simp
  have e : s.size - 1 - k = j := by omega
  rw [List.getD_eq_getElem?_getD, List.getElem?_map, List.getElem?_reverse (by omega), hl, e]
  rw [List.getElem?_eq_getElem (by omega)]
  rfl

theorem OfRel.step {w wr : World} {s : ByteArray} {n k j x : Nat} {o : List Nat} (hx : o.getD (k / 4) 0 = x) (h : j < s.size) (hj : j + k + 1 = s.size)
    (hk : k < s.size) (hn : s.size ≤ 4 * n) (hB : Blk wr w.heap.size 30 (ints .u32 o)) (ho : o.length = n) (hd : Dig 4294967296 o) (hz : ∀ j, k / 4 < j → o.getD j 0 = 0)
    (hz1 : o.getD (k / 4) 0 < 256 ^ (k % 4)) (hv : vl 4294967296 o = vl 256 ((s.data.toList.reverse.map UInt8.toNat).take k)) (hbel : Below w.heap.size w wr) :
    OfRel w s n (.int .i64 (k + 1)) (wr.setCell ⟨w.heap.size, k / 4, none⟩ (.int .u32 (bits .or .u32 x (((s[j]'h).toNat : Int) % 4294967296 * 2 ^ (8 * (k % 4)) % 4294967296)))).drew := by
  have hc : (s[j]'h).toNat < 256 := UInt8.toNat_lt _
  generalize hce : (s[j]'h).toNat = c at *
  have hr : k % 4 < 4 := Nat.mod_lt _ (by omega)
  have h2 : 256 ^ (k % 4) * 256 ≤ 4294967296 := by
    rw [← Nat.pow_succ]
    exact Nat.le_trans (Nat.pow_le_pow_right (by omega) (show k % 4 + 1 ≤ 4 by omega)) (by decide)
  rw [hx] at hz1
  have h3 : c * 256 ^ (k % 4) + 256 ^ (k % 4) ≤ 4294967296 := by
    have : (c + 1) * 256 ^ (k % 4) ≤ 256 * 256 ^ (k % 4) := Nat.mul_le_mul_right _ (by omega)
    rw [Nat.add_mul, Nat.mul_comm 256] at this
    omega
  have e1 : ((c : Int) % 4294967296 * 2 ^ (8 * (k % 4)) % 4294967296) = ((c * 256 ^ (k % 4) : Nat) : Int) := by
    have e2 : (2 : Int) ^ (8 * (k % 4)) = ((256 ^ (k % 4) : Nat) : Int) := by
      rw [show (256 : Nat) = 2 ^ 8 by decide, ← Nat.pow_mul]; simp
    rw [e2, show (c : Int) % 4294967296 = (c : Int) by omega, ← Int.natCast_mul]
    omega
  rw [e1, u32_or_nat _ _ (by omega) (by omega), or_add _ _ _ hz1]
  refine ⟨k + 1, o.set (k / 4) (x + c * 256 ^ (k % 4)), by omega, rfl, (hB.set _ _).drew, by simpa using ho, hd.set _ _ (by omega), ?_, ?_, ?_, (hbel.setCell (Nat.le_refl _) _).drew⟩
  · intro i hi
    rw [ldigit_set_ne _ _ _ _ (by omega)]
    exact hz i (by omega)
  · rcases Nat.lt_or_ge (k % 4) 3 with h4 | h4
    · have e5 : (k + 1) / 4 = k / 4 := by omega
      have e6 : (k + 1) % 4 = k % 4 + 1 := by omega
      rw [e5, e6, getD_set _ _ _ _ (by omega), if_pos rfl, Nat.pow_succ]
      have : (c + 1) * 256 ^ (k % 4) ≤ 256 * 256 ^ (k % 4) := Nat.mul_le_mul_right _ (by omega)
      rw [Nat.add_mul, Nat.mul_comm 256] at this
      omega
    · rw [ldigit_set_ne _ _ _ _ (by omega), hz _ (by omega)]
      exact Nat.pow_pos (by omega)
  · have h5 := vl_set 4294967296 o (k / 4) (x + c * 256 ^ (k % 4)) (by omega)
    rw [hx, Nat.mul_add] at h5
    have h6 : 4294967296 ^ (k / 4) * (c * 256 ^ (k % 4)) = 256 ^ k * c := by
      rw [Nat.mul_comm c, ← Nat.mul_assoc, pow_split]
    rw [vl_take_succ', rev_get s j k h hj, hce]
    omega

set_option maxRecDepth 100000 in
set_option maxHeartbeats 400000 in
theorem of_any (s : ByteArray) (w : World) (hs : s.size ≤ 1073741824) :
    Calls Tryz.prog 63 #[.string s] w fun e w' => ∃ v l, e = .returned v ∧ Sl .u32 w' v l ∧ Dig 4294967296 l ∧ Tr l ∧ vl 4294967296 l = SN s ∧ l.length ≤ (s.size + 3) / 4 ∧ Below w.heap.size w w' := by
  obtain ⟨n, hn⟩ : ∃ n, n = (s.size + 3) / 4 := ⟨_, rfl⟩
  have hmk := run_make_row' (P := Tryz.prog) 80 30 (.int .u32 0) 4 Tryz.underlying80 info_u32 rfl .i64 .i64 n (by omega) (by omega)
  rw [show (n : Int) = ((s.size : Int) + 4 - 1) / 4 by omega] at hmk
  have hn1 : 4 * n ≤ s.size + 3 := by omega
  have hn2 : s.size ≤ 4 * n := by omega
  have HN := Lib.hid hn; clear hn
  go_enter Tryz.func63, Tryz.ntmps63
  go_wp2
  go_loopw [13] (fun i wr => OfRel w s n i wr) (fun i _ => s.size - (intOf i).toNat)
  case atStart =>
    exact ⟨0, List.replicate n 0, by omega, rfl, Blk.made _ _ _ _, by simp, Dig.replicate (by decide) _, fun j _ => by simp [List.getElem?_replicate]; split <;> rfl, by simp [List.getElem?_replicate]; split <;> decide, by simp [vl_zeros], (Below.refl _ _).alloc (Nat.le_refl _) _⟩
  case round =>
    obtain ⟨k, o, hk, rfl, hB, ho, hd, hz, hz1, hv, hbel⟩ := hrel
    have HB := Lib.hid hB; have HO := Lib.hid ho; have HZ := Lib.hid hz; have HZ1 := Lib.hid hz1; have HV := Lib.hid hv; have HBel := Lib.hid hbel
    clear hB ho hz hz1 hv hbel
    rcases Nat.lt_or_ge k s.size with hlt | hge
    · have hwr := HB.out.get (k / 4) (by have := HO.out; omega)
      generalize hxe : o.getD (k / 4) 0 = x at hwr
      have HX := Lib.hid hxe; clear hxe
      have hfr := HB.out.free (k / 4)
      obtain ⟨j, hj⟩ : ∃ j : Nat, (s.size : Int) - 1 - (k : Int) = (j : Int) := ⟨s.size - 1 - k, by omega⟩
      have hjs : j < s.size := by omega
      have hjk : j + k + 1 = s.size := by omega
      have HJ := Lib.hid hjk; clear hjk
      go_wp2
      go_region
      go_wp2
      exact ⟨OfRel.step HX.out hjs HJ.out hlt hn2 HB.out HO.out hd HZ.out HZ1.out HV.out HBel.out, by simp [intOf]; omega⟩
    · obtain rfl : k = s.size := by omega
      have hsl : Sl .u32 wr (.slice (some ⟨w.heap.size, 0, none⟩) n n) o := by
        have := HB.out.row.sl HB.out.lt n (by have := HO.out; omega) (by omega)
        simpa [HO.out] using this
      have HSL := Lib.hid hsl; clear hsl
      go_wp2_with fail
      refine (trim_any (b := 4294967296) HSL.out).mono ?_
      rintro e w' ⟨v', l', rfl, hs', hd', ht', hv', hl', rfl⟩
      go_wp2_with fail
      go_ret
      have h1 := HV.out
      have h2 := HO.out
      rw [List.take_of_length_le (by simp)] at h1
      exact ⟨v', l', rfl, hs', hd' hd, ht', by rw [hv', h1]; rfl, by rw [h2] at hl'; have := HN.out; omega, HBel.out⟩

end Go.Proofs.YtolmjeglaolhlaaGreatDoor

/- The contract of nat.number: the string of a number. -/
namespace Go.Proofs.YtolmjeglaolhlaaGreatDoor
open Go.RowKit Num

/-- Bytes in memory become a string. -/
theorem conv_bytes {w : World} {b off : Nat} {l : List Nat} (hr : Row .u8 w b off l) (cap : Nat) :
    (convert 22 9 (.slice (some ⟨b, off, none⟩) l.length cap)).run Tryz.prog w = .ok (.string ⟨(l.map UInt8.ofNat).toArray⟩) w := by
  have h := run_convert_bytes_arg (P := Tryz.prog) w 22 5 Tryz.underlying22 Tryz.underlying5 b off l.length cap (l.map Int.ofNat) (by simp) (fun i hi => by
    rw [hr i hi]
    simp [List.getElem?_eq_getElem hi]) 9 Tryz.underlying9
  have e : strOfNums (l.map Int.ofNat) = ⟨(l.map UInt8.ofNat).toArray⟩ := by
    unfold strOfNums
    rw [List.map_map]
    rfl
  rw [e] at h
  exact h

def NumberRel (w : World) (V N : Nat) (i : Value) (wr : World) : Prop :=
  ∃ (k : Nat) (r : List Nat), k ≤ N ∧ i = .int .i64 (k : Int) ∧ Blk wr w.heap.size 5 (ints .u8 r.reverse) ∧ r.length = N ∧ Dig 256 r ∧ vl 256 (r.take k) = V % 256 ^ k ∧ Below w.heap.size w wr

theorem NumberRel.step {w wr : World} {l r : List Nat} {V N k j x : Nat} (hx : l.getD (k / 4) 0 = x) (hj : j + k + 1 = N) (hV : vl 4294967296 l = V) (hk : k < N) (hdl : Dig 4294967296 l)
    (hB : Blk wr w.heap.size 5 (ints .u8 r.reverse)) (ho : r.length = N) (hd : Dig 256 r) (hv : vl 256 (r.take k) = V % 256 ^ k) (hbel : Below w.heap.size w wr) :
    NumberRel w V N (.int .i64 (k + 1)) (wr.setCell ⟨w.heap.size, j, none⟩ (.int .u8 ((x : Int) / 2 ^ (8 * (k % 4)) % 256))) := by
  have _ := hk
  have e1 : (x : Int) / 2 ^ (8 * (k % 4)) % 256 = ((x / 256 ^ (k % 4) % 256 : Nat) : Int) := by
    rw [show (256 : Nat) = 2 ^ 8 by decide, ← Nat.pow_mul]; simp
  have e2 : x / 256 ^ (k % 4) % 256 = V / 256 ^ k % 256 := by rw [← hx, byte_of hdl k, hV]
  rw [e1, e2]
  have hlt : V / 256 ^ k % 256 < 256 := Nat.mod_lt _ (by decide)
  refine ⟨k + 1, r.set k (V / 256 ^ k % 256), by omega, rfl, ?_, by simpa using ho, hd.set _ _ hlt, ?_, hbel.setCell (Nat.le_refl _) _⟩
  · have h := hB.set j (V / 256 ^ k % 256)
    rw [← set_reverse r k _ (by omega)]
    rw [show r.length - 1 - k = j by omega]
    exact h
  · rw [vl_take_set _ _ _ _ (by omega), hv, Nat.mod_pow_succ]

set_option maxRecDepth 100000 in
set_option maxHeartbeats 800000 in
/-- **nat.number**. -/
theorem number_any {vv : Value} {l0 : List Nat} {w : World} (h0 : Sl .u32 w vv l0) (d0 : Dig 4294967296 l0) (hsz : l0.length ≤ 1073741824) :
    Calls Tryz.prog 65 #[vv] w fun e w' => e = .returned (.string (Enc (vl 4294967296 l0))) ∧ Below w.heap.size w w' := by
  generalize hV : vl 4294967296 l0 = V
  go_enter Tryz.func65, Tryz.ntmps65
  go_wp2_with fail
  refine (trim_any (b := 4294967296) h0).mono ?_
  rintro e w' ⟨v', l, rfl, hs', hd', ht', hv', hl', rfl⟩
  obtain ⟨aa, ca, rfl, hca, _, ha⟩ := hs'
  have hdl := hd' d0
  rw [hV] at hv'
  have HD := Lib.hid hdl; have HVl := Lib.hid hv'
  have hlen : l.length ≤ 1073741824 := by omega
  clear hdl hv' hV hd' ht' h0 d0 hl' hsz
  obtain ⟨N, hN⟩ : ∃ N, N = 4 * l.length := ⟨_, rfl⟩
  have hmk := run_make_row' (P := Tryz.prog) 22 5 (.int .u8 0) 1 Tryz.underlying22 info_u8 rfl .i64 .i64 N (by omega) (by omega)
  rw [show (N : Int) = 4 * (l.length : Int) by omega] at hmk
  have HN := Lib.hid hN
  have hN1 : N ≤ 4 * l.length := by omega
  have hN2 : 4 * l.length ≤ N := by omega
  clear hN
  go_wp2
  go_loopw [13] (fun i wr => NumberRel w V N i wr) (fun i _ => N - (intOf i).toNat)
  case atStart =>
    refine ⟨0, List.replicate N 0, by omega, rfl, ?_, by simp, Dig.replicate (by decide) _, by simp [Nat.mod_one], (Below.refl _ _).alloc (Nat.le_refl _) _⟩
    rw [List.reverse_replicate]
    exact Blk.made _ _ _ _
  case round =>
    obtain ⟨k, r, hk, rfl, hB, ho, hd, hv, hbel⟩ := hrel
    have HB := Lib.hid hB; have HO := Lib.hid ho; have HV := Lib.hid hv; have HBel := Lib.hid hbel
    clear hB ho hv hbel
    rcases Nat.lt_or_ge k N with hlt | hge
    · obtain ⟨b, off, rfl, hbl, hrow⟩ := ha (by omega)
      have hx := (hrow.below hbl HBel.out) (k / 4) (by omega)
      have hx32 := HD.out.get (by decide) (k / 4)
      clear hrow ha
      generalize hxe : l.getD (k / 4) 0 = x at hx hx32
      have HX := Lib.hid hxe; clear hxe
      obtain ⟨j, hj⟩ : ∃ j : Nat, (N : Int) - 1 - (k : Int) = (j : Int) := ⟨N - 1 - k, by omega⟩
      have hjs : j < N := by omega
      have hjk : j + k + 1 = N := by omega
      have HJ := Lib.hid hjk; clear hjk
      have hwr := HB.out.get j (by have := HO.out; simp; omega)
      have hfr := HB.out.free j
      generalize r.reverse.getD j 0 = z at hwr
      go_wp2
      exact ⟨NumberRel.step HX.out HJ.out HVl.out hlt HD.out HB.out HO.out hd HV.out HBel.out, by simp [intOf]; omega⟩
    · obtain rfl : N = k := by omega
      have hcv := conv_bytes HB.out.row N
      rw [show r.reverse.length = N by have := HO.out; simpa using this] at hcv
      go_wp2_with fail
      refine (Tryz.strings_TrimLeft_one _ 0 (by decide) _).mono ?_
      rintro e w' ⟨rfl, rfl⟩
      go_wp2_with fail
      go_ret
      have h1 := HV.out
      have h2 := HO.out
      have h3 := vl_lt HD.out
      rw [HVl.out] at h3
      have h4 : (4294967296 : Nat) ^ l.length = 256 ^ N := by
        rw [HN.out, Nat.pow_mul]
      rw [List.take_of_length_le (by omega), Nat.mod_eq_of_lt (by omega)] at h1
      refine ⟨?_, HBel.out⟩
      have h5 : (Lib.trimLeftB (r.reverse.map UInt8.ofNat) 0).toArray = (enc V).toArray := by
        unfold Lib.trimLeftB
        rw [canon_dropWhile, ← enc_val, val_of_rev hd, h1]
      rw [List.map_reverse] at h5
      show Ending.returned (Value.string ⟨(Lib.trimLeftB (r.map UInt8.ofNat).reverse 0).toArray⟩) = Ending.returned (Value.string ⟨(enc V).toArray⟩)
      rw [h5]

end Go.Proofs.YtolmjeglaolhlaaGreatDoor

/- Slices of bytes that are cut and become strings. -/
namespace Go.Proofs.YtolmjeglaolhlaaGreatDoor
open Go.RowKit Num

/-- Bytes in memory become a number's string. -/
theorem conv_row {w : World} {b off : Nat} {l : List Nat} (hr : Row .u8 w b off l) (cap : Nat) :
    (convert 22 24 (.slice (some ⟨b, off, none⟩) l.length cap)).run Tryz.prog w = .ok (.string ⟨(l.map UInt8.ofNat).toArray⟩) w := by
  have h := run_convert_bytes_arg (P := Tryz.prog) w 22 5 Tryz.underlying22 Tryz.underlying5 b off l.length cap (l.map Int.ofNat) (by simp) (fun i hi => by
    rw [hr i hi]
    simp [List.getElem?_eq_getElem hi]) 24 Tryz.underlying24
  have e : strOfNums (l.map Int.ofNat) = ⟨(l.map UInt8.ofNat).toArray⟩ := by
    unfold strOfNums
    rw [List.map_map]
    rfl
  rw [e] at h
  exact h

/-- .. wherever they lie, and however many they are. -/
theorem conv_cut {w : World} {a : Option Addr} {n cap : Nat} {l : List Nat} (h : Sl .u8 w (.slice a n cap) l) :
    (convert 22 24 (.slice a n cap)).run Tryz.prog w = .ok (.string ⟨(l.map UInt8.ofNat).toArray⟩) w := by
  obtain ⟨a', cap', e, h1, h2, h3⟩ := h
  cases e
  rcases Nat.eq_zero_or_pos l.length with h0 | h0
  · obtain rfl : l = [] := List.length_eq_zero_iff.1 h0
    rcases a with _ | ⟨b, off, spot⟩
    · simp [convert, Conv.bytesToString, go_sem]; rfl
    · simp [convert, Conv.bytesToString, go_sem]; rfl
  · obtain ⟨b, off, rfl, hb, hr⟩ := h3 h0
    exact conv_row hr cap

/-- A slice that is cut to its beginning. -/
theorem Sl.cutTo {k : IntKind} {w : World} {a : Option Addr} {n cap : Nat} {l : List Nat} (h : Sl k w (.slice a n cap) l) (m : Nat) (hm : m ≤ n) : Sl k w (.slice a m cap) (l.take m) := by
  obtain ⟨a', cap', e, h1, h2, h3⟩ := h
  cases e
  have hlen : (l.take m).length = m := by rw [List.length_take, Nat.min_eq_left hm]
  refine ⟨a, cap, by rw [hlen], by omega, h2, fun hl => ?_⟩
  obtain ⟨b, off, rfl, hb, hr⟩ := h3 (by omega)
  exact ⟨b, off, rfl, hb, hr.take _⟩

theorem bytes_size (l : List Nat) : (ByteArray.mk (l.map UInt8.ofNat).toArray).size = l.length := by
  show (l.map UInt8.ofNat).toArray.size = _
  simp

theorem list_ne {t s : ByteArray} (h : t ≠ s) : ¬ t.data.toList = s.data.toList := by
  intro e
  apply h
  obtain ⟨⟨a⟩⟩ := t
  obtain ⟨⟨b⟩⟩ := s
  cases e
  rfl
/-- A string that is not empty. -/
theorem not_nil {t : ByteArray} (h : t ≠ ⟨#[]⟩) : ¬ t.toList = [] := by
  rw [ByteArray.toList_eq]
  exact list_ne (s := ⟨#[]⟩) h

end Go.Proofs.YtolmjeglaolhlaaGreatDoor

/- The contracts of nat.Of, Int, Bits, Right. -/
namespace Go.Proofs.YtolmjeglaolhlaaGreatDoor
open Go.RowKit Num

theorem ofInt_i64 (a : Nat) (ha : a < 9223372036854775808) : (BitVec.ofInt 64 (a : Int)).toNat = a := by
  rw [BitVec.ofInt_natCast, BitVec.toNat_ofNat]; exact Nat.mod_eq_of_lt (by omega)
theorem i64_and_nat (a b : Nat) (ha : a < 9223372036854775808) (hb : b < 9223372036854775808) : bits .and .i64 (a : Int) (b : Int) = ((a &&& b : Nat) : Int) := by
  have hx : a &&& b < 2 ^ 63 := Nat.and_lt_two_pow _ (by omega)
  show IntKind.i64.wrap ((BitVec.ofInt 64 (a : Int) &&& BitVec.ofInt 64 (b : Int)).toNat : Int) = _
  rw [BitVec.toNat_and, ofInt_i64 a ha, ofInt_i64 b hb, IntKind.wrap_i64]
  omega
theorem i64_or_nat (a b : Nat) (ha : a < 9223372036854775808) (hb : b < 9223372036854775808) : bits .or .i64 (a : Int) (b : Int) = ((a ||| b : Nat) : Int) := by
  have hx : a ||| b < 2 ^ 63 := Nat.or_lt_two_pow (by omega) (by omega)
  show IntKind.i64.wrap ((BitVec.ofInt 64 (a : Int) ||| BitVec.ofInt 64 (b : Int)).toNat : Int) = _
  rw [BitVec.toNat_or, ofInt_i64 a ha, ofInt_i64 b hb, IntKind.wrap_i64]
  omega

set_option maxRecDepth 100000 in
set_option maxHeartbeats 800000 in
/-- **nat.Of**. -/
theorem Of_any (z : Int) (w : World) (h2 : z ≤ 9223372036854775807) :
    Calls Tryz.prog 55 #[.int .i64 z] w fun e w' => e = .returned (.string (Enc z.toNat)) ∧ Below w.heap.size w w' := by
  rcases (show z ≤ 0 ∨ 0 < z by omega) with hz | hz
  · obtain ⟨t, ht⟩ : ∃ t, t = z.toNat := ⟨_, rfl⟩
    rw [← ht]
    have h0 : t = 0 := by omega
    subst h0
    clear ht
    go_enter Tryz.func55, Tryz.ntmps55
    go_wp2
    go_ret
    exact ⟨rfl, Below.refl _ _⟩
  · obtain ⟨n, rfl⟩ : ∃ n : Nat, z = (n : Int) := ⟨z.toNat, by omega⟩
    simp only [Int.toNat_natCast]
    have hn0 : 0 < n := by omega
    have hn : n < 9223372036854775808 := by omega
    clear hz h2
    obtain ⟨x, hx, hx2⟩ : ∃ x : Nat, bits .and .i64 (n : Int) 4294967295 = (x : Int) ∧ x = n % 4294967296 := by
      refine ⟨n % 4294967296, ?_, rfl⟩
      have h := i64_and_nat n 4294967295 hn (by decide)
      have e : n &&& 4294967295 = n % 4294967296 := Nat.and_two_pow_sub_one_eq_mod n 32
      rw [e] at h
      exact h
    obtain ⟨y, hy, hy2⟩ : ∃ y : Nat, (n : Int) / 4294967296 = (y : Int) ∧ y = n / 4294967296 := ⟨n / 4294967296, by omega, rfl⟩
    have hx3 : x < 4294967296 := by omega
    have hy3 : y < 4294967296 := by omega
    have hsl : Sl .u32 (w.alloc (.cells #[.int .u32 (x : Int), .int .u32 (y : Int)] 30)) (.slice (some ⟨w.heap.size, 0, none⟩) 2 2) [x, y] := by
      have h := Blk.new w 30 (ints .u32 [x, y])
      exact h.row.sl h.lt 2 (by simp) (by decide)
    have hnum := number_any hsl (Dig.cons hx3 (Dig.cons hy3 (Dig.nil _))) (by simp)
    have hv : vl 4294967296 [x, y] = n := by simp; omega
    rw [hv] at hnum
    have HN := Lib.hid hnum
    clear hsl hnum hv hx2 hy2
    go_enter Tryz.func55, Tryz.ntmps55
    go_wp2_with fail
    refine HN.out.mono ?_
    rintro e w' ⟨rfl, hb⟩
    go_wp2_with fail
    go_ret
    exact ⟨rfl, ((Below.refl _ _).alloc (Nat.le_refl _) _).trans (hb.mono (by simp))⟩

set_option maxRecDepth 100000 in
set_option maxHeartbeats 800000 in
/-- **nat.Right**. -/
theorem Right_any (s : ByteArray) (w : World) :
    Calls Tryz.prog 77 #[.string s] w fun e w' => e = .returned (.bool (rightB s.data.toList)) ∧ w = w' := by
  obtain ⟨⟨l⟩⟩ := s
  cases l with
  | nil =>
    go_enter Tryz.func77, Tryz.ntmps77
    go_wp2
    go_ret
    exact ⟨rfl, rfl⟩
  | cons c l =>
    go_enter Tryz.func77, Tryz.ntmps77
    go_wp2
    go_ret
    refine ⟨?_, rfl⟩
    show Ending.returned (Value.bool (((c.toNat : Nat) : Int) != 0)) = Ending.returned (Value.bool (c != 0))
    have h : (((c.toNat : Nat) : Int) != 0) = (c != 0) := by
      by_cases h0 : c = 0
      · subst h0; rfl
      · have h1 : c.toNat ≠ 0 := fun e => h0 (UInt8.toNat_inj.1 e)
        have e1 : (((c.toNat : Nat) : Int) != 0) = true := by rw [bne_iff_ne]; omega
        have e2 : (c != 0) = true := by rw [bne_iff_ne]; exact h0
        rw [e1, e2]
    rw [h]

set_option maxRecDepth 100000 in
set_option maxHeartbeats 800000 in
/-- **nat.Bits**. -/
theorem Bits_any (s : ByteArray) (w : World) (hs : s.size ≤ 268435456) :
    Calls Tryz.prog 18 #[.string s] w fun e w' => e = .returned (.int .i64 ((natBits (SN s) : Nat) : Int)) ∧ Below w.heap.size w w' := by
  go_enter Tryz.func18, Tryz.ntmps18
  go_wp2_with fail
  refine (of_any s _ (by omega)).mono ?_
  rintro e w1 ⟨va, la, rfl, hsa, hda, hta, hva, hla, hb1⟩
  rcases Nat.eq_zero_or_pos la.length with h0 | h0
  · have h1 := List.length_eq_zero_iff.1 h0
    subst h1
    obtain ⟨ab, cb, rfl, hcb, _, _⟩ := hsa
    have HVA := Lib.hid hva
    clear hva h0
    go_wp2_with fail
    go_ret
    have := HVA.out
    simp at this
    exact ⟨by rw [← this]; rfl, hb1⟩
  · obtain ⟨ab, cb, rfl, hcb, _, hc⟩ := hsa
    obtain ⟨b, off, rfl, hbl, hrow⟩ := hc h0
    have hx := hrow (la.length - 1) (by omega)
    have hx32 := hda.get (by decide) (la.length - 1)
    have hx0 := hta.last h0
    have hval : natBits (SN s) = 32 * (la.length - 1) + Lib.bitLen (la.getD (la.length - 1) 0) := by
      have hbb := Lib.bitLenAux_bounds 64 (la.getD (la.length - 1) 0) (by omega) hx0
      rw [← hva]
      exact natBits_vl hda (by omega) rfl hbb.1 hbb.2.1 hbb.2.2
    generalize la.getD (la.length - 1) 0 = x at hx hx32 hx0 hval
    clear hrow hc hta hda hva
    generalize la.length = n at *
    have hn1 : 1 ≤ n := h0
    have hne : ((n : Int) == 0) = false := by rw [beq_eq_false_iff_ne]; omega
    have hbl2 := Lib.bitLen_le x 32 (by omega) (by omega)
    have hlen := Tryz.bits_Len32 (x : Int)
    simp only [Int.toNat_natCast] at hlen
    generalize Lib.bitLen x = e at *
    have HL := Lib.hid hlen; have HVAL := Lib.hid hval
    clear hlen hval hx0
    have h0x : 0 ≤ (x : Int) := by omega
    have h1x : (x : Int) ≤ 4294967295 := by omega
    go_wp2_with fail
    refine (HL.out _ h0x h1x).mono ?_
    rintro e' w' ⟨rfl, rfl⟩
    go_wp2_with fail
    go_ret
    refine ⟨?_, hb1⟩
    rw [HVAL.out, show ((32 * (n - 1) + e : Nat) : Int) = 32 * ((n : Int) - 1) + (e : Int) by omega]
    rfl

end Go.Proofs.YtolmjeglaolhlaaGreatDoor

/- The contract of nat.Int. -/
namespace Go.Proofs.YtolmjeglaolhlaaGreatDoor
open Go.RowKit Num

set_option maxRecDepth 100000 in
set_option maxHeartbeats 800000 in
/-- **nat.Int**. -/
theorem Int_any (s : ByteArray) (w : World) (hs : s.size ≤ 268435456) :
    Calls Tryz.prog 54 #[.string s] w fun e w' => e = .returned (intPair (SN s)) ∧ Below w.heap.size w w' := by
  go_enter Tryz.func54, Tryz.ntmps54
  go_wp2_with fail
  refine (of_any s _ (by omega)).mono ?_
  rintro e w1 ⟨va, la, rfl, hsa, hda, hta, hva, hla, hb1⟩
  obtain ⟨aa, c, rfl, hc, _, hcell⟩ := hsa
  have HVA := Lib.hid hva; clear hva
  match la, hda, hta, hla, hc, hcell, HVA with
  | [], _, _, _, hc, _, HVA =>
    go_wp2
    go_rounds 1
    go_ret2
    have h := HVA.out
    simp at h
    exact ⟨by rw [← h, intPair_lt (by decide)]; rfl, hb1⟩
  | [x], hda, hta, hla, hc, hcell, HVA =>
    obtain ⟨b, off, rfl, hbl, hrow⟩ := hcell (by simp)
    have hx := hrow 0 (by simp)
    have hx32 : x < 4294967296 := hda x (by simp)
    simp only [Nat.add_zero, List.getD_cons_zero] at hx
    have hor : bits .or .i64 0 (x : Int) = (x : Int) := by
      have h := i64_or_nat 0 x (by omega) (by omega)
      rw [Nat.zero_or] at h
      exact h
    clear hcell hrow hda hta hla hc
    go_wp2
    go_rounds 2
    go_ret2
    have h := HVA.out
    simp at h
    exact ⟨by rw [← h, intPair_lt (by omega)]; rfl, hb1⟩
  | [x, y], hda, hta, hla, hc, hcell, HVA =>
    obtain ⟨b, off, rfl, hbl, hrow⟩ := hcell (by simp)
    have hx := hrow 0 (by simp)
    have hy := hrow 1 (by simp)
    have hx32 : x < 4294967296 := hda x (by simp)
    have hy32 : y < 4294967296 := hda y (by simp)
    simp only [Nat.add_zero, List.getD_cons_zero, List.getD_cons_succ] at hx hy
    clear hcell hrow hda hta hla hc
    rcases Nat.lt_or_ge 2147483647 y with h1 | h1
    · have h1i : (2147483647 : Int) < (y : Int) := by omega
      go_wp2
      go_ret2
      have h := HVA.out
      simp at h
      exact ⟨by rw [← h, intPair_ge (by omega)]; rfl, hb1⟩
    · have h1i : ¬ (2147483647 : Int) < (y : Int) := by omega
      have hor : bits .or .i64 0 (x : Int) = (x : Int) := by
        have h := i64_or_nat 0 x (by omega) (by omega)
        rw [Nat.zero_or] at h
        exact h
      obtain ⟨t, hor2, ht⟩ : ∃ t : Nat, bits .or .i64 (x : Int) ((y : Int) * 4294967296) = (t : Int) ∧ t = x + y * 4294967296 := by
        refine ⟨x + y * 4294967296, ?_, rfl⟩
        have h := i64_or_nat x (y * 4294967296) (by omega) (by omega)
        rw [Nat.or_comm, or_mul y x 32 (by omega), Nat.add_comm] at h
        rw [← h]
        rfl
      have HT := Lib.hid ht; clear ht
      go_wp2
      go_rounds 3
      go_ret2
      have h := HVA.out
      have h2 := HT.out
      simp at h
      have h3 : SN s = t := by omega
      exact ⟨by rw [h3, intPair_lt (by omega)]; rfl, hb1⟩
  | x :: y :: z :: l, hda, hta, hla, hc, hcell, HVA =>
    clear hcell
    have hn : (2 : Int) < ((x :: y :: z :: l).length : Int) := by simp; omega
    have hge : 9223372036854775808 ≤ vl 4294967296 (x :: y :: z :: l) := by
      have h := hta.ge (b := 4294967296) (by simp)
      simp only [List.length_cons, Nat.add_sub_cancel] at h
      have h2 : (4294967296 : Nat) ^ 2 ≤ 4294967296 ^ (l.length + 1 + 1) := Nat.pow_le_pow_right (by omega) (by omega)
      have h3 : (9223372036854775808 : Nat) ≤ 4294967296 ^ 2 := by decide
      omega
    rw [HVA.out] at hge
    have HGE := Lib.hid hge
    clear hge hda hta
    generalize (x :: y :: z :: l).length = n at *
    go_wp2
    go_ret2
    exact ⟨by rw [intPair_ge HGE.out]; rfl, hb1⟩

#print axioms Int_any
end Go.Proofs.YtolmjeglaolhlaaGreatDoor
