/- The contract of nat.of: the digits of a number. -/
import Derived.Test.YtmbgohaljiiigaaGreatDoorTrim
import Derived.RegionTactic
import Derived.ChangeAlike
import Derived.BigRegion
namespace Go.Proofs.YtmbgohaljiiigaaGreatDoor
open Go.RowKit Num

def OfRel (w : World) (s : ByteArray) (n : Nat) (i : Value) (wr : World) : Prop :=
  ∃ (k : Nat) (o : List Nat), k ≤ s.size ∧ i = .int .i64 (k : Int) ∧ Blk wr w.heap.size 79 (ints .u32 o) ∧ o.length = n ∧
    Dig 4294967296 o ∧ (∀ j, k / 4 < j → o.getD j 0 = 0) ∧ o.getD (k / 4) 0 < 256 ^ (k % 4) ∧ vl 4294967296 o = vl 256 ((s.data.toList.reverse.map UInt8.toNat).take k) ∧ Below w.heap.size w wr

theorem rev_get (s : ByteArray) (j k : Nat) (h : j < s.size) (hj : j + k + 1 = s.size) : (s.data.toList.reverse.map UInt8.toNat).getD k 0 = (s[j]'h).toNat := by
  have hl : s.data.toList.length = s.size := by simp
  have e : s.size - 1 - k = j := by omega
  rw [List.getD_eq_getElem?_getD, List.getElem?_map, List.getElem?_reverse (by omega), hl, e]
  rw [List.getElem?_eq_getElem (by omega)]
  rfl

theorem OfRel.step {w wr : World} {s : ByteArray} {n k j x : Nat} {o : List Nat} (hx : o.getD (k / 4) 0 = x) (h : j < s.size) (hj : j + k + 1 = s.size)
    (hk : k < s.size) (hn : s.size ≤ 4 * n) (hB : Blk wr w.heap.size 79 (ints .u32 o)) (ho : o.length = n) (hd : Dig 4294967296 o) (hz : ∀ j, k / 4 < j → o.getD j 0 = 0)
    (hz1 : o.getD (k / 4) 0 < 256 ^ (k % 4)) (hv : vl 4294967296 o = vl 256 ((s.data.toList.reverse.map UInt8.toNat).take k)) (hbel : Below w.heap.size w wr) :
    OfRel w s n (.int .i64 (k + 1)) (wr.setCell ⟨w.heap.size, k / 4, none⟩ (.int .u32 (bits .or .u32 x (((s[j]'h).toNat : Int) % 4294967296 * 2 ^ (8 * (k % 4)) % 4294967296)))).drew := by
  have hc : (s[j]'h).toNat < 256 := UInt8.toNat_lt _
  generalize hce : (s[j]'h).toNat = c at *
  have hr : k % 4 < 4 := Nat.mod_lt _ (by omega)
  have h2 : 256 ^ (k % 4) * 256 ≤ 4294967296 := by
    rw [← Nat.pow_succ]
    exact Nat.le_trans (Nat.pow_le_pow_right (by omega) (show k % 4 + 1 ≤ 4 by omega)) (by decide)
  rw [hx] at hz1
  have h3 : c * 256 ^ (k % 4) + 256 ^ (k % 4) ≤ 4294967296 := by
    have : (c + 1) * 256 ^ (k % 4) ≤ 256 * 256 ^ (k % 4) := Nat.mul_le_mul_right _ (by omega)
    rw [Nat.add_mul, Nat.mul_comm 256] at this
    omega
  have e1 : ((c : Int) % 4294967296 * 2 ^ (8 * (k % 4)) % 4294967296) = ((c * 256 ^ (k % 4) : Nat) : Int) := by
    have e2 : (2 : Int) ^ (8 * (k % 4)) = ((256 ^ (k % 4) : Nat) : Int) := by
      rw [show (256 : Nat) = 2 ^ 8 by decide, ← Nat.pow_mul]; simp
    rw [e2, show (c : Int) % 4294967296 = (c : Int) by omega, ← Int.natCast_mul]
    omega
  rw [e1, u32_or_nat _ _ (by omega) (by omega), or_add _ _ _ hz1]
  refine ⟨k + 1, o.set (k / 4) (x + c * 256 ^ (k % 4)), by omega, rfl, (hB.set _ _).drew, by simpa using ho, hd.set _ _ (by omega), ?_, ?_, ?_, (hbel.setCell (Nat.le_refl _) _).drew⟩
  · intro i hi
    rw [ldigit_set_ne _ _ _ _ (by omega)]
    exact hz i (by omega)
  · rcases Nat.lt_or_ge (k % 4) 3 with h4 | h4
    · have e5 : (k + 1) / 4 = k / 4 := by omega
      have e6 : (k + 1) % 4 = k % 4 + 1 := by omega
      rw [e5, e6, getD_set _ _ _ _ (by omega), if_pos rfl, Nat.pow_succ]
      have : (c + 1) * 256 ^ (k % 4) ≤ 256 * 256 ^ (k % 4) := Nat.mul_le_mul_right _ (by omega)
      rw [Nat.add_mul, Nat.mul_comm 256] at this
      omega
    · rw [ldigit_set_ne _ _ _ _ (by omega), hz _ (by omega)]
      exact Nat.pow_pos (by omega)
  · have h5 := vl_set 4294967296 o (k / 4) (x + c * 256 ^ (k % 4)) (by omega)
    rw [hx, Nat.mul_add] at h5
    have h6 : 4294967296 ^ (k / 4) * (c * 256 ^ (k % 4)) = 256 ^ k * c := by
      rw [Nat.mul_comm c, ← Nat.mul_assoc, pow_split]
    rw [vl_take_succ', rev_get s j k h hj, hce]
    omega

set_option maxRecDepth 100000 in
set_option maxHeartbeats 400000 in
theorem of_any (s : ByteArray) (w : World) (hs : s.size ≤ 1073741824) :
    Calls Tryz.prog 95 #[.string s] w fun e w' => ∃ v l, e = .returned v ∧ Sl .u32 w' v l ∧ Dig 4294967296 l ∧ Tr l ∧ vl 4294967296 l = SN s ∧ l.length ≤ (s.size + 3) / 4 ∧ Below w.heap.size w w' := by
  obtain ⟨n, hn⟩ : ∃ n, n = (s.size + 3) / 4 := ⟨_, rfl⟩
  have hmk := run_make_row' (P := Tryz.prog) 108 79 (.int .u32 0) 4 Tryz.underlying108 info_u32 rfl .i64 .i64 n (by omega) (by omega)
  rw [show (n : Int) = ((s.size : Int) + 4 - 1) / 4 by omega] at hmk
  have hn1 : 4 * n ≤ s.size + 3 := by omega
  have hn2 : s.size ≤ 4 * n := by omega
  have HN := Lib.hid hn; clear hn
  go_enter Tryz.func95, Tryz.ntmps95
  go_wp2
  go_loopw [13] (fun i wr => OfRel w s n i wr) (fun i _ => s.size - (intOf i).toNat)
  case atStart =>
    exact ⟨0, List.replicate n 0, by omega, rfl, Blk.made _ _ _ _, by simp, Dig.replicate (by decide) _, fun j _ => by simp [List.getElem?_replicate]; split <;> rfl, by simp [List.getElem?_replicate]; split <;> decide, by simp [vl_zeros], (Below.refl _ _).alloc (Nat.le_refl _) _⟩
  case round =>
    obtain ⟨k, o, hk, rfl, hB, ho, hd, hz, hz1, hv, hbel⟩ := hrel
    have HB := Lib.hid hB; have HO := Lib.hid ho; have HZ := Lib.hid hz; have HZ1 := Lib.hid hz1; have HV := Lib.hid hv; have HBel := Lib.hid hbel
    clear hB ho hz hz1 hv hbel
    rcases Nat.lt_or_ge k s.size with hlt | hge
    · have hwr := HB.out.get (k / 4) (by have := HO.out; omega)
      generalize hxe : o.getD (k / 4) 0 = x at hwr
      have HX := Lib.hid hxe; clear hxe
      have hfr := HB.out.free (k / 4)
      obtain ⟨j, hj⟩ : ∃ j : Nat, (s.size : Int) - 1 - (k : Int) = (j : Int) := ⟨s.size - 1 - k, by omega⟩
      have hjs : j < s.size := by omega
      have hjk : j + k + 1 = s.size := by omega
      have HJ := Lib.hid hjk; clear hjk
      go_wp2
      go_region
      go_wp2
      exact ⟨OfRel.step HX.out hjs HJ.out hlt hn2 HB.out HO.out hd HZ.out HZ1.out HV.out HBel.out, by simp [intOf]; omega⟩
    · obtain rfl : k = s.size := by omega
      have hsl : Sl .u32 wr (.slice (some ⟨w.heap.size, 0, none⟩) n n) o := by
        have := HB.out.row.sl HB.out.lt n (by have := HO.out; omega) (by omega)
        simpa [HO.out] using this
      have HSL := Lib.hid hsl; clear hsl
      go_wp2_with fail
      refine (trim_any (b := 4294967296) HSL.out).mono ?_
      rintro e w' ⟨v', l', rfl, hs', hd', ht', hv', hl', rfl⟩
      go_wp2_with fail
      go_ret
      have h1 := HV.out
      have h2 := HO.out
      rw [List.take_of_length_le (by simp)] at h1
      exact ⟨v', l', rfl, hs', hd' hd, ht', by rw [hv', h1]; rfl, by rw [h2] at hl'; have := HN.out; omega, HBel.out⟩

#print axioms of_any
end Go.Proofs.YtmbgohaljiiigaaGreatDoor
