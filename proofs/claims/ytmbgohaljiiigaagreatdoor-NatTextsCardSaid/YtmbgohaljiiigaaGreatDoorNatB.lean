/- The contracts of nat.Of, Int, Bits, Right. -/
import Derived.Test.YtmbgohaljiiigaaGreatDoorOf
import Derived.Test.YtmbgohaljiiigaaGreatDoorNumber
import Derived.Lib.ItoaNum
namespace Go.Proofs.YtmbgohaljiiigaaGreatDoor
open Go.RowKit Num

theorem ofInt_i64 (a : Nat) (ha : a < 9223372036854775808) : (BitVec.ofInt 64 (a : Int)).toNat = a := by
  rw [BitVec.ofInt_natCast, BitVec.toNat_ofNat]; exact Nat.mod_eq_of_lt (by omega)
theorem i64_and_nat (a b : Nat) (ha : a < 9223372036854775808) (hb : b < 9223372036854775808) : bits .and .i64 (a : Int) (b : Int) = ((a &&& b : Nat) : Int) := by
  have hx : a &&& b < 2 ^ 63 := Nat.and_lt_two_pow _ (by omega)
  show IntKind.i64.wrap ((BitVec.ofInt 64 (a : Int) &&& BitVec.ofInt 64 (b : Int)).toNat : Int) = _
  rw [BitVec.toNat_and, ofInt_i64 a ha, ofInt_i64 b hb, IntKind.wrap_i64]
  omega
theorem i64_or_nat (a b : Nat) (ha : a < 9223372036854775808) (hb : b < 9223372036854775808) : bits .or .i64 (a : Int) (b : Int) = ((a ||| b : Nat) : Int) := by
  have hx : a ||| b < 2 ^ 63 := Nat.or_lt_two_pow (by omega) (by omega)
  show IntKind.i64.wrap ((BitVec.ofInt 64 (a : Int) ||| BitVec.ofInt 64 (b : Int)).toNat : Int) = _
  rw [BitVec.toNat_or, ofInt_i64 a ha, ofInt_i64 b hb, IntKind.wrap_i64]
  omega

set_option maxRecDepth 100000 in
set_option maxHeartbeats 800000 in
/-- **nat.Of**. -/
theorem Of_any (z : Int) (w : World) (h2 : z ≤ 9223372036854775807) :
    Calls Tryz.prog 59 #[.int .i64 z] w fun e w' => e = .returned (.string (Enc z.toNat)) ∧ Below w.heap.size w w' := by
  rcases (show z ≤ 0 ∨ 0 < z by omega) with hz | hz
  · obtain ⟨t, ht⟩ : ∃ t, t = z.toNat := ⟨_, rfl⟩
    rw [← ht]
    have h0 : t = 0 := by omega
    subst h0
    clear ht
    go_enter Tryz.func59, Tryz.ntmps59
    go_wp2
    go_ret
    exact ⟨rfl, Below.refl _ _⟩
  · obtain ⟨n, rfl⟩ : ∃ n : Nat, z = (n : Int) := ⟨z.toNat, by omega⟩
    simp only [Int.toNat_natCast]
    have hn0 : 0 < n := by omega
    have hn : n < 9223372036854775808 := by omega
    clear hz h2
    obtain ⟨x, hx, hx2⟩ : ∃ x : Nat, bits .and .i64 (n : Int) 4294967295 = (x : Int) ∧ x = n % 4294967296 := by
      refine ⟨n % 4294967296, ?_, rfl⟩
      have h := i64_and_nat n 4294967295 hn (by decide)
      have e : n &&& 4294967295 = n % 4294967296 := Nat.and_two_pow_sub_one_eq_mod n 32
      rw [e] at h
      exact h
    obtain ⟨y, hy, hy2⟩ : ∃ y : Nat, (n : Int) / 4294967296 = (y : Int) ∧ y = n / 4294967296 := ⟨n / 4294967296, by omega, rfl⟩
    have hx3 : x < 4294967296 := by omega
    have hy3 : y < 4294967296 := by omega
    have hsl : Sl .u32 (w.alloc (.cells #[.int .u32 (x : Int), .int .u32 (y : Int)] 79)) (.slice (some ⟨w.heap.size, 0, none⟩) 2 2) [x, y] := by
      have h := Blk.new w 79 (ints .u32 [x, y])
      exact h.row.sl h.lt 2 (by simp) (by decide)
    have hnum := number_any hsl (Dig.cons hx3 (Dig.cons hy3 (Dig.nil _))) (by simp)
    have hv : vl 4294967296 [x, y] = n := by simp; omega
    rw [hv] at hnum
    have HN := Lib.hid hnum
    clear hsl hnum hv hx2 hy2
    go_enter Tryz.func59, Tryz.ntmps59
    go_wp2_with fail
    refine HN.out.mono ?_
    rintro e w' ⟨rfl, hb⟩
    go_wp2_with fail
    go_ret
    exact ⟨rfl, ((Below.refl _ _).alloc (Nat.le_refl _) _).trans (hb.mono (by simp))⟩

set_option maxRecDepth 100000 in
set_option maxHeartbeats 800000 in
/-- **nat.Right**. -/
theorem Right_any (s : ByteArray) (w : World) :
    Calls Tryz.prog 64 #[.string s] w fun e w' => e = .returned (.bool (rightB s.data.toList)) ∧ w = w' := by
  obtain ⟨⟨l⟩⟩ := s
  cases l with
  | nil =>
    go_enter Tryz.func64, Tryz.ntmps64
    go_wp2
    go_ret
    exact ⟨rfl, rfl⟩
  | cons c l =>
    go_enter Tryz.func64, Tryz.ntmps64
    go_wp2
    go_ret
    refine ⟨?_, rfl⟩
    show Ending.returned (Value.bool (((c.toNat : Nat) : Int) != 0)) = Ending.returned (Value.bool (c != 0))
    have h : (((c.toNat : Nat) : Int) != 0) = (c != 0) := by
      by_cases h0 : c = 0
      · subst h0; rfl
      · have h1 : c.toNat ≠ 0 := fun e => h0 (UInt8.toNat_inj.1 e)
        have e1 : (((c.toNat : Nat) : Int) != 0) = true := by rw [bne_iff_ne]; omega
        have e2 : (c != 0) = true := by rw [bne_iff_ne]; exact h0
        rw [e1, e2]
    rw [h]

set_option maxRecDepth 100000 in
set_option maxHeartbeats 800000 in
/-- **nat.Bits**. -/
theorem Bits_any (s : ByteArray) (w : World) (hs : s.size ≤ 268435456) :
    Calls Tryz.prog 62 #[.string s] w fun e w' => e = .returned (.int .i64 ((natBits (SN s) : Nat) : Int)) ∧ Below w.heap.size w w' := by
  go_enter Tryz.func62, Tryz.ntmps62
  go_wp2_with fail
  refine (of_any s _ (by omega)).mono ?_
  rintro e w1 ⟨va, la, rfl, hsa, hda, hta, hva, hla, hb1⟩
  rcases Nat.eq_zero_or_pos la.length with h0 | h0
  · have h1 := List.length_eq_zero_iff.1 h0
    subst h1
    obtain ⟨ab, cb, rfl, hcb, _, _⟩ := hsa
    have HVA := Lib.hid hva
    clear hva h0
    go_wp2_with fail
    go_ret
    have := HVA.out
    simp at this
    exact ⟨by rw [← this]; rfl, hb1⟩
  · obtain ⟨ab, cb, rfl, hcb, _, hc⟩ := hsa
    obtain ⟨b, off, rfl, hbl, hrow⟩ := hc h0
    have hx := hrow (la.length - 1) (by omega)
    have hx32 := hda.get (by decide) (la.length - 1)
    have hx0 := hta.last h0
    have hval : natBits (SN s) = 32 * (la.length - 1) + Lib.bitLen (la.getD (la.length - 1) 0) := by
      have hbb := Lib.bitLenAux_bounds 64 (la.getD (la.length - 1) 0) (by omega) hx0
      rw [← hva]
      exact natBits_vl hda (by omega) rfl hbb.1 hbb.2.1 hbb.2.2
    generalize la.getD (la.length - 1) 0 = x at hx hx32 hx0 hval
    clear hrow hc hta hda hva
    generalize la.length = n at *
    have hn1 : 1 ≤ n := h0
    have hne : ((n : Int) == 0) = false := by rw [beq_eq_false_iff_ne]; omega
    have hbl2 := Lib.bitLen_le x 32 (by omega) (by omega)
    have hlen := Tryz.bits_Len32 (x : Int)
    simp only [Int.toNat_natCast] at hlen
    generalize Lib.bitLen x = e at *
    have HL := Lib.hid hlen; have HVAL := Lib.hid hval
    clear hlen hval hx0
    have h0x : 0 ≤ (x : Int) := by omega
    have h1x : (x : Int) ≤ 4294967295 := by omega
    go_wp2_with fail
    refine (HL.out _ h0x h1x).mono ?_
    rintro e' w' ⟨rfl, rfl⟩
    go_wp2_with fail
    go_ret
    refine ⟨?_, hb1⟩
    rw [HVAL.out, show ((32 * (n - 1) + e : Nat) : Int) = 32 * ((n : Int) - 1) + (e : Int) by omega]
    rfl

#print axioms Of_any
#print axioms Right_any
#print axioms Bits_any
end Go.Proofs.YtmbgohaljiiigaaGreatDoor
