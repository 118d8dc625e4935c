/- The contracts of nat.Add, Cmp, Mul, Sub, Quo, Gcd: each is the operation of the natural numbers, in canonical strings. -/
import Derived.Test.YtmbgohaljiiigaaGreatDoorSum
import Derived.Test.YtmbgohaljiiigaaGreatDoorLess
import Derived.Test.YtmbgohaljiiigaaGreatDoorProduct
import Derived.Test.YtmbgohaljiiigaaGreatDoorDivide
import Derived.Test.YtmbgohaljiiigaaGreatDoorOf
import Derived.Test.YtmbgohaljiiigaaGreatDoorNumber
import Derived.Deep.LoopGhost
namespace Go.Proofs.YtmbgohaljiiigaaGreatDoor
open Go.RowKit Num

/-- Short enough. -/
def lim : Nat := 268435456

set_option maxRecDepth 100000 in
set_option maxHeartbeats 800000 in
/-- **nat.Add**. -/
theorem Add_any (a b : ByteArray) (w : World) (ha : a.size ≤ 268435456) (hb : b.size ≤ 268435456) :
    Calls Tryz.prog 67 #[.string a, .string b] w fun e w' => e = .returned (.string (Enc (SN a + SN b))) ∧ Below w.heap.size w w' := by
  go_enter Tryz.func67, Tryz.ntmps67
  go_wp2_with fail
  refine (of_any a _ (by omega)).mono ?_
  rintro e w1 ⟨va, la, rfl, hsa, hda, hta, hva, hla, hb1⟩
  go_wp2_with fail
  refine (of_any b _ (by omega)).mono ?_
  rintro e w2 ⟨vb, lb, rfl, hsb, hdb, htb, hvb, hlb, hb2⟩
  go_wp2_with fail
  refine (sum_any (hsa.below hb2) hsb hda hdb (by omega) (by omega)).mono ?_
  rintro e w3 ⟨vc, lc, rfl, hsc, hdc, htc, hvc, hlc, hb3⟩
  go_wp2_with fail
  refine (number_any hsc hdc (by omega)).mono ?_
  rintro e w4 ⟨rfl, hb4⟩
  have hB := (hb1.trans (hb2.mono hb1.size)).trans ((hb3.trans (hb4.mono hb3.size)).mono (Nat.le_trans hb1.size hb2.size))
  have HV := Lib.hid (show vl 4294967296 lc = SN a + SN b by rw [hvc, hva, hvb])
  clear hvc hva hvb
  go_wp2_with fail
  go_ret
  exact ⟨by rw [← HV.out]; rfl, hB⟩

set_option maxRecDepth 100000 in
set_option maxHeartbeats 800000 in
/-- **nat.Mul**. -/
theorem Mul_any (a b : ByteArray) (w : World) (ha : a.size ≤ 268435456) (hb : b.size ≤ 268435456) :
    Calls Tryz.prog 58 #[.string a, .string b] w fun e w' => e = .returned (.string (Enc (SN a * SN b))) ∧ Below w.heap.size w w' := by
  go_enter Tryz.func58, Tryz.ntmps58
  go_wp2_with fail
  refine (of_any a _ (by omega)).mono ?_
  rintro e w1 ⟨va, la, rfl, hsa, hda, hta, hva, hla, hb1⟩
  go_wp2_with fail
  refine (of_any b _ (by omega)).mono ?_
  rintro e w2 ⟨vb, lb, rfl, hsb, hdb, htb, hvb, hlb, hb2⟩
  go_wp2_with fail
  refine (product_any (hsa.below hb2) hsb hda hdb (by omega) (by omega)).mono ?_
  rintro e w3 ⟨vc, lc, rfl, hsc, hdc, htc, hvc, hlc, hb3⟩
  go_wp2_with fail
  refine (number_any hsc hdc (by omega)).mono ?_
  rintro e w4 ⟨rfl, hb4⟩
  have hB := (hb1.trans (hb2.mono hb1.size)).trans ((hb3.trans (hb4.mono hb3.size)).mono (Nat.le_trans hb1.size hb2.size))
  have HV := Lib.hid (show vl 4294967296 lc = SN a * SN b by rw [hvc, hva, hvb])
  clear hvc hva hvb
  go_wp2_with fail
  go_ret
  exact ⟨by rw [← HV.out]; rfl, hB⟩

set_option maxRecDepth 100000 in
set_option maxHeartbeats 800000 in
/-- **nat.Cmp**. -/
theorem Cmp_any (a b : ByteArray) (w : World) (ha : a.size ≤ 268435456) (hb : b.size ≤ 268435456) :
    Calls Tryz.prog 68 #[.string a, .string b] w fun e w' => e = .returned (.int .i64 (cmpZ (SN a) (SN b))) ∧ Below w.heap.size w w' := by
  go_enter Tryz.func68, Tryz.ntmps68
  go_wp2_with fail
  refine (of_any a _ (by omega)).mono ?_
  rintro e w1 ⟨va, la, rfl, hsa, hda, hta, hva, hla, hb1⟩
  go_wp2_with fail
  refine (of_any b _ (by omega)).mono ?_
  rintro e w2 ⟨vb, lb, rfl, hsb, hdb, htb, hvb, hlb, hb2⟩
  have hc := compare_any (hsa.below hb2) hsb hda hdb hta htb
  rw [hva, hvb] at hc
  have HC := Lib.hid hc
  clear hc hva hvb
  go_wp2_with fail
  refine HC.out.mono ?_
  rintro e w3 ⟨rfl, hb3⟩
  have hB := (hb1.trans (hb2.mono hb1.size)).trans (hb3.mono (Nat.le_trans hb1.size hb2.size))
  go_wp2_with fail
  go_ret
  exact ⟨rfl, hB⟩

set_option maxRecDepth 100000 in
set_option maxHeartbeats 800000 in
/-- **nat.Sub**, the second number not greater. -/
theorem Sub_le (a b : ByteArray) (w : World) (ha : a.size ≤ 268435456) (hb : b.size ≤ 268435456) (hle : SN b ≤ SN a) :
    Calls Tryz.prog 66 #[.string a, .string b] w fun e w' => e = .returned (.tuple #[.string (Enc (SN a - SN b)), .bool true]) ∧ Below w.heap.size w w' := by
  have HLE := Lib.hid hle; clear hle
  go_enter Tryz.func66, Tryz.ntmps66
  go_wp2_with fail
  refine (of_any a _ (by omega)).mono ?_
  rintro e w1 ⟨va, la, rfl, hsa, hda, hta, hva, hla, hb1⟩
  go_wp2_with fail
  refine (of_any b _ (by omega)).mono ?_
  rintro e w2 ⟨vb, lb, rfl, hsb, hdb, htb, hvb, hlb, hb2⟩
  have hc := compare_any (hsa.below hb2) hsb hda hdb hta htb
  have hz : 0 ≤ cmpZ (vl 4294967296 la) (vl 4294967296 lb) := by
    have := HLE.out
    unfold cmpZ; rw [if_neg (by omega)]; split <;> decide
  have hll : lb.length ≤ la.length := by
    have := HLE.out
    rcases Nat.lt_or_ge la.length lb.length with h | h
    · have := vl_lt_of_length (b := 4294967296) (by decide) hda htb h; omega
    · exact h
  have hle : vl 4294967296 lb ≤ vl 4294967296 la := by have := HLE.out; omega
  generalize cmpZ (vl 4294967296 la) (vl 4294967296 lb) = z at hc hz
  have HC := Lib.hid hc; have HLE2 := Lib.hid hle; have HVA := Lib.hid hva; have HVB := Lib.hid hvb
  clear hc hle hva hvb
  go_wp2_with fail
  refine HC.out.mono ?_
  rintro e w3 ⟨rfl, hb3⟩
  go_wp2_with fail
  refine (less_any ((hsa.below hb2).below hb3) (hsb.below hb3) hda hdb (by omega) hll HLE2.out).mono ?_
  rintro e w4 ⟨vc, lc, rfl, hsc, hdc, htc, hvc, hlc, hb4⟩
  go_wp2_with fail
  refine (number_any hsc hdc (by omega)).mono ?_
  rintro e w5 ⟨rfl, hb5⟩
  have hB := (hb1.trans (hb2.mono hb1.size)).trans ((hb3.trans ((hb4.trans (hb5.mono hb4.size)).mono hb3.size)).mono (Nat.le_trans hb1.size hb2.size))
  have HV := Lib.hid (show vl 4294967296 lc = SN a - SN b by rw [hvc, HVA.out, HVB.out])
  clear hvc
  go_wp2_with fail
  go_ret2
  exact ⟨by rw [← HV.out]; rfl, hB⟩

set_option maxRecDepth 100000 in
set_option maxHeartbeats 800000 in
/-- **nat.Sub**, the second number greater. -/
theorem Sub_gt (a b : ByteArray) (w : World) (ha : a.size ≤ 268435456) (hb : b.size ≤ 268435456) (hlt : SN a < SN b) :
    Calls Tryz.prog 66 #[.string a, .string b] w fun e w' => e = .returned (.tuple #[.string (Enc 0), .bool false]) ∧ Below w.heap.size w w' := by
  have HLT := Lib.hid hlt; clear hlt
  go_enter Tryz.func66, Tryz.ntmps66
  go_wp2_with fail
  refine (of_any a _ (by omega)).mono ?_
  rintro e w1 ⟨va, la, rfl, hsa, hda, hta, hva, hla, hb1⟩
  go_wp2_with fail
  refine (of_any b _ (by omega)).mono ?_
  rintro e w2 ⟨vb, lb, rfl, hsb, hdb, htb, hvb, hlb, hb2⟩
  have hc := compare_any (hsa.below hb2) hsb hda hdb hta htb
  rw [cmpZ_lt (by have := HLT.out; omega)] at hc
  have HC := Lib.hid hc
  clear hc hva hvb
  go_wp2_with fail
  refine HC.out.mono ?_
  rintro e w3 ⟨rfl, hb3⟩
  have hB := (hb1.trans (hb2.mono hb1.size)).trans (hb3.mono (Nat.le_trans hb1.size hb2.size))
  go_wp2_with fail
  go_ret2
  exact ⟨rfl, hB⟩

set_option maxRecDepth 100000 in
set_option maxHeartbeats 800000 in
/-- **nat.Quo**. -/
theorem Quo_pos (a b : ByteArray) (w : World) (ha : a.size ≤ 268435456) (hb : b.size ≤ 268435456) (hpos : 0 < SN b) :
    Calls Tryz.prog 47 #[.string a, .string b] w fun e w' => e = .returned (.tuple #[.string (Enc (SN a / SN b)), .string (Enc (SN a % SN b)), .bool true]) ∧ Below w.heap.size w w' := by
  have HP := Lib.hid hpos; clear hpos
  go_enter Tryz.func47, Tryz.ntmps47
  go_wp2_with fail
  refine (of_any b _ (by omega)).mono ?_
  rintro e w1 ⟨vb, lb, rfl, hsb, hdb, htb, hvb, hlb, hb1⟩
  have hl0 : 0 < lb.length := by
    rcases Nat.eq_zero_or_pos lb.length with h | h
    · have h1 := List.length_eq_zero_iff.1 h
      subst h1
      have := HP.out
      simp at hvb
      omega
    · exact h
  have hne : ((lb.length : Int) == 0) = false := by rw [beq_eq_false_iff_ne]; omega
  have HVB := Lib.hid hvb; clear hvb
  have hsb2 := hsb
  obtain ⟨ab, cb, rfl, hcb, _, _⟩ := hsb2
  go_wp2_with fail
  refine (of_any a _ (by omega)).mono ?_
  rintro e w2 ⟨va, la, rfl, hsa, hda, hta, hva, hla, hb2⟩
  have HVA := Lib.hid hva; clear hva
  go_wp2_with fail
  refine (divide_any hsa (hsb.below hb2) hda hdb hta htb (by rw [HVB.out]; exact HP.out) (by omega)).mono ?_
  rintro e w3 ⟨vq, vr, lq, lr, rfl, hsq, hsr, hdq, hdr, htq, htr, hvq, hvr, hlq, hlr, hb3⟩
  have HVQ := Lib.hid hvq; have HVR := Lib.hid hvr
  clear hvq hvr
  go_wp2_with fail
  refine (number_any hsq hdq (by omega)).mono ?_
  rintro e w4 ⟨rfl, hb4⟩
  go_wp2_with fail
  refine (number_any (hsr.below hb4) hdr (by omega)).mono ?_
  rintro e w5 ⟨rfl, hb5⟩
  have hB := (hb1.trans (hb2.mono hb1.size)).trans ((hb3.trans ((hb4.trans (hb5.mono hb4.size)).mono hb3.size)).mono (Nat.le_trans hb1.size hb2.size))
  go_wp2_with fail
  go_ret3
  exact ⟨by rw [← HVA.out, ← HVB.out, ← HVQ.out, ← HVR.out]; rfl, hB⟩

set_option maxRecDepth 100000 in
set_option maxHeartbeats 800000 in
/-- **nat.Quo** by 0. -/
theorem Quo_zero (a b : ByteArray) (w : World) (hb : b.size ≤ 268435456) (hz : SN b = 0) :
    Calls Tryz.prog 47 #[.string a, .string b] w fun e w' => e = .returned (.tuple #[.string (Enc 0), .string (Enc 0), .bool false]) ∧ Below w.heap.size w w' := by
  have HZ := Lib.hid hz; clear hz
  go_enter Tryz.func47, Tryz.ntmps47
  go_wp2_with fail
  refine (of_any b _ (by omega)).mono ?_
  rintro e w1 ⟨vb, lb, rfl, hsb, hdb, htb, hvb, hlb, hb1⟩
  have hl0 : lb = [] := htb.eq_nil (b := 4294967296) (by decide) (by rw [hvb]; exact HZ.out)
  subst hl0
  obtain ⟨ab, cb, rfl, hcb, _, _⟩ := hsb
  clear hvb
  go_wp2_with fail
  go_ret3
  exact ⟨rfl, hb1⟩

def GcdRel (w : World) (G n : Nat) (k : Nat) (vx vy : Value) (wr : World) : Prop :=
  ∃ lx ly : List Nat, Sl .u32 wr vx lx ∧ Sl .u32 wr vy ly ∧ Dig 4294967296 lx ∧ Dig 4294967296 ly ∧ Tr lx ∧ Tr ly ∧ vl 4294967296 ly = k ∧ Nat.gcd (vl 4294967296 lx) (vl 4294967296 ly) = G ∧ lx.length ≤ n ∧ ly.length ≤ n ∧ Below w.heap.size w wr

set_option maxRecDepth 100000 in
set_option maxHeartbeats 800000 in
/-- **nat.Gcd**. -/
theorem Gcd_any (a b : ByteArray) (w : World) (ha : a.size ≤ 268435456) (hb : b.size ≤ 268435456) :
    Calls Tryz.prog 49 #[.string a, .string b] w fun e w' => e = .returned (.string (Enc (Nat.gcd (SN a) (SN b)))) ∧ Below w.heap.size w w' := by
  generalize hG : Nat.gcd (SN a) (SN b) = G
  have HG := Lib.hid hG; clear hG
  go_enter Tryz.func49, Tryz.ntmps49
  go_wp2_with fail
  refine (of_any a _ (by omega)).mono ?_
  rintro e w1 ⟨va, la, rfl, hsa, hda, hta, hva, hla, hb1⟩
  go_wp2_with fail
  refine (of_any b _ (by omega)).mono ?_
  rintro e w2 ⟨vb, lb, rfl, hsb, hdb, htb, hvb, hlb, hb2⟩
  have HVA := Lib.hid hva; have HVB := Lib.hid hvb
  clear hva hvb
  go_wp2_with fail
  go_loopg [5, 6] (SN b) (fun k x y wr => GcdRel w G 268435456 k x y wr)
  case atStart => exact ⟨la, lb, hsa.below hb2, hsb, hda, hdb, hta, htb, HVB.out, by rw [HVA.out, HVB.out]; exact HG.out, by omega, by omega, hb1.trans (hb2.mono hb1.size)⟩
  case round =>
    clear hsa hsb hda hdb hta htb hla hlb HVA HVB hb1 hb2
    obtain ⟨lx, ly, hsx, hsy, hdx, hdy, htx, hty, hky, hgc, hlx, hly, hbel⟩ := hrel
    have HK := Lib.hid hky; have HGC := Lib.hid hgc; have HBel := Lib.hid hbel
    clear hky hgc hbel
    have hsy2 := hsy
    obtain ⟨ay, cy, rfl, hcy, _, _⟩ := hsy2
    rcases Nat.eq_zero_or_pos ly.length with h0 | h0
    · have h1 := List.length_eq_zero_iff.1 h0
      subst h1
      clear h0
      go_wp2_with fail
      refine (number_any hsx hdx (by omega)).mono ?_
      rintro e w4 ⟨rfl, hb4⟩
      go_wp2_with fail
      go_ret
      have h2 := HGC.out
      simp at h2
      exact ⟨by rw [← h2]; rfl, HBel.out.trans (hb4.mono HBel.out.size)⟩
    · have hpos : 0 < vl 4294967296 ly := hty.pos (by decide) h0
      go_wp2_with fail
      refine (divide_any hsx hsy hdx hdy htx hty hpos (by omega)).mono ?_
      rintro e w3 ⟨vq, vr, lq, lr, rfl, hsq, hsr, hdq, hdr, htq, htr, hvq, hvr, hlq, hlr, hb3⟩
      have HVR := Lib.hid hvr
      have HP := Lib.hid hpos
      clear hvq hvr hpos
      go_wp2_with fail
      go_roundg (vl 4294967296 lr)
      case measure => rw [HVR.out, ← HK.out]; exact Nat.mod_lt _ HP.out
      case rel =>
        refine ⟨ly, lr, hsy.below hb3, hsr, hdy, hdr, hty, htr, rfl, ?_, hly, by omega, HBel.out.trans (hb3.mono HBel.out.size)⟩
        rw [HVR.out, ← HGC.out, Nat.gcd_comm (vl 4294967296 ly), ← Nat.gcd_rec, Nat.gcd_comm]

#print axioms Add_any
#print axioms Mul_any
#print axioms Cmp_any
#print axioms Sub_le
#print axioms Sub_gt
#print axioms Quo_pos
#print axioms Quo_zero
#print axioms Gcd_any
end Go.Proofs.YtmbgohaljiiigaaGreatDoor
