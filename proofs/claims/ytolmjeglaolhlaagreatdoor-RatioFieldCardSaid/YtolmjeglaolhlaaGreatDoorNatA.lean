/- The contracts of nat. -/
import Derived.Deep.LoopGhost
import Derived.Test.YtolmjeglaolhlaaGreatDoorLims
import Derived.Test.YtolmjeglaolhlaaGreatDoorDivide
import Derived.Test.YtolmjeglaolhlaaGreatDoorNats

/- The contracts of nat.Add, Cmp, Mul, Sub, Quo, Gcd: each is the operation of the natural numbers, in canonical strings. -/
namespace Go.Proofs.YtolmjeglaolhlaaGreatDoor
open Go.RowKit Num

/-- Short enough. -/
def lim : Nat := 268435456

set_option maxRecDepth 100000 in
set_option maxHeartbeats 800000 in
/-- **nat.Add**. -/
theorem Add_any (a b : ByteArray) (w : World) (ha : a.size ≤ 268435456) (hb : b.size ≤ 268435456) :
    Calls Tryz.prog 17 #[.string a, .string b] w fun e w' => e = .returned (.string (Enc (SN a + SN b))) ∧ Below w.heap.size w w' := by
  go_enter Tryz.func17, Tryz.ntmps17
  go_wp2_with fail
  refine (of_any a _ (by omega)).mono ?_
  rintro e w1 ⟨va, la, rfl, hsa, hda, hta, hva, hla, hb1⟩
  go_wp2_with fail
  refine (of_any b _ (by omega)).mono ?_
  rintro e w2 ⟨vb, lb, rfl, hsb, hdb, htb, hvb, hlb, hb2⟩
  go_wp2_with fail
  refine (sum_any (hsa.below hb2) hsb hda hdb (by omega) (by omega)).mono ?_
  rintro e w3 ⟨vc, lc, rfl, hsc, hdc, htc, hvc, hlc, hb3⟩
  go_wp2_with fail
  refine (number_any hsc hdc (by omega)).mono ?_
  rintro e w4 ⟨rfl, hb4⟩
  have hB := (hb1.trans (hb2.mono hb1.size)).trans ((hb3.trans (hb4.mono hb3.size)).mono (Nat.le_trans hb1.size hb2.size))
  have HV := Lib.hid (show vl 4294967296 lc = SN a + SN b by rw [hvc, hva, hvb])
  clear hvc hva hvb
  go_wp2_with fail
  go_ret
  exact ⟨by rw [← HV.out]; rfl, hB⟩

set_option maxRecDepth 100000 in
set_option maxHeartbeats 800000 in
/-- **nat.Mul**. -/
theorem Mul_any (a b : ByteArray) (w : World) (ha : a.size ≤ 268435456) (hb : b.size ≤ 268435456) :
    Calls Tryz.prog 20 #[.string a, .string b] w fun e w' => e = .returned (.string (Enc (SN a * SN b))) ∧ Below w.heap.size w w' := by
  go_enter Tryz.func20, Tryz.ntmps20
  go_wp2_with fail
  refine (of_any a _ (by omega)).mono ?_
  rintro e w1 ⟨va, la, rfl, hsa, hda, hta, hva, hla, hb1⟩
  go_wp2_with fail
  refine (of_any b _ (by omega)).mono ?_
  rintro e w2 ⟨vb, lb, rfl, hsb, hdb, htb, hvb, hlb, hb2⟩
  go_wp2_with fail
  refine (product_any (hsa.below hb2) hsb hda hdb (by omega) (by omega)).mono ?_
  rintro e w3 ⟨vc, lc, rfl, hsc, hdc, htc, hvc, hlc, hb3⟩
  go_wp2_with fail
  refine (number_any hsc hdc (by omega)).mono ?_
  rintro e w4 ⟨rfl, hb4⟩
  have hB := (hb1.trans (hb2.mono hb1.size)).trans ((hb3.trans (hb4.mono hb3.size)).mono (Nat.le_trans hb1.size hb2.size))
  have HV := Lib.hid (show vl 4294967296 lc = SN a * SN b by rw [hvc, hva, hvb])
  clear hvc hva hvb
  go_wp2_with fail
  go_ret
  exact ⟨by rw [← HV.out]; rfl, hB⟩

set_option maxRecDepth 100000 in
set_option maxHeartbeats 800000 in
/-- **nat.Cmp**. -/
theorem Cmp_any (a b : ByteArray) (w : World) (ha : a.size ≤ 268435456) (hb : b.size ≤ 268435456) :
    Calls Tryz.prog 119 #[.string a, .string b] w fun e w' => e = .returned (.int .i64 (cmpZ (SN a) (SN b))) ∧ Below w.heap.size w w' := by
  go_enter Tryz.func119, Tryz.ntmps119
  go_wp2_with fail
  refine (of_any a _ (by omega)).mono ?_
  rintro e w1 ⟨va, la, rfl, hsa, hda, hta, hva, hla, hb1⟩
  go_wp2_with fail
  refine (of_any b _ (by omega)).mono ?_
  rintro e w2 ⟨vb, lb, rfl, hsb, hdb, htb, hvb, hlb, hb2⟩
  have hc := compare_any (hsa.below hb2) hsb hda hdb hta htb
  rw [hva, hvb] at hc
  have HC := Lib.hid hc
  clear hc hva hvb
  go_wp2_with fail
  refine HC.out.mono ?_
  rintro e w3 ⟨rfl, hb3⟩
  have hB := (hb1.trans (hb2.mono hb1.size)).trans (hb3.mono (Nat.le_trans hb1.size hb2.size))
  go_wp2_with fail
  go_ret
  exact ⟨rfl, hB⟩

set_option maxRecDepth 100000 in
set_option maxHeartbeats 800000 in
/-- **nat.Sub**, the second number not greater. -/
theorem Sub_le (a b : ByteArray) (w : World) (ha : a.size ≤ 268435456) (hb : b.size ≤ 268435456) (hle : SN b ≤ SN a) :
    Calls Tryz.prog 56 #[.string a, .string b] w fun e w' => e = .returned (.tuple #[.string (Enc (SN a - SN b)), .bool true]) ∧ Below w.heap.size w w' := by
  have HLE := Lib.hid hle; clear hle
  go_enter Tryz.func56, Tryz.ntmps56
  go_wp2_with fail
  refine (of_any a _ (by omega)).mono ?_
  rintro e w1 ⟨va, la, rfl, hsa, hda, hta, hva, hla, hb1⟩
  go_wp2_with fail
  refine (of_any b _ (by omega)).mono ?_
  rintro e w2 ⟨vb, lb, rfl, hsb, hdb, htb, hvb, hlb, hb2⟩
  have hc := compare_any (hsa.below hb2) hsb hda hdb hta htb
  have hz : 0 ≤ cmpZ (vl 4294967296 la) (vl 4294967296 lb) := by
    have := HLE.out
    unfold cmpZ; rw [if_neg (by omega)]; split <;> decide
  have hll : lb.length ≤ la.length := by
    have := HLE.out
    rcases Nat.lt_or_ge la.length lb.length with h | h
    · have := vl_lt_of_length (b := 4294967296) (by decide) hda htb h; omega
    · exact h
  have hle : vl 4294967296 lb ≤ vl 4294967296 la := by have := HLE.out; omega
  generalize cmpZ (vl 4294967296 la) (vl 4294967296 lb) = z at hc hz
  have HC := Lib.hid hc; have HLE2 := Lib.hid hle; have HVA := Lib.hid hva; have HVB := Lib.hid hvb
  clear hc hle hva hvb
  go_wp2_with fail
  refine HC.out.mono ?_
  rintro e w3 ⟨rfl, hb3⟩
  go_wp2_with fail
  refine (less_any ((hsa.below hb2).below hb3) (hsb.below hb3) hda hdb (by omega) hll HLE2.out).mono ?_
  rintro e w4 ⟨vc, lc, rfl, hsc, hdc, htc, hvc, hlc, hb4⟩
  go_wp2_with fail
  refine (number_any hsc hdc (by omega)).mono ?_
  rintro e w5 ⟨rfl, hb5⟩
  have hB := (hb1.trans (hb2.mono hb1.size)).trans ((hb3.trans ((hb4.trans (hb5.mono hb4.size)).mono hb3.size)).mono (Nat.le_trans hb1.size hb2.size))
  have HV := Lib.hid (show vl 4294967296 lc = SN a - SN b by rw [hvc, HVA.out, HVB.out])
  clear hvc
  go_wp2_with fail
  go_ret2
  exact ⟨by rw [← HV.out]; rfl, hB⟩

set_option maxRecDepth 100000 in
set_option maxHeartbeats 800000 in
/-- **nat.Sub**, the second number greater. -/
theorem Sub_gt (a b : ByteArray) (w : World) (ha : a.size ≤ 268435456) (hb : b.size ≤ 268435456) (hlt : SN a < SN b) :
    Calls Tryz.prog 56 #[.string a, .string b] w fun e w' => e = .returned (.tuple #[.string (Enc 0), .bool false]) ∧ Below w.heap.size w w' := by
  have HLT := Lib.hid hlt; clear hlt
  go_enter Tryz.func56, Tryz.ntmps56
  go_wp2_with fail
  refine (of_any a _ (by omega)).mono ?_
  rintro e w1 ⟨va, la, rfl, hsa, hda, hta, hva, hla, hb1⟩
  go_wp2_with fail
  refine (of_any b _ (by omega)).mono ?_
  rintro e w2 ⟨vb, lb, rfl, hsb, hdb, htb, hvb, hlb, hb2⟩
  have hc := compare_any (hsa.below hb2) hsb hda hdb hta htb
  rw [cmpZ_lt (by have := HLT.out; omega)] at hc
  have HC := Lib.hid hc
  clear hc hva hvb
  go_wp2_with fail
  refine HC.out.mono ?_
  rintro e w3 ⟨rfl, hb3⟩
  have hB := (hb1.trans (hb2.mono hb1.size)).trans (hb3.mono (Nat.le_trans hb1.size hb2.size))
  go_wp2_with fail
  go_ret2
  exact ⟨rfl, hB⟩

set_option maxRecDepth 100000 in
set_option maxHeartbeats 800000 in
/-- **nat.Quo**. -/
theorem Quo_pos (a b : ByteArray) (w : World) (ha : a.size ≤ 268435456) (hb : b.size ≤ 268435456) (hpos : 0 < SN b) :
    Calls Tryz.prog 19 #[.string a, .string b] w fun e w' => e = .returned (.tuple #[.string (Enc (SN a / SN b)), .string (Enc (SN a % SN b)), .bool true]) ∧ Below w.heap.size w w' := by
  have HP := Lib.hid hpos; clear hpos
  go_enter Tryz.func19, Tryz.ntmps19
  go_wp2_with fail
  refine (of_any b _ (by omega)).mono ?_
  rintro e w1 ⟨vb, lb, rfl, hsb, hdb, htb, hvb, hlb, hb1⟩
  have hl0 : 0 < lb.length := by
    rcases Nat.eq_zero_or_pos lb.length with h | h
    · have h1 := List.length_eq_zero_iff.1 h
      subst h1
      have := HP.out
      simp at hvb
      omega
    · exact h
  have hne : ((lb.length : Int) == 0) = false := by rw [beq_eq_false_iff_ne]; omega
  have HVB := Lib.hid hvb; clear hvb
  have hsb2 := hsb
  obtain ⟨ab, cb, rfl, hcb, _, _⟩ := hsb2
  go_wp2_with fail
  refine (of_any a _ (by omega)).mono ?_
  rintro e w2 ⟨va, la, rfl, hsa, hda, hta, hva, hla, hb2⟩
  have HVA := Lib.hid hva; clear hva
  go_wp2_with fail
  refine (divide_any hsa (hsb.below hb2) hda hdb hta htb (by rw [HVB.out]; exact HP.out) (by omega)).mono ?_
  rintro e w3 ⟨vq, vr, lq, lr, rfl, hsq, hsr, hdq, hdr, htq, htr, hvq, hvr, hlq, hlr, hb3⟩
  have HVQ := Lib.hid hvq; have HVR := Lib.hid hvr
  clear hvq hvr
  go_wp2_with fail
  refine (number_any hsq hdq (by omega)).mono ?_
  rintro e w4 ⟨rfl, hb4⟩
  go_wp2_with fail
  refine (number_any (hsr.below hb4) hdr (by omega)).mono ?_
  rintro e w5 ⟨rfl, hb5⟩
  have hB := (hb1.trans (hb2.mono hb1.size)).trans ((hb3.trans ((hb4.trans (hb5.mono hb4.size)).mono hb3.size)).mono (Nat.le_trans hb1.size hb2.size))
  go_wp2_with fail
  go_ret3
  exact ⟨by rw [← HVA.out, ← HVB.out, ← HVQ.out, ← HVR.out]; rfl, hB⟩

set_option maxRecDepth 100000 in
set_option maxHeartbeats 800000 in
/-- **nat.Quo** by 0. -/
theorem Quo_zero (a b : ByteArray) (w : World) (hb : b.size ≤ 268435456) (hz : SN b = 0) :
    Calls Tryz.prog 19 #[.string a, .string b] w fun e w' => e = .returned (.tuple #[.string (Enc 0), .string (Enc 0), .bool false]) ∧ Below w.heap.size w w' := by
  have HZ := Lib.hid hz; clear hz
  go_enter Tryz.func19, Tryz.ntmps19
  go_wp2_with fail
  refine (of_any b _ (by omega)).mono ?_
  rintro e w1 ⟨vb, lb, rfl, hsb, hdb, htb, hvb, hlb, hb1⟩
  have hl0 : lb = [] := htb.eq_nil (b := 4294967296) (by decide) (by rw [hvb]; exact HZ.out)
  subst hl0
  obtain ⟨ab, cb, rfl, hcb, _, _⟩ := hsb
  clear hvb
  go_wp2_with fail
  go_ret3
  exact ⟨rfl, hb1⟩

def GcdRel (w : World) (G n : Nat) (k : Nat) (vx vy : Value) (wr : World) : Prop :=
  ∃ lx ly : List Nat, Sl .u32 wr vx lx ∧ Sl .u32 wr vy ly ∧ Dig 4294967296 lx ∧ Dig 4294967296 ly ∧ Tr lx ∧ Tr ly ∧ vl 4294967296 ly = k ∧ Nat.gcd (vl 4294967296 lx) (vl 4294967296 ly) = G ∧ lx.length ≤ n ∧ ly.length ≤ n ∧ Below w.heap.size w wr

set_option maxRecDepth 100000 in
set_option maxHeartbeats 800000 in
/-- **nat.Gcd**. -/
theorem Gcd_any (a b : ByteArray) (w : World) (ha : a.size ≤ 268435456) (hb : b.size ≤ 268435456) :
    Calls Tryz.prog 57 #[.string a, .string b] w fun e w' => e = .returned (.string (Enc (Nat.gcd (SN a) (SN b)))) ∧ Below w.heap.size w w' := by
  generalize hG : Nat.gcd (SN a) (SN b) = G
  have HG := Lib.hid hG; clear hG
  go_enter Tryz.func57, Tryz.ntmps57
  go_wp2_with fail
  refine (of_any a _ (by omega)).mono ?_
  rintro e w1 ⟨va, la, rfl, hsa, hda, hta, hva, hla, hb1⟩
  go_wp2_with fail
  refine (of_any b _ (by omega)).mono ?_
  rintro e w2 ⟨vb, lb, rfl, hsb, hdb, htb, hvb, hlb, hb2⟩
  have HVA := Lib.hid hva; have HVB := Lib.hid hvb
  clear hva hvb
  go_wp2_with fail
  go_loopg [5, 6] (SN b) (fun k x y wr => GcdRel w G 268435456 k x y wr)
  case atStart => exact ⟨la, lb, hsa.below hb2, hsb, hda, hdb, hta, htb, HVB.out, by rw [HVA.out, HVB.out]; exact HG.out, by omega, by omega, hb1.trans (hb2.mono hb1.size)⟩
  case round =>
    clear hsa hsb hda hdb hta htb hla hlb HVA HVB hb1 hb2
    obtain ⟨lx, ly, hsx, hsy, hdx, hdy, htx, hty, hky, hgc, hlx, hly, hbel⟩ := hrel
    have HK := Lib.hid hky; have HGC := Lib.hid hgc; have HBel := Lib.hid hbel
    clear hky hgc hbel
    have hsy2 := hsy
    obtain ⟨ay, cy, rfl, hcy, _, _⟩ := hsy2
    rcases Nat.eq_zero_or_pos ly.length with h0 | h0
    · have h1 := List.length_eq_zero_iff.1 h0
      subst h1
      clear h0
      go_wp2_with fail
      refine (number_any hsx hdx (by omega)).mono ?_
      rintro e w4 ⟨rfl, hb4⟩
      go_wp2_with fail
      go_ret
      have h2 := HGC.out
      simp at h2
      exact ⟨by rw [← h2]; rfl, HBel.out.trans (hb4.mono HBel.out.size)⟩
    · have hpos : 0 < vl 4294967296 ly := hty.pos (by decide) h0
      go_wp2_with fail
      refine (divide_any hsx hsy hdx hdy htx hty hpos (by omega)).mono ?_
      rintro e w3 ⟨vq, vr, lq, lr, rfl, hsq, hsr, hdq, hdr, htq, htr, hvq, hvr, hlq, hlr, hb3⟩
      have HVR := Lib.hid hvr
      have HP := Lib.hid hpos
      clear hvq hvr hpos
      go_wp2_with fail
      go_roundg (vl 4294967296 lr)
      case measure => rw [HVR.out, ← HK.out]; exact Nat.mod_lt _ HP.out
      case rel =>
        refine ⟨ly, lr, hsy.below hb3, hsr, hdy, hdr, hty, htr, rfl, ?_, hly, by omega, HBel.out.trans (hb3.mono HBel.out.size)⟩
        rw [HVR.out, ← HGC.out, Nat.gcd_comm (vl 4294967296 ly), ← Nat.gcd_rec, Nat.gcd_comm]

end Go.Proofs.YtolmjeglaolhlaaGreatDoor

/- The contracts of nat, said with what comes out by name. -/
namespace Go.Proofs.YtolmjeglaolhlaaGreatDoor
open Go.RowKit Num

theorem Add_is (s : ByteArray) (a b : ByteArray) (w : World) (ha : a.size ≤ 268435456) (hb : b.size ≤ 268435456) (h : Enc (SN a + SN b) = s) :
    Calls Tryz.prog 17 #[.string a, .string b] w fun e w' => e = .returned (.string s) ∧ Below w.heap.size w w' := by rw [← h]; exact Add_any a b w ha hb
theorem Mul_is (s : ByteArray) (a b : ByteArray) (w : World) (ha : a.size ≤ 268435456) (hb : b.size ≤ 268435456) (h : Enc (SN a * SN b) = s) :
    Calls Tryz.prog 20 #[.string a, .string b] w fun e w' => e = .returned (.string s) ∧ Below w.heap.size w w' := by rw [← h]; exact Mul_any a b w ha hb
theorem Cmp_is (z : Int) (a b : ByteArray) (w : World) (ha : a.size ≤ 268435456) (hb : b.size ≤ 268435456) (h : cmpZ (SN a) (SN b) = z) :
    Calls Tryz.prog 119 #[.string a, .string b] w fun e w' => e = .returned (.int .i64 z) ∧ Below w.heap.size w w' := by rw [← h]; exact Cmp_any a b w ha hb
theorem Bits_is (n : Nat) (a : ByteArray) (w : World) (ha : a.size ≤ 268435456) (h : natBits (SN a) = n) :
    Calls Tryz.prog 18 #[.string a] w fun e w' => e = .returned (.int .i64 (n : Int)) ∧ Below w.heap.size w w' := by rw [← h]; exact Bits_any a w ha
theorem Right_is (v : Bool) (a : ByteArray) (w : World) (h : rightB a.data.toList = v) :
    Calls Tryz.prog 77 #[.string a] w fun e w' => e = .returned (.bool v) ∧ w = w' := by rw [← h]; exact Right_any a w
theorem Quo_is (q r : ByteArray) (a b : ByteArray) (w : World) (ha : a.size ≤ 268435456) (hb : b.size ≤ 268435456) (hp : 0 < SN b) (h1 : Enc (SN a / SN b) = q) (h2 : Enc (SN a % SN b) = r) :
    Calls Tryz.prog 19 #[.string a, .string b] w fun e w' => e = .returned (.tuple #[.string q, .string r, .bool true]) ∧ Below w.heap.size w w' := by rw [← h1, ← h2]; exact Quo_pos a b w ha hb hp
theorem Enc_zero : Enc 0 = ⟨#[]⟩ := by kernel_rfl
theorem Quo_none (a b : ByteArray) (w : World) (hb : b.size ≤ 268435456) (hz : SN b = 0) :
    Calls Tryz.prog 19 #[.string a, .string b] w fun e w' => e = .returned (.tuple #[.string ⟨#[]⟩, .string ⟨#[]⟩, .bool false]) ∧ Below w.heap.size w w' := by
  have := Quo_zero a b w hb hz
  rwa [Enc_zero] at this
theorem Sub_is (s : ByteArray) (a b : ByteArray) (w : World) (ha : a.size ≤ 268435456) (hb : b.size ≤ 268435456) (hle : SN b ≤ SN a) (h : Enc (SN a - SN b) = s) :
    Calls Tryz.prog 56 #[.string a, .string b] w fun e w' => e = .returned (.tuple #[.string s, .bool true]) ∧ Below w.heap.size w w' := by rw [← h]; exact Sub_le a b w ha hb hle

theorem rightB_Enc (n : Nat) : rightB (Enc n).data.toList = true := (rightB_iff _).2 (by show Rt (enc n).toArray.toList; simpa using enc_rt n)

/-- How long a sum, a product is. -/
theorem size_lt {a : ByteArray} {k : Nat} (h : a.size ≤ k) : SN a < 256 ^ k := Nat.lt_of_lt_of_le (SN_lt a) (Nat.pow_le_pow_right (by omega) h)

theorem natBits_pos {n : Nat} (h : 0 < n) : 0 < natBits n := by unfold natBits; rw [if_neg (by omega)]; omega
theorem natBits_le {n k : Nat} (h : n < 2 ^ k) : natBits n ≤ k := by
  unfold natBits
  split
  · omega
  · rename_i h0
    have := (Nat.log2_lt h0).2 h
    omega

theorem natBits_bytes {n k : Nat} (h : n < 256 ^ k) : natBits n ≤ 8 * k := natBits_le (by rwa [Nat.pow_mul])

/-- The bits of a product are those of the factors, or one less. -/
theorem natBits_mul {a b : Nat} (ha : 0 < a) (hb : 0 < b) : natBits a + natBits b = natBits (a * b) ∨ natBits a + natBits b = natBits (a * b) + 1 := by
  have h1 : 2 ^ a.log2 ≤ a := Nat.log2_self_le (by omega)
  have h2 : a < 2 ^ (a.log2 + 1) := Nat.lt_log2_self
  have h3 : 2 ^ b.log2 ≤ b := Nat.log2_self_le (by omega)
  have h4 : b < 2 ^ (b.log2 + 1) := Nat.lt_log2_self
  have e1 : natBits a = a.log2 + 1 := by unfold natBits; rw [if_neg (by omega)]
  have e2 : natBits b = b.log2 + 1 := by unfold natBits; rw [if_neg (by omega)]
  have h5 : 2 ^ (a.log2 + b.log2) ≤ a * b := by rw [Nat.pow_add]; exact Nat.mul_le_mul h1 h3
  have h6 : a * b < 2 ^ (a.log2 + b.log2 + 1 + 1) := by
    rw [show a.log2 + b.log2 + 1 + 1 = (a.log2 + 1) + (b.log2 + 1) by omega, Nat.pow_add]
    exact Nat.mul_lt_mul_of_lt_of_le h2 (Nat.le_of_lt h4) (by omega)
  rcases Nat.lt_or_ge (a * b) (2 ^ (a.log2 + b.log2 + 1)) with h | h
  · rw [natBits_of h5 h]; omega
  · rw [natBits_of h h6]; omega

#print axioms natBits_mul
end Go.Proofs.YtolmjeglaolhlaaGreatDoor
