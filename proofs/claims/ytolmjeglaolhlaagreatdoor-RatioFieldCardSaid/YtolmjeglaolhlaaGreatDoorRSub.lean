/- sortesref01.Sub, and the reference's contracts with what comes out by name. -/
import Derived.Test.YtolmjeglaolhlaaGreatDoorRAdd
import Derived.Test.YtolmjeglaolhlaaGreatDoorRMul
import Derived.Test.YtolmjeglaolhlaaGreatDoorRDigit
import Derived.Test.YtolmjeglaolhlaaGreatDoorROwn
import Derived.Test.YtolmjeglaolhlaaGreatDoorNatA
namespace Go.Proofs.YtolmjeglaolhlaaGreatDoor
open Go.RowKit Num

set_option maxRecDepth 100000 in
set_option maxHeartbeats 800000 in
theorem RSub_le (a b : ByteArray) (w : World) (ha : a.size ≤ 100000000) (hb : b.size ≤ 100000000) (hle : SN b ≤ SN a) :
    Calls Tryz.prog 92 #[.string a, .string b] w fun e w' => e = .returned (.tuple #[.string (Enc (SN a - SN b)), .bool true]) ∧ Below w.heap.size w w' := by
  have c1 := fun w => RCmp_any a b w (by omega) (by omega)
  have hz : 0 ≤ cmpZ (SN a) (SN b) := by unfold cmpZ; rw [if_neg (by omega)]; split <;> decide
  generalize cmpZ (SN a) (SN b) = z at c1 hz
  have C1 := Lib.hid c1; have HLE := Lib.hid hle
  clear c1 hle
  go_enter Tryz.func92, Tryz.ntmps92
  go_wp2_with fail
  refine (C1.out _).mono ?_
  rintro _ _ ⟨rfl, rfl⟩
  go_wp2_with fail
  refine (rof_any a _ (by omega)).mono ?_
  rintro e w1 ⟨va, la, rfl, hsa, hda, hta, hva, hla, hb1⟩
  have HVA := Lib.hid hva; clear hva
  go_wp2_with fail
  refine (rof_any b _ (by omega)).mono ?_
  rintro e w2 ⟨vb, lb, rfl, hsb, hdb, htb, hvb, hlb, hb2⟩
  have HVB := Lib.hid hvb; clear hvb
  have hll : lb.length ≤ la.length := by
    have := HLE.out; have := HVA.out; have := HVB.out
    rcases Nat.lt_or_ge la.length lb.length with h | h
    · have := vl_lt_of_length (b := 16777216) (by decide) hda htb h; omega
    · exact h
  have hle : vl 16777216 lb ≤ vl 16777216 la := by rw [HVA.out, HVB.out]; exact HLE.out
  have HLE2 := Lib.hid hle
  clear hle
  go_wp2_with fail
  refine (rminus_any (hsa.below hb2) hsb hda hdb hll HLE2.out (by omega)).mono ?_
  rintro e w3 ⟨vc, lc, rfl, hsc, hdc, htc, hvc, hlc, hb3⟩
  have HVC := Lib.hid hvc; clear hvc
  go_wp2_with fail
  refine (rnumber_any hsc hdc (by omega)).mono ?_
  rintro e w4 ⟨rfl, hb4⟩
  have hB := (hb1.trans (hb2.mono hb1.size)).trans ((hb3.trans (hb4.mono hb3.size)).mono (Nat.le_trans hb1.size hb2.size))
  go_wp2_with fail
  go_ret2
  exact ⟨by rw [HVC.out, HVA.out, HVB.out]; rfl, hB⟩

set_option maxRecDepth 100000 in
set_option maxHeartbeats 800000 in
theorem RSub_gt (a b : ByteArray) (w : World) (ha : a.size ≤ 100000000) (hb : b.size ≤ 100000000) (hlt : SN a < SN b) :
    Calls Tryz.prog 92 #[.string a, .string b] w fun e w' => e = .returned (.tuple #[.string ⟨#[]⟩, .bool false]) ∧ Below w.heap.size w w' := by
  have c1 := fun w => RCmp_any a b w (by omega) (by omega)
  rw [cmpZ_lt hlt] at c1
  have C1 := Lib.hid c1
  clear c1 hlt
  go_enter Tryz.func92, Tryz.ntmps92
  go_wp2_with fail
  refine (C1.out _).mono ?_
  rintro _ _ ⟨rfl, rfl⟩
  go_wp2_with fail
  go_ret2
  exact ⟨rfl, Below.refl _ _⟩

theorem RAdd_is (s : ByteArray) (a b : ByteArray) (w : World) (ha : a.size ≤ 100000000) (hb : b.size ≤ 100000000) (h : Enc (SN a + SN b) = s) :
    Calls Tryz.prog 13 #[.string a, .string b] w fun e w' => e = .returned (.string s) ∧ Below w.heap.size w w' := by rw [← h]; exact RAdd_any a b w ha hb
theorem RMul_is (s : ByteArray) (a b : ByteArray) (w : World) (ha : a.size ≤ 100000000) (hb : b.size ≤ 100000000) (h : Enc (SN a * SN b) = s) :
    Calls Tryz.prog 71 #[.string a, .string b] w fun e w' => e = .returned (.string s) ∧ Below w.heap.size w w' := by rw [← h]; exact RMul_any a b w ha hb
theorem RCmp_is (z : Int) (a b : ByteArray) (w : World) (ha : a.size ≤ 268435456) (hb : b.size ≤ 268435456) (h : cmpZ (SN a) (SN b) = z) :
    Calls Tryz.prog 84 #[.string a, .string b] w fun e w' => e = .returned (.int .i64 z) ∧ w = w' := by rw [← h]; exact RCmp_any a b w ha hb

/-- What a difference is. -/
def subPair (m n : Nat) : Value := if n ≤ m then .tuple #[.string (Enc (m - n)), .bool true] else .tuple #[.string ⟨#[]⟩, .bool false]
def subStr (m n : Nat) : ByteArray := if n ≤ m then Enc (m - n) else ⟨#[]⟩

theorem RSub_is (s : ByteArray) (v : Bool) (a b : ByteArray) (w : World) (ha : a.size ≤ 100000000) (hb : b.size ≤ 100000000) (h : subStr (SN a) (SN b) = s) (hv : decide (SN b ≤ SN a) = v) :
    Calls Tryz.prog 92 #[.string a, .string b] w fun e w' => e = .returned (.tuple #[.string s, .bool v]) ∧ Below w.heap.size w w' := by
  rcases Nat.lt_or_ge (SN a) (SN b) with h1 | h1
  · rw [decide_eq_false (by omega)] at hv
    unfold subStr at h
    rw [if_neg (by omega)] at h
    subst h; subst hv
    exact RSub_gt a b w ha hb h1
  · rw [decide_eq_true h1] at hv
    unfold subStr at h
    rw [if_pos h1] at h
    subst h; subst hv
    exact RSub_le a b w ha hb h1

theorem NSub_is (s : ByteArray) (v : Bool) (a b : ByteArray) (w : World) (ha : a.size ≤ 268435456) (hb : b.size ≤ 268435456) (h : subStr (SN a) (SN b) = s) (hv : decide (SN b ≤ SN a) = v) :
    Calls Tryz.prog 56 #[.string a, .string b] w fun e w' => e = .returned (.tuple #[.string s, .bool v]) ∧ Below w.heap.size w w' := by
  rcases Nat.lt_or_ge (SN a) (SN b) with h1 | h1
  · rw [decide_eq_false (by omega)] at hv
    unfold subStr at h
    rw [if_neg (by omega)] at h
    subst h; subst hv
    have := Sub_gt a b w ha hb h1
    rwa [Enc_zero] at this
  · rw [decide_eq_true h1] at hv
    unfold subStr at h
    rw [if_pos h1] at h
    subst h; subst hv
    exact Sub_le a b w ha hb h1

#print axioms RSub_is
end Go.Proofs.YtolmjeglaolhlaaGreatDoor
