/- The contracts of nat, said with what comes out by name. -/
import Derived.Test.YtmbgohaljiiigaaGreatDoorNatA
import Derived.Test.YtmbgohaljiiigaaGreatDoorNatB
import Derived.Test.YtmbgohaljiiigaaGreatDoorNatI
namespace Go.Proofs.YtmbgohaljiiigaaGreatDoor
open Go.RowKit Num

theorem Add_is (s : ByteArray) (a b : ByteArray) (w : World) (ha : a.size ≤ 268435456) (hb : b.size ≤ 268435456) (h : Enc (SN a + SN b) = s) :
    Calls Tryz.prog 67 #[.string a, .string b] w fun e w' => e = .returned (.string s) ∧ Below w.heap.size w w' := by rw [← h]; exact Add_any a b w ha hb
theorem Mul_is (s : ByteArray) (a b : ByteArray) (w : World) (ha : a.size ≤ 268435456) (hb : b.size ≤ 268435456) (h : Enc (SN a * SN b) = s) :
    Calls Tryz.prog 58 #[.string a, .string b] w fun e w' => e = .returned (.string s) ∧ Below w.heap.size w w' := by rw [← h]; exact Mul_any a b w ha hb
theorem Cmp_is (z : Int) (a b : ByteArray) (w : World) (ha : a.size ≤ 268435456) (hb : b.size ≤ 268435456) (h : cmpZ (SN a) (SN b) = z) :
    Calls Tryz.prog 68 #[.string a, .string b] w fun e w' => e = .returned (.int .i64 z) ∧ Below w.heap.size w w' := by rw [← h]; exact Cmp_any a b w ha hb
theorem Bits_is (n : Nat) (a : ByteArray) (w : World) (ha : a.size ≤ 268435456) (h : natBits (SN a) = n) :
    Calls Tryz.prog 62 #[.string a] w fun e w' => e = .returned (.int .i64 (n : Int)) ∧ Below w.heap.size w w' := by rw [← h]; exact Bits_any a w ha
theorem Right_is (v : Bool) (a : ByteArray) (w : World) (h : rightB a.data.toList = v) :
    Calls Tryz.prog 64 #[.string a] w fun e w' => e = .returned (.bool v) ∧ w = w' := by rw [← h]; exact Right_any a w
theorem Quo_is (q r : ByteArray) (a b : ByteArray) (w : World) (ha : a.size ≤ 268435456) (hb : b.size ≤ 268435456) (hp : 0 < SN b) (h1 : Enc (SN a / SN b) = q) (h2 : Enc (SN a % SN b) = r) :
    Calls Tryz.prog 47 #[.string a, .string b] w fun e w' => e = .returned (.tuple #[.string q, .string r, .bool true]) ∧ Below w.heap.size w w' := by rw [← h1, ← h2]; exact Quo_pos a b w ha hb hp
theorem Enc_zero : Enc 0 = ⟨#[]⟩ := by kernel_rfl
theorem Quo_none (a b : ByteArray) (w : World) (hb : b.size ≤ 268435456) (hz : SN b = 0) :
    Calls Tryz.prog 47 #[.string a, .string b] w fun e w' => e = .returned (.tuple #[.string ⟨#[]⟩, .string ⟨#[]⟩, .bool false]) ∧ Below w.heap.size w w' := by
  have := Quo_zero a b w hb hz
  rwa [Enc_zero] at this
theorem Sub_is (s : ByteArray) (a b : ByteArray) (w : World) (ha : a.size ≤ 268435456) (hb : b.size ≤ 268435456) (hle : SN b ≤ SN a) (h : Enc (SN a - SN b) = s) :
    Calls Tryz.prog 66 #[.string a, .string b] w fun e w' => e = .returned (.tuple #[.string s, .bool true]) ∧ Below w.heap.size w w' := by rw [← h]; exact Sub_le a b w ha hb hle

theorem rightB_Enc (n : Nat) : rightB (Enc n).data.toList = true := (rightB_iff _).2 (by show Rt (enc n).toArray.toList; simpa using enc_rt n)

/-- How long a sum, a product is. -/
theorem size_lt {a : ByteArray} {k : Nat} (h : a.size ≤ k) : SN a < 256 ^ k := Nat.lt_of_lt_of_le (SN_lt a) (Nat.pow_le_pow_right (by omega) h)

theorem natBits_pos {n : Nat} (h : 0 < n) : 0 < natBits n := by unfold natBits; rw [if_neg (by omega)]; omega
theorem natBits_le {n k : Nat} (h : n < 2 ^ k) : natBits n ≤ k := by
  unfold natBits
  split
  · omega
  · rename_i h0
    have := (Nat.log2_lt h0).2 h
    omega

theorem natBits_bytes {n k : Nat} (h : n < 256 ^ k) : natBits n ≤ 8 * k := natBits_le (by rwa [Nat.pow_mul])

/-- The bits of a product are those of the factors, or one less. -/
theorem natBits_mul {a b : Nat} (ha : 0 < a) (hb : 0 < b) : natBits a + natBits b = natBits (a * b) ∨ natBits a + natBits b = natBits (a * b) + 1 := by
  have h1 : 2 ^ a.log2 ≤ a := Nat.log2_self_le (by omega)
  have h2 : a < 2 ^ (a.log2 + 1) := Nat.lt_log2_self
  have h3 : 2 ^ b.log2 ≤ b := Nat.log2_self_le (by omega)
  have h4 : b < 2 ^ (b.log2 + 1) := Nat.lt_log2_self
  have e1 : natBits a = a.log2 + 1 := by unfold natBits; rw [if_neg (by omega)]
  have e2 : natBits b = b.log2 + 1 := by unfold natBits; rw [if_neg (by omega)]
  have h5 : 2 ^ (a.log2 + b.log2) ≤ a * b := by rw [Nat.pow_add]; exact Nat.mul_le_mul h1 h3
  have h6 : a * b < 2 ^ (a.log2 + b.log2 + 1 + 1) := by
    rw [show a.log2 + b.log2 + 1 + 1 = (a.log2 + 1) + (b.log2 + 1) by omega, Nat.pow_add]
    exact Nat.mul_lt_mul_of_lt_of_le h2 (Nat.le_of_lt h4) (by omega)
  rcases Nat.lt_or_ge (a * b) (2 ^ (a.log2 + b.log2 + 1)) with h | h
  · rw [natBits_of h5 h]; omega
  · rw [natBits_of h h6]; omega

#print axioms natBits_mul
end Go.Proofs.YtmbgohaljiiigaaGreatDoor
