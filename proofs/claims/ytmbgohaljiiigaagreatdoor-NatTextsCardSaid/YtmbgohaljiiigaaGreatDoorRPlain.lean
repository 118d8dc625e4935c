/- Plain facts on canonical strings: how long they are, how they compare, their bits. No program in sight. -/
import Derived.Test.YtmbgohaljiiigaaGreatDoorNum
import GoSem.Op.String
namespace Go.Proofs.YtmbgohaljiiigaaGreatDoor
namespace Num

theorem Enc_big {n k : Nat} (h : k < (Enc n).size) : 256 ^ k ≤ n := by
  rcases Nat.lt_or_ge n (256 ^ k) with h1 | h1
  · have := Enc_size_le h1; omega
  · exact h1

theorem Enc_small {n k : Nat} (h : (Enc n).size ≤ k) : n < 256 ^ k := by
  have h1 := SN_lt (Enc n)
  rw [SN_Enc] at h1
  exact Nat.lt_of_lt_of_le h1 (Nat.pow_le_pow_right (by decide) h)

/-- The first byte of a string and its number. -/
theorem SN_ge {t : ByteArray} (h : 0 < t.size) : t[0].toNat * 256 ^ (t.size - 1) ≤ SN t ∧ SN t < (t[0].toNat + 1) * 256 ^ (t.size - 1) := by
  have e : t.data.toList = t[0] :: t.data.toList.drop 1 := by
    have h1 := List.drop_eq_getElem_cons (l := t.data.toList) (i := 0) (by simpa using h)
    rw [List.drop_zero] at h1
    exact h1
  have h2 : SN t = val (t[0] :: t.data.toList.drop 1) := by
    show val t.data.toList = _
    rw [← e]
  have hl : (t.data.toList.drop 1).length = t.size - 1 := by simp
  rw [h2, val_cons, hl]
  have := val_lt (t.data.toList.drop 1)
  rw [hl] at this
  constructor
  · omega
  · rw [Nat.add_mul, Nat.one_mul]; omega

theorem Enc_first {n : Nat} (h : 0 < (Enc n).size) : (Enc n)[0].toNat ≠ 0 := by
  have hr : Rt (enc n) := enc_rt n
  have e : (Enc n).data.toList = enc n := by show (enc n).toArray.toList = _; simp
  intro h0
  unfold Rt at hr
  apply hr
  rw [← e]
  have h1 := List.drop_eq_getElem_cons (l := (Enc n).data.toList) (i := 0) (by simpa using h)
  rw [List.drop_zero] at h1
  rw [h1]
  simp
  exact UInt8.toNat_inj.1 h0

/-- Strings of one length compare as their numbers. -/
theorem bytesLess_val : ∀ (a b : List UInt8), a.length = b.length → Go.Op.bytesLess a b = decide (val a < val b)
  | [], [], _ => by simp [Go.Op.bytesLess]
  | x :: a, y :: b, h => by
    have hl : a.length = b.length := by simpa using h
    have ih := bytesLess_val a b hl
    have h1 := val_lt a
    have h2 := val_lt b
    rw [← hl] at h2
    unfold Go.Op.bytesLess
    rw [ih, val_cons, val_cons, ← hl]
    generalize 256 ^ a.length = P at *
    generalize val a = va at *
    generalize val b = vb at *
    rcases Nat.lt_trichotomy x.toNat y.toNat with hxy | hxy | hxy
    · have e1 : decide (x < y) = true := by simpa [UInt8.lt_iff_toNat_lt] using hxy
      have h3 : (x.toNat + 1) * P ≤ y.toNat * P := Nat.mul_le_mul_right _ hxy
      rw [Nat.add_mul, Nat.one_mul] at h3
      rw [e1]
      simp
      omega
    · have e1 : decide (x < y) = false := by simp [UInt8.lt_iff_toNat_lt]; omega
      have e2 : (x == y) = true := by rw [beq_iff_eq]; exact UInt8.toNat_inj.1 hxy
      rw [e1, e2, hxy]
      simp
    · have e1 : decide (x < y) = false := by simp [UInt8.lt_iff_toNat_lt]; omega
      have e2 : (x == y) = false := by rw [beq_eq_false_iff_ne]; intro e; rw [e] at hxy; omega
      have h3 : (y.toNat + 1) * P ≤ x.toNat * P := Nat.mul_le_mul_right _ hxy
      rw [Nat.add_mul, Nat.one_mul] at h3
      rw [e1, e2]
      simp
      omega

/-- The bits of a number whose first byte is known. -/
theorem natBits_first {n c k : Nat} (hc : 0 < c) (h1 : c * 256 ^ k ≤ n) (h2 : n < (c + 1) * 256 ^ k) : natBits n = 8 * k + natBits c := by
  have e : natBits c = c.log2 + 1 := by unfold natBits; rw [if_neg (by omega)]
  have h3 : 2 ^ c.log2 ≤ c := Nat.log2_self_le (by omega)
  have h4 : c + 1 ≤ 2 ^ (c.log2 + 1) := Nat.lt_log2_self
  have p : (256 : Nat) ^ k = 2 ^ (8 * k) := by rw [Nat.pow_mul]
  rw [e, show 8 * k + (c.log2 + 1) = (8 * k + c.log2) + 1 by omega]
  apply natBits_of
  · refine Nat.le_trans ?_ h1
    rw [p, Nat.pow_add, Nat.mul_comm]
    exact Nat.mul_le_mul_right _ h3
  · refine Nat.lt_of_lt_of_le h2 ?_
    rw [p, show 8 * k + c.log2 + 1 = (c.log2 + 1) + 8 * k by omega, Nat.pow_add]
    exact Nat.mul_le_mul_right _ h4

theorem natBits_half {d : Nat} (h : 0 < d) : natBits d = natBits (d / 2) + 1 := by
  rcases Nat.eq_zero_or_pos (d / 2) with h0 | h0
  · have : d = 1 := by omega
    subst this
    decide
  · unfold natBits
    rw [if_neg (by omega), if_neg (by omega), Nat.log2_def d, if_pos (by omega)]

theorem natBits_lt256 {d : Nat} (h : d < 256) : natBits d ≤ 8 := by
  unfold natBits
  split
  · omega
  · rename_i h0
    have := (Nat.log2_lt h0).2 (show d < 2 ^ 8 by omega)
    omega

/-- A part of a string at its beginning. -/
theorem val_take_le (t : List UInt8) (j : Nat) : val (t.take j) * 256 ^ (t.length - j) ≤ val t := by
  have h := val_append (t.take j) (t.drop j)
  rw [List.take_append_drop] at h
  rw [h]
  simp

#print axioms bytesLess_val
#print axioms natBits_first
#print axioms natBits_half
end Num
end Go.Proofs.YtmbgohaljiiigaaGreatDoor
