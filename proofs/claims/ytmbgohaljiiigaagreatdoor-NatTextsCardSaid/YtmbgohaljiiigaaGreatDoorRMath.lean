/- Plain arithmetic of the reference's digits. No program in sight. -/
import Derived.Test.YtmbgohaljiiigaaGreatDoorNum
namespace Go.Proofs.YtmbgohaljiiigaaGreatDoor
namespace Num

theorem vl_snoc_take (B : Nat) (o : List Nat) (d k : Nat) (ho : o.length = k) : vl B (o ++ [d]) = vl B o + B ^ k * d := by rw [vl_snoc, ho]

/-- One digit of a difference. -/
theorem minus_step {B k x y br : Nat} {o u v : List Nat} (hx : u.getD k 0 = x) (hy : v.getD k 0 = y) (hbr : br ≤ 1) (hxB : x < B) (hyB : y < B) (ho : o.length = k)
    (hv : vl B o + vl B (v.take k) = vl B (u.take k) + br * B ^ k) (d br' : Nat) (hd : d + br + y = x + br' * B) : vl B (o ++ [d]) + vl B (v.take (k + 1)) = vl B (u.take (k + 1)) + br' * B ^ (k + 1) := by
  have _ := hbr; have _ := hxB; have _ := hyB
  rw [vl_snoc_take B o d k ho, vl_take_succ', vl_take_succ', hx, hy, Nat.pow_succ]
  generalize B ^ k = P at *
  have h1 : P * (d + br + y) = P * (x + br' * B) := by rw [hd]
  grind

/-- One digit of a sum. -/
theorem add_step {B k x y c : Nat} {o u v : List Nat} (hx : u.getD k 0 = x) (hy : v.getD k 0 = y) (ho : o.length = k)
    (hv : vl B o + c * B ^ k = vl B (u.take k) + vl B (v.take k)) (d c' : Nat) (hd : d + B * c' = c + x + y) : vl B (o ++ [d]) + c' * B ^ (k + 1) = vl B (u.take (k + 1)) + vl B (v.take (k + 1)) := by
  rw [vl_snoc_take B o d k ho, vl_take_succ', vl_take_succ', hx, hy, Nat.pow_succ]
  generalize B ^ k = P at *
  have h1 : P * (d + B * c') = P * (c + x + y) := by rw [hd]
  grind

/-- One digit of a multiple. -/
theorem times_step {B k x m c : Nat} {o u : List Nat} (hx : u.getD k 0 = x) (ho : o.length = k)
    (hv : vl B o + c * B ^ k = vl B (u.take k) * m) (d c' : Nat) (hd : d + B * c' = x * m + c) : vl B (o ++ [d]) + c' * B ^ (k + 1) = vl B (u.take (k + 1)) * m := by
  rw [vl_snoc_take B o d k ho, vl_take_succ', hx, Nat.pow_succ]
  generalize B ^ k = P at *
  have h1 : P * (d + B * c') = P * (x * m + c) := by rw [hd]
  grind

/-- One digit of a quotient. -/
theorem quo_step (B X V x : Nat) (hV : 0 < V) : (x + B * X) / V = B * (X / V) + (x + B * (X % V)) / V ∧ (x + B * X) % V = (x + B * (X % V)) % V := by
  have h := Nat.div_add_mod X V
  have e : x + B * X = V * (B * (X / V)) + (x + B * (X % V)) := by
    generalize X / V = q at *
    generalize X % V = r at *
    rw [← h]
    grind
  rw [e]
  constructor
  · rw [Nat.mul_add_div hV]
  · rw [Nat.mul_add_mod]

theorem quo_digit {B X V x : Nat} (hV : 0 < V) (hx : x < B) : (x + B * (X % V)) / V < B := by
  have h := Nat.mod_lt X hV
  rw [Nat.div_lt_iff_lt_mul hV]
  calc x + B * (X % V) < B + B * (X % V) := by omega
    _ = B * (X % V + 1) := by rw [Nat.mul_add, Nat.mul_one, Nat.add_comm]
    _ ≤ B * V := Nat.mul_le_mul_left _ h

/-- Three bytes of a digit. -/
theorem three_bytes {d : Nat} (h : d < 16777216) : d / 65536 * 65536 + d / 256 % 256 * 256 + d % 256 = d ∧ d / 65536 < 256 := by omega

theorem val_three (b : List UInt8) (x y z : Nat) (hx : x < 256) (hy : y < 256) (hz : z < 256) : val (b ++ [UInt8.ofNat x, UInt8.ofNat y, UInt8.ofNat z]) = val b * 16777216 + (x * 65536 + y * 256 + z) := by
  rw [show [UInt8.ofNat x, UInt8.ofNat y, UInt8.ofNat z] = [UInt8.ofNat x] ++ [UInt8.ofNat y] ++ [UInt8.ofNat z] by rfl, ← List.append_assoc, ← List.append_assoc, val_snoc, val_snoc, val_snoc]
  have e : ∀ n, n < 256 → (UInt8.ofNat n).toNat = n := fun n hn => by simp; omega
  rw [e x hx, e y hy, e z hz]
  omega

#print axioms quo_step
#print axioms val_three
end Num
end Go.Proofs.YtmbgohaljiiigaaGreatDoor
