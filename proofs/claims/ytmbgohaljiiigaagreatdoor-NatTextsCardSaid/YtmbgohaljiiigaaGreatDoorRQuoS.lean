/- sortesref01.Quo: small numbers; the whole contract. -/
import Derived.Test.YtmbgohaljiiigaaGreatDoorRQuo
import Derived.Test.YtmbgohaljiiigaaGreatDoorRSub
namespace Go.Proofs.YtmbgohaljiiigaaGreatDoor
open Go.RowKit Num

set_option maxRecDepth 100000 in
set_option maxHeartbeats 1000000 in
theorem RQuo_small (a b : ByteArray) (w : World) (ha : a.size ≤ 100000000) (hb : b.size ≤ 100000000) (hpos : 0 < SN b) (hx : SN a < 256 ^ 7) (hy : SN b < 256 ^ 7) :
    Calls Tryz.prog 48 #[.string a, .string b] w fun e w' => e = .returned (.tuple #[.string (Enc (SN a / SN b)), .string (Enc (SN a % SN b)), .bool true]) ∧ Below w.heap.size w w' := by
  have c0 := fun w => Canon_any b w (by omega)
  have hcn : 0 < (Enc (SN b)).size := by
    rcases Nat.eq_zero_or_pos (Enc (SN b)).size with h | h
    · have := Enc_small (n := SN b) (k := 0) (by omega); simp at this; omega
    · exact h
  have hcs : (Enc (SN b)).size ≤ 100000000 := Nat.le_trans (Enc_size_le (SN_lt b)) hb
  have hcv : SN (Enc (SN b)) = SN b := SN_Enc _
  have c1 := fun w => small_yes a 7 w (by omega) (by decide) hx
  have c2 := fun w => small_yes (Enc (SN b)) 7 w (by omega) (by decide) (by rw [hcv]; exact hy)
  rw [hcv] at c2
  generalize Enc (SN b) = t at *
  have e7 : (256 : Nat) ^ 7 = 72057594037927936 := by decide
  rw [e7] at hx hy
  generalize SN a = x at *
  generalize SN b = y at *
  have hq : x / y ≤ x := Nat.div_le_self _ _
  have hr : x % y ≤ x := Nat.mod_le _ _
  have eq1 : ((x / y : Nat) : Int) = (x : Int) / (y : Int) := rfl
  have eq2 : ((x % y : Nat) : Int) = (x : Int) % (y : Int) := rfl
  have bq0 : 0 ≤ (x : Int) / (y : Int) := by rw [← eq1]; exact Int.natCast_nonneg _
  have bq1 : (x : Int) / (y : Int) ≤ 72057594037927936 := by rw [← eq1]; exact Int.le_trans (Int.ofNat_le.2 hq) (by omega)
  have br0 : 0 ≤ (x : Int) % (y : Int) := by rw [← eq2]; exact Int.natCast_nonneg _
  have br1 : (x : Int) % (y : Int) ≤ 72057594037927936 := by rw [← eq2]; exact Int.le_trans (Int.ofNat_le.2 hr) (by omega)
  have c3 := fun w => ROfN_any ((x : Int) / (y : Int)) w (by omega)
  have c4 := fun w => ROfN_any ((x : Int) % (y : Int)) w (by omega)
  rw [← eq1, Int.toNat_natCast, eq1] at c3
  rw [← eq2, Int.toNat_natCast, eq2] at c4
  have et : IntKind.i64.wrap ((x : Int).tdiv (y : Int)) = (x : Int) / (y : Int) := by
    rw [Int.tdiv_eq_ediv_of_nonneg (by omega)]
    exact IntWalk.i64_in _ (by omega)
  have et2 : IntKind.i64.wrap ((x : Int) / (y : Int)) = (x : Int) / (y : Int) := IntWalk.i64_in _ (by omega)
  have hy1 : (1 : Int) ≤ (y : Int) := by omega
  have hyn : ¬ (y : Int) = 0 := by omega
  have hym : ¬ (y : Int) = -1 := by omega
  have em : (x : Int).tmod (y : Int) = (x : Int) % (y : Int) := Int.tmod_eq_emod_of_nonneg (by omega)
  have hy0 : ((y : Int) == 0) = false := by rw [beq_eq_false_iff_ne]; omega
  have hne : ((t.size : Int) == 0) = false := by rw [beq_eq_false_iff_ne]; omega
  obtain ⟨Q, hQ⟩ : ∃ Q, Q = Enc (x / y) := ⟨_, rfl⟩
  obtain ⟨R, hR⟩ : ∃ R, R = Enc (x % y) := ⟨_, rfl⟩
  rw [← hQ] at c3 ⊢
  rw [← hR] at c4 ⊢
  have C0 := Lib.hid c0; have C1 := Lib.hid c1; have C2 := Lib.hid c2; have C3 := Lib.hid c3; have C4 := Lib.hid c4
  clear c0 c1 c2 c3 c4 hcv e7 eq1 eq2 hQ hR hq hr
  have hmx : Tryz.prog.follows .mixedOrders = true := by kernel_rfl
  go_enter Tryz.func48, Tryz.ntmps48
  go_wp2_with fail
  refine (C0.out _).mono ?_
  rintro _ _ ⟨rfl, rfl⟩
  go_wp2_with fail
  refine (C1.out _).mono ?_
  rintro _ _ ⟨rfl, rfl⟩
  go_wp2_with fail
  refine (C2.out _).mono ?_
  rintro _ _ ⟨rfl, rfl⟩
  go_wp2_with fail
  go_region_with (first | (go_at_call 45; (with_reducible refine (C3.out _).mono ?_); rintro _ w3 ⟨rfl, hb3⟩) | (go_at_call 45; (with_reducible refine (C4.out _).mono ?_); rintro _ w4 ⟨rfl, hb4⟩))
  all_goals go_wp2
  all_goals go_ret3
  all_goals
    have h3 := (Below.refl w.heap.size w).drew.trans hb3
    exact ⟨rfl, h3.trans (hb4.mono h3.size)⟩

/-- **sortesref01.Quo**. -/
theorem RQuo_pos (a b : ByteArray) (w : World) (ha : a.size ≤ 100000000) (hb : b.size ≤ 100000000) (hpos : 0 < SN b) :
    Calls Tryz.prog 48 #[.string a, .string b] w fun e w' => e = .returned (.tuple #[.string (Enc (SN a / SN b)), .string (Enc (SN a % SN b)), .bool true]) ∧ Below w.heap.size w w' := by
  by_cases h : SN a < 256 ^ 7 ∧ SN b < 256 ^ 7
  · exact RQuo_small a b w ha hb hpos h.1 h.2
  · exact RQuo_large a b w ha hb hpos h

/-- Quotient and rest, with what stands for them by 0. -/
def quoS (m n : Nat) : ByteArray := if n = 0 then ⟨#[]⟩ else Enc (m / n)
def remS (m n : Nat) : ByteArray := if n = 0 then ⟨#[]⟩ else Enc (m % n)

theorem RQuo_is (q r : ByteArray) (v : Bool) (a b : ByteArray) (w : World) (ha : a.size ≤ 100000000) (hb : b.size ≤ 100000000) (h1 : quoS (SN a) (SN b) = q) (h2 : remS (SN a) (SN b) = r) (hv : decide (SN b ≠ 0) = v) :
    Calls Tryz.prog 48 #[.string a, .string b] w fun e w' => e = .returned (.tuple #[.string q, .string r, .bool v]) ∧ Below w.heap.size w w' := by
  subst h1; subst h2; subst hv
  rcases Nat.eq_zero_or_pos (SN b) with h | h
  · have h0 : decide (SN b ≠ 0) = false := by simp [h]
    rw [h0]
    unfold quoS remS
    rw [if_pos h, if_pos h]
    exact (RQuo_zero a b w hb h).mono fun _ _ ⟨e, h⟩ => ⟨e, by rw [← h]; exact Below.refl _ _⟩
  · have h0 : decide (SN b ≠ 0) = true := by simp; omega
    rw [h0]
    unfold quoS remS
    rw [if_neg (by omega), if_neg (by omega)]
    exact RQuo_pos a b w ha hb h

theorem NQuo_is (q r : ByteArray) (v : Bool) (a b : ByteArray) (w : World) (ha : a.size ≤ 268435456) (hb : b.size ≤ 268435456) (h1 : quoS (SN a) (SN b) = q) (h2 : remS (SN a) (SN b) = r) (hv : decide (SN b ≠ 0) = v) :
    Calls Tryz.prog 47 #[.string a, .string b] w fun e w' => e = .returned (.tuple #[.string q, .string r, .bool v]) ∧ Below w.heap.size w w' := by
  subst h1; subst h2; subst hv
  rcases Nat.eq_zero_or_pos (SN b) with h | h
  · have h0 : decide (SN b ≠ 0) = false := by simp [h]
    rw [h0]
    unfold quoS remS
    rw [if_pos h, if_pos h]
    exact Quo_none a b w hb h
  · have h0 : decide (SN b ≠ 0) = true := by simp; omega
    rw [h0]
    unfold quoS remS
    rw [if_neg (by omega), if_neg (by omega)]
    exact Quo_pos a b w ha hb h

#print axioms RQuo_is
#print axioms NQuo_is
end Go.Proofs.YtmbgohaljiiigaaGreatDoor
