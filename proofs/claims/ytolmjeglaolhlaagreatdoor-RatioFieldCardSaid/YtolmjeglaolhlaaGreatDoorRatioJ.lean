/- sortesref02: Mod, Made. -/
import Derived.Test.YtolmjeglaolhlaaGreatDoorRatioI
namespace Go.Proofs.YtolmjeglaolhlaaGreatDoor
open Go.RowKit Num

set_option maxRecDepth 100000 in
/-- **sortesref02.Mod**. -/
theorem Mod_any (a m : Int) (w : World) (_h1 : -9223372036854775808 ≤ a) (_h2 : a ≤ 9223372036854775807) (hm : 0 < m) (hm2 : m ≤ 9223372036854775807) :
    Calls Tryz.prog 24 #[.int .i64 a, .int .i64 m] w fun e w' => e = .returned (.int .i64 (a % m)) ∧ w = w' := by
  have hm0 : m ≠ 0 := by omega
  have e0 : (m == 0) = false := by rw [beq_eq_false_iff_ne]; exact hm0
  obtain ⟨r, hr⟩ : ∃ r, r = a.tmod m := ⟨_, rfl⟩
  have hr1 : -m < r ∧ r < m := by
    rw [hr]
    constructor
    · have h := Int.tmod_lt_of_pos (-a) hm
      rw [Int.neg_tmod] at h
      omega
    · exact Int.tmod_lt_of_pos a hm
  have hrm : a % m = if r < 0 then r + m else r := by
    rw [hr]
    have h := Int.tmod_add_mul_tdiv a m
    have hr1' := hr1
    rw [hr] at hr1'
    split
    · rename_i hlt
      rw [show a = (a.tmod m + m) + m * (a.tdiv m - 1) by rw [Int.mul_sub]; omega, Int.add_mul_emod_self_left]
      rw [show (a.tmod m + m + m * (a.tdiv m - 1)).tmod m = a.tmod m by congr 1; rw [Int.mul_sub]; omega]
      exact Int.emod_eq_of_lt (by omega) (by omega)
    · rename_i hge
      have e2 : a % m = (a.tmod m) % m := by
        conv => lhs; rw [← h]
        rw [Int.add_mul_emod_self_left]
      rw [e2]
      exact Int.emod_eq_of_lt (by omega) hr1'.2
  have ew : IntKind.i64.wrap r = r := by rw [IntKind.wrap_i64]; omega
  have ew2 : r < 0 → IntKind.i64.wrap (r + m) = r + m := by intro h; rw [IntKind.wrap_i64]; omega
  have ew5 : r < 0 → wrap64 (r + m) = r + m := by intro h; unfold wrap64; omega
  by_cases hlt : r < 0
  · rw [hrm, if_pos hlt]
    have ew3 := ew2 hlt
    have ew4 := ew5 hlt
    clear ew2 ew5 hrm hr1
    go_enter Tryz.func24, Tryz.ntmps24
    go_wp2_with fail
    go_ret
    exact ⟨by simp [ew4, ← hr, hlt], rfl⟩
  · rw [hrm, if_neg hlt]
    clear ew2 ew5 hrm hr1
    go_enter Tryz.func24, Tryz.ntmps24
    go_wp2_with fail
    go_ret
    exact ⟨by simp [← hr], rfl⟩

/-- A number that three numbers determine. -/
def madeN (a b c : Int) : Nat := if c % 4 = 1 then (a % 4611686018427387904).toNat else if c % 4 = 2 then (a % 4611686018427387904).toNat * (b % 4611686018427387904).toNat else if c % 4 = 3 then (a % 7).toNat else (a % 1000).toNat
def madeD (a b c : Int) : Nat := if c % 4 = 1 then (1 + b % 4611686018427387904).toNat else if c % 4 = 2 then (1 + b % 4611686018427387904).toNat * (1 + a % 2147483648).toNat else if c % 4 = 3 then (1 + b % 7).toNat else (1 + b % 60).toNat
def madeR (a b c : Int) : Rat := low (decide (a < 0)) (madeN a b c) (madeD a b c)
theorem madeD_pos (a b c : Int) : 0 < madeD a b c := by
  unfold madeD
  split
  · omega
  · split
    · exact Nat.mul_pos (by omega) (by omega)
    · split <;> omega
theorem mul_lt' {a b m n : Nat} (h : a < m) (g : b < n) : a * b < m * n := Nat.mul_lt_mul'' h g
theorem madeN_lt (a b c : Int) : madeN a b c < 256 ^ 16 := by
  unfold madeN
  split
  · exact Nat.lt_of_lt_of_le (show _ < 4611686018427387904 by omega) (by decide)
  · split
    · exact Nat.lt_of_lt_of_le (mul_lt' (m := 4611686018427387904) (n := 4611686018427387904) (by omega) (by omega)) (by decide)
    · split
      · exact Nat.lt_of_lt_of_le (show _ < 7 by omega) (by decide)
      · exact Nat.lt_of_lt_of_le (show _ < 1000 by omega) (by decide)
theorem madeD_lt (a b c : Int) : madeD a b c < 256 ^ 16 := by
  unfold madeD
  split
  · exact Nat.lt_of_lt_of_le (show _ < 4611686018427387905 by omega) (by decide)
  · split
    · exact Nat.lt_of_lt_of_le (mul_lt' (m := 4611686018427387905) (n := 2147483649) (by omega) (by omega)) (by decide)
    · split
      · exact Nat.lt_of_lt_of_le (show _ < 8 by omega) (by decide)
      · exact Nat.lt_of_lt_of_le (show _ < 61 by omega) (by decide)
theorem madeR_sz (a b c : Int) : Sz 16 (madeR a b c) := Sz.low (Nat.ne_of_gt (madeD_pos a b c)) (madeN_lt a b c) (madeD_lt a b c)

theorem lt_pow_le {x k n : Nat} (h : x < 256 ^ k) (hk : k ≤ n) : x < 256 ^ n := Nat.lt_of_lt_of_le h (Nat.pow_le_pow_right (by decide) hk)
/-- The box of three numbers, and the result. -/
def RM (w : World) (a b c : Int) (W : World) : Prop :=
  Blk W w.heap.size 46 [.int .i64 a, .int .i64 b, .int .i64 c] ∧ Blk W (w.heap.size + 1) 39 [.bool false, .string ⟨#[]⟩, .string ⟨#[]⟩] ∧ Below w.heap.size w W
section
variable {w X Y : World} {a b c : Int}
theorem RM.start (w : World) (a b c : Int) : RM w a b c ((w.alloc (.cells #[.int .i64 a, .int .i64 b, .int .i64 c] 46)).alloc (.cells #[.bool false, .string ⟨#[]⟩, .string ⟨#[]⟩] 39)) := by
  refine ⟨(Blk.new w 46 [.int .i64 a, .int .i64 b, .int .i64 c]).alloc _, ?_, ((Below.refl _ _).alloc (Nat.le_refl _) _).alloc (by simp) _⟩
  have h := Blk.new (w.alloc (.cells #[.int .i64 a, .int .i64 b, .int .i64 c] 46)) 39 [.bool false, .string ⟨#[]⟩, .string ⟨#[]⟩]
  rwa [World.size_alloc] at h
theorem RM.on (h : RM w a b c X) (g : Below X.heap.size X Y) : RM w a b c Y := ⟨h.1.on g, h.2.1.on g, h.2.2.trans (g.mono h.2.2.size)⟩
theorem RM.drew (h : RM w a b c X) : RM w a b c X.drew := h.on ((Below.refl _ _).drew)
theorem RM.see (h : RM w a b c X) :
    (X.cell? ⟨w.heap.size, 0, none⟩ = some (.int .i64 a) ∧ X.cell? ⟨w.heap.size, 1, none⟩ = some (.int .i64 b) ∧ X.cell? ⟨w.heap.size, 2, none⟩ = some (.int .i64 c)) ∧
    (X.cell? ⟨w.heap.size + 1, 0, none⟩ = some (.bool false) ∧ X.cell? ⟨w.heap.size + 1, 1, none⟩ = some (.string ⟨#[]⟩) ∧ X.cell? ⟨w.heap.size + 1, 2, none⟩ = some (.string ⟨#[]⟩)) ∧
    (X.frozen? ⟨w.heap.size + 1, 0, none⟩ = false ∧ X.frozen? ⟨w.heap.size + 1, 1, none⟩ = false ∧ X.frozen? ⟨w.heap.size + 1, 2, none⟩ = false) :=
  ⟨⟨h.1.cell 0, h.1.cell 1, h.1.cell 2⟩, ⟨h.2.1.cell 0, h.2.1.cell 1, h.2.1.cell 2⟩, ⟨h.2.1.free 0, h.2.1.free 1, h.2.1.free 2⟩⟩
theorem RM.fin (h : RM w a b c X) (u : Bool) (x y : ByteArray) :
    Blk (((X.setCell ⟨w.heap.size + 1, 0, none⟩ (.bool u)).setCell ⟨w.heap.size + 1, 1, none⟩ (.string x)).setCell ⟨w.heap.size + 1, 2, none⟩ (.string y)) (w.heap.size + 1) 39 [.bool u, .string x, .string y] ∧
    Below w.heap.size w (((X.setCell ⟨w.heap.size + 1, 0, none⟩ (.bool u)).setCell ⟨w.heap.size + 1, 1, none⟩ (.string x)).setCell ⟨w.heap.size + 1, 2, none⟩ (.string y)) :=
  ⟨set3 h.2.1 _ _ _, bel3 h.2.2 (Nat.le_succ _) _ _ _⟩
end

set_option maxRecDepth 100000 in
set_option maxHeartbeats 2000000 in
theorem Made3_0 (a b c : Int) (w : World) (ha : -9223372036854775808 ≤ a ∧ a ≤ 9223372036854775807) (hb : -9223372036854775808 ≤ b ∧ b ≤ 9223372036854775807) (hc : -9223372036854775808 ≤ c ∧ c ≤ 9223372036854775807) (hk : c % 4 = 0) :
    Calls Tryz.prog 28 #[.agg #[.int .i64 a, .int .i64 b, .int .i64 c]] w fun e w' => e = .returned (rv (madeR a b c)) ∧ Below w.heap.size w w' := by
  have m1 := fun w => Mod_any a 1000 w ha.1 ha.2 (by decide) (by decide)
  have m2 := fun w => Mod_any b 60 w hb.1 hb.2 (by decide) (by decide)
  have m3 := fun w => Mod_any c 4 w hc.1 hc.2 (by decide) (by decide)
  rw [hk] at m3
  have o1 := fun w => ROfN_any (a % 1000) w (by omega)
  have o2 := fun w => ROfN_any (1 + b % 60) w (by omega)
  have e1 : IntKind.i64.wrap (1 + b % 60) = 1 + b % 60 := by rw [IntKind.wrap_i64]; omega
  have hN : madeN a b c = (a % 1000).toNat := by unfold madeN; rw [hk]; rfl
  have hD : madeD a b c = (1 + b % 60).toNat := by unfold madeD; rw [hk]; rfl
  have hl := fun w => rlowest_any (decide (a < 0)) (madeN a b c) (madeD a b c) w (lt_pow_le (n := 2000000) (madeN_lt a b c) (by decide)) (lt_pow_le (n := 2000000) (madeD_lt a b c) (by decide)) (Nat.ne_of_gt (madeD_pos a b c))
  rw [show low (decide (a < 0)) (madeN a b c) (madeD a b c) = madeR a b c from rfl, hN, hD] at hl
  unfold rv at hl ⊢
  generalize decide ((madeR a b c).num < 0) = u at *
  generalize Enc (madeR a b c).num.natAbs = x at *
  generalize Enc (madeR a b c).den = y at *
  have M1 := Lib.hid m1; have M2 := Lib.hid m2; have M3 := Lib.hid m3; have O1 := Lib.hid o1; have O2 := Lib.hid o2; have L := Lib.hid hl
  have R := Lib.hid (RM.start w a b c)
  clear m1 m2 m3 o1 o2 hl hN hD
  go_enter Tryz.func28, Tryz.ntmps28
  go_upto_region 1 with fail
  generalize (w.alloc (.cells #[.int .i64 a, .int .i64 b, .int .i64 c] 46)).alloc (.cells #[.bool false, .string ⟨#[]⟩, .string ⟨#[]⟩] 39) = W at *
  obtain ⟨⟨c0, c1, c2⟩, ⟨e0, e1, e2⟩, f0, f1, f2⟩ := R.out.see
  go_wp2_with fail
  refine (M1.out _).mono ?_
  rintro _ _ ⟨rfl, rfl⟩
  go_wp2_with fail
  refine (O1.out _).mono ?_
  rintro _ wn ⟨rfl, hn⟩
  replace R := Lib.hid (R.out.on hn)
  clear hn
  clear c0 c1 c2 e0 e1 e2 f0 f1 f2
  obtain ⟨⟨c0, c1, c2⟩, ⟨e0, e1, e2⟩, f0, f1, f2⟩ := R.out.see
  go_wp2_with fail
  refine (M2.out _).mono ?_
  rintro _ _ ⟨rfl, rfl⟩
  go_wp2_with fail
  refine (O2.out _).mono ?_
  rintro _ wn ⟨rfl, hn⟩
  replace R := Lib.hid (R.out.on hn)
  clear hn
  clear c0 c1 c2 e0 e1 e2 f0 f1 f2
  obtain ⟨⟨c0, c1, c2⟩, ⟨e0, e1, e2⟩, f0, f1, f2⟩ := R.out.see
  go_wp2_with fail
  refine (M3.out _).mono ?_
  rintro _ _ ⟨rfl, rfl⟩
  go_wp2_with fail
  refine (L.out _).mono ?_
  rintro _ wn ⟨rfl, hn⟩
  replace R := Lib.hid (R.out.on hn)
  clear hn
  clear c0 c1 c2 e0 e1 e2 f0 f1 f2
  obtain ⟨⟨c0, c1, c2⟩, ⟨e0, e1, e2⟩, f0, f1, f2⟩ := R.out.see
  go_wp2_with fail
  exact ret_rat rfl rfl (R.out.fin u x y).1 rfl ⟨rfl, (R.out.fin u x y).2⟩

set_option maxRecDepth 100000 in
set_option maxHeartbeats 2000000 in
theorem Made3_1 (a b c : Int) (w : World) (ha : -9223372036854775808 ≤ a ∧ a ≤ 9223372036854775807) (hb : -9223372036854775808 ≤ b ∧ b ≤ 9223372036854775807) (hc : -9223372036854775808 ≤ c ∧ c ≤ 9223372036854775807) (hk : c % 4 = 1) :
    Calls Tryz.prog 28 #[.agg #[.int .i64 a, .int .i64 b, .int .i64 c]] w fun e w' => e = .returned (rv (madeR a b c)) ∧ Below w.heap.size w w' := by
  have m1 := fun w => Mod_any a 1000 w ha.1 ha.2 (by decide) (by decide)
  have m2 := fun w => Mod_any b 60 w hb.1 hb.2 (by decide) (by decide)
  have m3 := fun w => Mod_any c 4 w hc.1 hc.2 (by decide) (by decide)
  rw [hk] at m3
  have o1 := fun w => ROfN_any (a % 1000) w (by omega)
  have o2 := fun w => ROfN_any (1 + b % 60) w (by omega)
  have e1 : IntKind.i64.wrap (1 + b % 60) = 1 + b % 60 := by rw [IntKind.wrap_i64]; omega
  have m4 := fun w => Mod_any a 4611686018427387904 w ha.1 ha.2 (by decide) (by decide)
  have m5 := fun w => Mod_any b 4611686018427387904 w hb.1 hb.2 (by decide) (by decide)
  have o4 := fun w => ROfN_any (a % 4611686018427387904) w (by omega)
  have o5 := fun w => ROfN_any (1 + b % 4611686018427387904) w (by omega)
  have e2 : IntKind.i64.wrap (1 + b % 4611686018427387904) = 1 + b % 4611686018427387904 := by rw [IntKind.wrap_i64]; omega
  have hN : madeN a b c = (a % 4611686018427387904).toNat := by unfold madeN; rw [hk]; rfl
  have hD : madeD a b c = (1 + b % 4611686018427387904).toNat := by unfold madeD; rw [hk]; rfl
  have hl := fun w => rlowest_any (decide (a < 0)) (madeN a b c) (madeD a b c) w (lt_pow_le (n := 2000000) (madeN_lt a b c) (by decide)) (lt_pow_le (n := 2000000) (madeD_lt a b c) (by decide)) (Nat.ne_of_gt (madeD_pos a b c))
  rw [show low (decide (a < 0)) (madeN a b c) (madeD a b c) = madeR a b c from rfl, hN, hD] at hl
  unfold rv at hl ⊢
  generalize decide ((madeR a b c).num < 0) = u at *
  generalize Enc (madeR a b c).num.natAbs = x at *
  generalize Enc (madeR a b c).den = y at *
  have M1 := Lib.hid m1; have M2 := Lib.hid m2; have M3 := Lib.hid m3; have O1 := Lib.hid o1; have O2 := Lib.hid o2; have M4 := Lib.hid m4; have M5 := Lib.hid m5; have O4 := Lib.hid o4; have O5 := Lib.hid o5; have L := Lib.hid hl
  have R := Lib.hid (RM.start w a b c)
  clear m1 m2 m3 o1 o2 m4 m5 o4 o5 hl hN hD
  go_enter Tryz.func28, Tryz.ntmps28
  go_upto_region 1 with fail
  generalize (w.alloc (.cells #[.int .i64 a, .int .i64 b, .int .i64 c] 46)).alloc (.cells #[.bool false, .string ⟨#[]⟩, .string ⟨#[]⟩] 39) = W at *
  obtain ⟨⟨c0, c1, c2⟩, ⟨e0, e1, e2⟩, f0, f1, f2⟩ := R.out.see
  go_wp2_with fail
  refine (M1.out _).mono ?_
  rintro _ _ ⟨rfl, rfl⟩
  go_wp2_with fail
  refine (O1.out _).mono ?_
  rintro _ wn ⟨rfl, hn⟩
  replace R := Lib.hid (R.out.on hn)
  clear hn
  clear c0 c1 c2 e0 e1 e2 f0 f1 f2
  obtain ⟨⟨c0, c1, c2⟩, ⟨e0, e1, e2⟩, f0, f1, f2⟩ := R.out.see
  go_wp2_with fail
  refine (M2.out _).mono ?_
  rintro _ _ ⟨rfl, rfl⟩
  go_wp2_with fail
  refine (O2.out _).mono ?_
  rintro _ wn ⟨rfl, hn⟩
  replace R := Lib.hid (R.out.on hn)
  clear hn
  clear c0 c1 c2 e0 e1 e2 f0 f1 f2
  obtain ⟨⟨c0, c1, c2⟩, ⟨e0, e1, e2⟩, f0, f1, f2⟩ := R.out.see
  go_wp2_with fail
  refine (M3.out _).mono ?_
  rintro _ _ ⟨rfl, rfl⟩
  go_wp2_with fail
  refine (M4.out _).mono ?_
  rintro _ _ ⟨rfl, rfl⟩
  go_wp2_with fail
  refine (O4.out _).mono ?_
  rintro _ wn ⟨rfl, hn⟩
  replace R := Lib.hid (R.out.on hn)
  clear hn
  clear c0 c1 c2 e0 e1 e2 f0 f1 f2
  obtain ⟨⟨c0, c1, c2⟩, ⟨e0, e1, e2⟩, f0, f1, f2⟩ := R.out.see
  go_wp2_with fail
  refine (M5.out _).mono ?_
  rintro _ _ ⟨rfl, rfl⟩
  go_wp2_with fail
  refine (O5.out _).mono ?_
  rintro _ wn ⟨rfl, hn⟩
  replace R := Lib.hid (R.out.on hn)
  clear hn
  clear c0 c1 c2 e0 e1 e2 f0 f1 f2
  obtain ⟨⟨c0, c1, c2⟩, ⟨e0, e1, e2⟩, f0, f1, f2⟩ := R.out.see
  go_wp2_with fail
  refine (L.out _).mono ?_
  rintro _ wn ⟨rfl, hn⟩
  replace R := Lib.hid (R.out.on hn)
  clear hn
  clear c0 c1 c2 e0 e1 e2 f0 f1 f2
  obtain ⟨⟨c0, c1, c2⟩, ⟨e0, e1, e2⟩, f0, f1, f2⟩ := R.out.see
  go_wp2_with fail
  exact ret_rat rfl rfl (R.out.fin u x y).1 rfl ⟨rfl, (R.out.fin u x y).2⟩

set_option maxRecDepth 100000 in
set_option maxHeartbeats 2000000 in
theorem Made3_2 (a b c : Int) (w : World) (ha : -9223372036854775808 ≤ a ∧ a ≤ 9223372036854775807) (hb : -9223372036854775808 ≤ b ∧ b ≤ 9223372036854775807) (hc : -9223372036854775808 ≤ c ∧ c ≤ 9223372036854775807) (hk : c % 4 = 2) :
    Calls Tryz.prog 28 #[.agg #[.int .i64 a, .int .i64 b, .int .i64 c]] w fun e w' => e = .returned (rv (madeR a b c)) ∧ Below w.heap.size w w' := by
  have m1 := fun w => Mod_any a 1000 w ha.1 ha.2 (by decide) (by decide)
  have m2 := fun w => Mod_any b 60 w hb.1 hb.2 (by decide) (by decide)
  have m3 := fun w => Mod_any c 4 w hc.1 hc.2 (by decide) (by decide)
  rw [hk] at m3
  have o1 := fun w => ROfN_any (a % 1000) w (by omega)
  have o2 := fun w => ROfN_any (1 + b % 60) w (by omega)
  have e1 : IntKind.i64.wrap (1 + b % 60) = 1 + b % 60 := by rw [IntKind.wrap_i64]; omega
  have m4 := fun w => Mod_any a 4611686018427387904 w ha.1 ha.2 (by decide) (by decide)
  have m5 := fun w => Mod_any b 4611686018427387904 w hb.1 hb.2 (by decide) (by decide)
  have m6 := fun w => Mod_any a 2147483648 w ha.1 ha.2 (by decide) (by decide)
  have o4 := fun w => ROfN_any (a % 4611686018427387904) w (by omega)
  have o5 := fun w => ROfN_any (b % 4611686018427387904) w (by omega)
  have o6 := fun w => ROfN_any (1 + b % 4611686018427387904) w (by omega)
  have o7 := fun w => ROfN_any (1 + a % 2147483648) w (by omega)
  have e2 : IntKind.i64.wrap (1 + b % 4611686018427387904) = 1 + b % 4611686018427387904 := by rw [IntKind.wrap_i64]; omega
  have e3 : IntKind.i64.wrap (1 + a % 2147483648) = 1 + a % 2147483648 := by rw [IntKind.wrap_i64]; omega
  have z4 : (Enc (a % 4611686018427387904).toNat).size ≤ 8 := Enc_size_le (by omega)
  have z5 : (Enc (b % 4611686018427387904).toNat).size ≤ 8 := Enc_size_le (by omega)
  have z6 : (Enc (1 + b % 4611686018427387904).toNat).size ≤ 8 := Enc_size_le (by omega)
  have z7 : (Enc (1 + a % 2147483648).toNat).size ≤ 8 := Enc_size_le (by omega)
  have u1 := fun w => RMul_is (Enc ((a % 4611686018427387904).toNat * (b % 4611686018427387904).toNat)) (Enc (a % 4611686018427387904).toNat) (Enc (b % 4611686018427387904).toNat) w (by omega) (by omega) (by rw [SN_Enc, SN_Enc])
  have u2 := fun w => RMul_is (Enc ((1 + b % 4611686018427387904).toNat * (1 + a % 2147483648).toNat)) (Enc (1 + b % 4611686018427387904).toNat) (Enc (1 + a % 2147483648).toNat) w (by omega) (by omega) (by rw [SN_Enc, SN_Enc])
  have hN : madeN a b c = (a % 4611686018427387904).toNat * (b % 4611686018427387904).toNat := by unfold madeN; rw [hk]; rfl
  have hD : madeD a b c = (1 + b % 4611686018427387904).toNat * (1 + a % 2147483648).toNat := by unfold madeD; rw [hk]; rfl
  have hl := fun w => rlowest_any (decide (a < 0)) (madeN a b c) (madeD a b c) w (lt_pow_le (n := 2000000) (madeN_lt a b c) (by decide)) (lt_pow_le (n := 2000000) (madeD_lt a b c) (by decide)) (Nat.ne_of_gt (madeD_pos a b c))
  rw [show low (decide (a < 0)) (madeN a b c) (madeD a b c) = madeR a b c from rfl, hN, hD] at hl
  unfold rv at hl ⊢
  generalize decide ((madeR a b c).num < 0) = u at *
  generalize Enc (madeR a b c).num.natAbs = x at *
  generalize Enc (madeR a b c).den = y at *
  have M1 := Lib.hid m1; have M2 := Lib.hid m2; have M3 := Lib.hid m3; have O1 := Lib.hid o1; have O2 := Lib.hid o2; have M4 := Lib.hid m4; have M5 := Lib.hid m5; have M6 := Lib.hid m6; have O4 := Lib.hid o4; have O5 := Lib.hid o5; have O6 := Lib.hid o6; have O7 := Lib.hid o7; have U1 := Lib.hid u1; have U2 := Lib.hid u2; have L := Lib.hid hl
  have R := Lib.hid (RM.start w a b c)
  clear m1 m2 m3 o1 o2 m4 m5 m6 o4 o5 o6 o7 u1 u2 hl hN hD
  go_enter Tryz.func28, Tryz.ntmps28
  go_upto_region 1 with fail
  generalize (w.alloc (.cells #[.int .i64 a, .int .i64 b, .int .i64 c] 46)).alloc (.cells #[.bool false, .string ⟨#[]⟩, .string ⟨#[]⟩] 39) = W at *
  obtain ⟨⟨c0, c1, c2⟩, ⟨e0, e1, e2⟩, f0, f1, f2⟩ := R.out.see
  go_wp2_with fail
  refine (M1.out _).mono ?_
  rintro _ _ ⟨rfl, rfl⟩
  go_wp2_with fail
  refine (O1.out _).mono ?_
  rintro _ wn ⟨rfl, hn⟩
  replace R := Lib.hid (R.out.on hn)
  clear hn
  clear c0 c1 c2 e0 e1 e2 f0 f1 f2
  obtain ⟨⟨c0, c1, c2⟩, ⟨e0, e1, e2⟩, f0, f1, f2⟩ := R.out.see
  go_wp2_with fail
  refine (M2.out _).mono ?_
  rintro _ _ ⟨rfl, rfl⟩
  go_wp2_with fail
  refine (O2.out _).mono ?_
  rintro _ wn ⟨rfl, hn⟩
  replace R := Lib.hid (R.out.on hn)
  clear hn
  clear c0 c1 c2 e0 e1 e2 f0 f1 f2
  obtain ⟨⟨c0, c1, c2⟩, ⟨e0, e1, e2⟩, f0, f1, f2⟩ := R.out.see
  go_wp2_with fail
  refine (M3.out _).mono ?_
  rintro _ _ ⟨rfl, rfl⟩
  go_wp2_with fail
  go_region_held3 (fun w' => w'.cell? ⟨w.heap.size, 0, none⟩ = some (.int .i64 a) ∧ w'.cell? ⟨w.heap.size, 1, none⟩ = some (.int .i64 b) ∧ w'.cell? ⟨w.heap.size, 2, none⟩ = some (.int .i64 c))
    (first | with_reducible exact r4.see.1 | with_reducible exact r3.see.1 | with_reducible exact r2.see.1 | go_keep)
    ((first
      | (go_at_call 24; with_reducible refine (M4.out _).mono ?_; rintro _ _ ⟨rfl, rfl⟩)
      | (go_at_call 24; with_reducible refine (M5.out _).mono ?_; rintro _ _ ⟨rfl, rfl⟩)
      | (go_at_call 16; with_reducible refine (O4.out _).mono ?_; rintro _ w2 ⟨rfl, h2⟩; have r2 := R.out.drew.on h2)
      | (go_at_call 16; with_reducible refine (O5.out _).mono ?_; rintro _ w3 ⟨rfl, h3⟩; have r3 := r2.on h3)
      | (go_at_call 71; with_reducible refine (U1.out _).mono ?_; rintro _ w4 ⟨rfl, h4⟩; have r4 := r3.on h4)
      | fail))
  replace R := Lib.hid r4
  clear r2 r3 r4 h2 h3 h4
  clear c0 c1 c2 e0 e1 e2 f0 f1 f2
  obtain ⟨⟨c0, c1, c2⟩, ⟨e0, e1, e2⟩, f0, f1, f2⟩ := R.out.see
  go_wp2_with fail
  go_region_held3 (fun w' => w'.cell? ⟨w.heap.size, 0, none⟩ = some (.int .i64 a) ∧ w'.cell? ⟨w.heap.size, 1, none⟩ = some (.int .i64 b) ∧ w'.cell? ⟨w.heap.size, 2, none⟩ = some (.int .i64 c))
    (first | with_reducible exact r4.see.1 | with_reducible exact r3.see.1 | with_reducible exact r2.see.1 | go_keep)
    ((first
      | (go_at_call 24; with_reducible refine (M5.out _).mono ?_; rintro _ _ ⟨rfl, rfl⟩)
      | (go_at_call 24; with_reducible refine (M6.out _).mono ?_; rintro _ _ ⟨rfl, rfl⟩)
      | (go_at_call 16; with_reducible refine (O6.out _).mono ?_; rintro _ w2 ⟨rfl, h2⟩; have r2 := R.out.drew.on h2)
      | (go_at_call 16; with_reducible refine (O7.out _).mono ?_; rintro _ w3 ⟨rfl, h3⟩; have r3 := r2.on h3)
      | (go_at_call 71; with_reducible refine (U2.out _).mono ?_; rintro _ w4 ⟨rfl, h4⟩; have r4 := r3.on h4)
      | fail))
  replace R := Lib.hid r4
  clear r2 r3 r4 h2 h3 h4
  clear c0 c1 c2 e0 e1 e2 f0 f1 f2
  obtain ⟨⟨c0, c1, c2⟩, ⟨e0, e1, e2⟩, f0, f1, f2⟩ := R.out.see
  go_wp2_with fail
  refine (L.out _).mono ?_
  rintro _ wn ⟨rfl, hn⟩
  replace R := Lib.hid (R.out.on hn)
  clear hn
  clear c0 c1 c2 e0 e1 e2 f0 f1 f2
  obtain ⟨⟨c0, c1, c2⟩, ⟨e0, e1, e2⟩, f0, f1, f2⟩ := R.out.see
  go_wp2_with fail
  exact ret_rat rfl rfl (R.out.fin u x y).1 rfl ⟨rfl, (R.out.fin u x y).2⟩

set_option maxRecDepth 100000 in
set_option maxHeartbeats 2000000 in
theorem Made3_3 (a b c : Int) (w : World) (ha : -9223372036854775808 ≤ a ∧ a ≤ 9223372036854775807) (hb : -9223372036854775808 ≤ b ∧ b ≤ 9223372036854775807) (hc : -9223372036854775808 ≤ c ∧ c ≤ 9223372036854775807) (hk : c % 4 = 3) :
    Calls Tryz.prog 28 #[.agg #[.int .i64 a, .int .i64 b, .int .i64 c]] w fun e w' => e = .returned (rv (madeR a b c)) ∧ Below w.heap.size w w' := by
  have m1 := fun w => Mod_any a 1000 w ha.1 ha.2 (by decide) (by decide)
  have m2 := fun w => Mod_any b 60 w hb.1 hb.2 (by decide) (by decide)
  have m3 := fun w => Mod_any c 4 w hc.1 hc.2 (by decide) (by decide)
  rw [hk] at m3
  have o1 := fun w => ROfN_any (a % 1000) w (by omega)
  have o2 := fun w => ROfN_any (1 + b % 60) w (by omega)
  have e1 : IntKind.i64.wrap (1 + b % 60) = 1 + b % 60 := by rw [IntKind.wrap_i64]; omega
  have m4 := fun w => Mod_any a 7 w ha.1 ha.2 (by decide) (by decide)
  have m5 := fun w => Mod_any b 7 w hb.1 hb.2 (by decide) (by decide)
  have o4 := fun w => ROfN_any (a % 7) w (by omega)
  have o5 := fun w => ROfN_any (1 + b % 7) w (by omega)
  have e2 : IntKind.i64.wrap (1 + b % 7) = 1 + b % 7 := by rw [IntKind.wrap_i64]; omega
  have hN : madeN a b c = (a % 7).toNat := by unfold madeN; rw [hk]; rfl
  have hD : madeD a b c = (1 + b % 7).toNat := by unfold madeD; rw [hk]; rfl
  have hl := fun w => rlowest_any (decide (a < 0)) (madeN a b c) (madeD a b c) w (lt_pow_le (n := 2000000) (madeN_lt a b c) (by decide)) (lt_pow_le (n := 2000000) (madeD_lt a b c) (by decide)) (Nat.ne_of_gt (madeD_pos a b c))
  rw [show low (decide (a < 0)) (madeN a b c) (madeD a b c) = madeR a b c from rfl, hN, hD] at hl
  unfold rv at hl ⊢
  generalize decide ((madeR a b c).num < 0) = u at *
  generalize Enc (madeR a b c).num.natAbs = x at *
  generalize Enc (madeR a b c).den = y at *
  have M1 := Lib.hid m1; have M2 := Lib.hid m2; have M3 := Lib.hid m3; have O1 := Lib.hid o1; have O2 := Lib.hid o2; have M4 := Lib.hid m4; have M5 := Lib.hid m5; have O4 := Lib.hid o4; have O5 := Lib.hid o5; have L := Lib.hid hl
  have R := Lib.hid (RM.start w a b c)
  clear m1 m2 m3 o1 o2 m4 m5 o4 o5 hl hN hD
  go_enter Tryz.func28, Tryz.ntmps28
  go_upto_region 1 with fail
  generalize (w.alloc (.cells #[.int .i64 a, .int .i64 b, .int .i64 c] 46)).alloc (.cells #[.bool false, .string ⟨#[]⟩, .string ⟨#[]⟩] 39) = W at *
  obtain ⟨⟨c0, c1, c2⟩, ⟨e0, e1, e2⟩, f0, f1, f2⟩ := R.out.see
  go_wp2_with fail
  refine (M1.out _).mono ?_
  rintro _ _ ⟨rfl, rfl⟩
  go_wp2_with fail
  refine (O1.out _).mono ?_
  rintro _ wn ⟨rfl, hn⟩
  replace R := Lib.hid (R.out.on hn)
  clear hn
  clear c0 c1 c2 e0 e1 e2 f0 f1 f2
  obtain ⟨⟨c0, c1, c2⟩, ⟨e0, e1, e2⟩, f0, f1, f2⟩ := R.out.see
  go_wp2_with fail
  refine (M2.out _).mono ?_
  rintro _ _ ⟨rfl, rfl⟩
  go_wp2_with fail
  refine (O2.out _).mono ?_
  rintro _ wn ⟨rfl, hn⟩
  replace R := Lib.hid (R.out.on hn)
  clear hn
  clear c0 c1 c2 e0 e1 e2 f0 f1 f2
  obtain ⟨⟨c0, c1, c2⟩, ⟨e0, e1, e2⟩, f0, f1, f2⟩ := R.out.see
  go_wp2_with fail
  refine (M3.out _).mono ?_
  rintro _ _ ⟨rfl, rfl⟩
  go_wp2_with fail
  refine (M4.out _).mono ?_
  rintro _ _ ⟨rfl, rfl⟩
  go_wp2_with fail
  refine (O4.out _).mono ?_
  rintro _ wn ⟨rfl, hn⟩
  replace R := Lib.hid (R.out.on hn)
  clear hn
  clear c0 c1 c2 e0 e1 e2 f0 f1 f2
  obtain ⟨⟨c0, c1, c2⟩, ⟨e0, e1, e2⟩, f0, f1, f2⟩ := R.out.see
  go_wp2_with fail
  refine (M5.out _).mono ?_
  rintro _ _ ⟨rfl, rfl⟩
  go_wp2_with fail
  refine (O5.out _).mono ?_
  rintro _ wn ⟨rfl, hn⟩
  replace R := Lib.hid (R.out.on hn)
  clear hn
  clear c0 c1 c2 e0 e1 e2 f0 f1 f2
  obtain ⟨⟨c0, c1, c2⟩, ⟨e0, e1, e2⟩, f0, f1, f2⟩ := R.out.see
  go_wp2_with fail
  refine (L.out _).mono ?_
  rintro _ wn ⟨rfl, hn⟩
  replace R := Lib.hid (R.out.on hn)
  clear hn
  clear c0 c1 c2 e0 e1 e2 f0 f1 f2
  obtain ⟨⟨c0, c1, c2⟩, ⟨e0, e1, e2⟩, f0, f1, f2⟩ := R.out.see
  go_wp2_with fail
  exact ret_rat rfl rfl (R.out.fin u x y).1 rfl ⟨rfl, (R.out.fin u x y).2⟩

/-- **sortesref02.Made**. -/
theorem Made3_any (a b c : Int) (w : World) (ha : -9223372036854775808 ≤ a ∧ a ≤ 9223372036854775807) (hb : -9223372036854775808 ≤ b ∧ b ≤ 9223372036854775807) (hc : -9223372036854775808 ≤ c ∧ c ≤ 9223372036854775807) :
    Calls Tryz.prog 28 #[.agg #[.int .i64 a, .int .i64 b, .int .i64 c]] w fun e w' => e = .returned (rv (madeR a b c)) ∧ Below w.heap.size w w' := by
  rcases (show c % 4 = 0 ∨ c % 4 = 1 ∨ c % 4 = 2 ∨ c % 4 = 3 by omega) with h | h | h | h
  · exact Made3_0 a b c w ha hb hc h
  · exact Made3_1 a b c w ha hb hc h
  · exact Made3_2 a b c w ha hb hc h
  · exact Made3_3 a b c w ha hb hc h

#print axioms Made3_any
end Go.Proofs.YtolmjeglaolhlaaGreatDoor
