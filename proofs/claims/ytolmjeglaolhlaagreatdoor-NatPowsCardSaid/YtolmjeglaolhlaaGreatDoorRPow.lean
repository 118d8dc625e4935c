/- sortesref01.Pow. -/
import Derived.Test.YtolmjeglaolhlaaGreatDoorRQuo
namespace Go.Proofs.YtolmjeglaolhlaaGreatDoor
open Go.RowKit Num

theorem u8_and_one (P : Nat) (hP : P < 256) : bits .and .u8 (P : Int) 1 = ((P % 2 : Nat) : Int) := by
  show IntKind.u8.wrap ((BitVec.ofInt 8 (P : Int) &&& BitVec.ofInt 8 1).toNat : Int) = _
  rw [BitVec.toNat_and, BitVec.ofInt_natCast, BitVec.toNat_ofNat, show (BitVec.ofInt 8 1).toNat = 1 by decide, Nat.mod_eq_of_lt (by omega), Nat.and_one_is_mod, IntKind.wrap_u8]
  omega

/-- What the inner loop holds: i bits of the byte are left. -/
def RPowIn (w : World) (A M E c : Nat) (i o : Value) (wr : World) : Prop :=
  ∃ j : Nat, j ≤ 8 ∧ i = .int .i64 ((j : Int) - 1) ∧ o = .string (Enc (A ^ (E * 2 ^ (8 - j) + c / 2 ^ j) % M)) ∧ Below w.heap.size w wr

/-- What the outer loop holds: k bytes of the exponent are done. -/
def RPowOut (w : World) (A M : Nat) (e : ByteArray) (k o : Value) (wr : World) : Prop :=
  ∃ j : Nat, j ≤ e.size ∧ k = .int .i64 (j : Int) ∧ o = .string (Enc (A ^ val (e.data.toList.take j) % M)) ∧ Below w.heap.size w wr

theorem rpow_sq (x M n : Nat) : (x ^ n % M) * (x ^ n % M) % M = x ^ (2 * n) % M := by
  rw [← Nat.mul_mod, ← Nat.pow_add, Nat.two_mul]
theorem rpow_one (x M n : Nat) : (x ^ n % M) * x % M = x ^ (n + 1) % M := by
  rw [Nat.mod_mul_mod, Nat.pow_succ]

theorem bits_step (E c j : Nat) (hj : j < 8) : E * 2 ^ (8 - j) + c / 2 ^ j = 2 * (E * 2 ^ (8 - (j + 1)) + c / 2 ^ (j + 1)) + c / 2 ^ j % 2 := by
  rw [show 8 - j = (8 - (j + 1)) + 1 by omega, Nat.pow_succ, Nat.pow_succ 2 j, ← Nat.div_div_eq_div_mul]
  have := Nat.div_add_mod (c / 2 ^ j) 2
  generalize 2 ^ (8 - (j + 1)) = P
  rw [← Nat.mul_assoc, Nat.mul_add]
  omega

set_option maxRecDepth 100000 in
set_option maxHeartbeats 4000000 in
theorem RPow_pos (a e m : ByteArray) (w : World) (ha : a.size ≤ 100000000) (he : e.size ≤ 100000000) (hm : m.size ≤ 40000000) (hpos : 0 < SN m) :
    Calls Tryz.prog 15 #[.string a, .string e, .string m] w fun x w' => x = .returned (.tuple #[.string (Enc (SN a ^ SN e % SN m)), .bool true]) ∧ Below w.heap.size w w' := by
  have c1 := fun w => RQuo_pos a m w ha (by omega) hpos
  have c2 := fun w => ROfN_any 1 w (by omega)
  rw [show Enc (1 : Int).toNat = ⟨#[1]⟩ by kernel_rfl] at c2
  have c3 := fun w => RQuo_pos ⟨#[1]⟩ m w (by decide) (by omega) hpos
  rw [show SN ⟨#[1]⟩ = 1 by kernel_rfl] at c3
  have hms := SN_lt m
  have hsz : ∀ n, (Enc (n % SN m)).size ≤ 40000000 := fun n => Nat.le_trans (Enc_size_le (Nat.lt_trans (Nat.mod_lt _ hpos) hms)) hm
  have csq : ∀ n w', Calls Tryz.prog 71 #[.string (Enc (n % SN m)), .string (Enc (n % SN m))] w' fun x w'' => x = .returned (.string (Enc ((n % SN m) * (n % SN m)))) ∧ Below w'.heap.size w' w'' := fun n w' => by
    have := RMul_any (Enc (n % SN m)) (Enc (n % SN m)) w' (by have := hsz n; omega) (by have := hsz n; omega)
    rwa [SN_Enc] at this
  have cmu : ∀ n k w', Calls Tryz.prog 71 #[.string (Enc (n % SN m)), .string (Enc (k % SN m))] w' fun x w'' => x = .returned (.string (Enc ((n % SN m) * (k % SN m)))) ∧ Below w'.heap.size w' w'' := fun n k w' => by
    have := RMul_any (Enc (n % SN m)) (Enc (k % SN m)) w' (by have := hsz n; omega) (by have := hsz k; omega)
    rwa [SN_Enc, SN_Enc] at this
  have cqu : ∀ n k w', Calls Tryz.prog 70 #[.string (Enc ((n % SN m) * (k % SN m))), .string m] w' fun x w'' => x = .returned (.tuple #[.string (Enc ((n % SN m) * (k % SN m) / SN m)), .string (Enc ((n % SN m) * (k % SN m) % SN m)), .bool true]) ∧ Below w'.heap.size w' w'' := fun n k w' => by
    have hs : (Enc ((n % SN m) * (k % SN m))).size ≤ 80000000 := by
      refine Nat.le_trans (Enc_size_le (k := m.size + m.size) ?_) (by omega)
      rw [Nat.pow_add]
      exact Nat.mul_lt_mul'' (Nat.lt_trans (Nat.mod_lt _ hpos) hms) (Nat.lt_trans (Nat.mod_lt _ hpos) hms)
    have := RQuo_pos (Enc ((n % SN m) * (k % SN m))) m w' (by omega) (by omega) hpos
    rwa [SN_Enc] at this
  obtain ⟨M, hM⟩ : ∃ M, SN m = M := ⟨_, rfl⟩
  obtain ⟨A, hA⟩ : ∃ A, SN a = A := ⟨_, rfl⟩
  obtain ⟨R, hR⟩ : ∃ R, R = Enc (SN a ^ SN e % SN m) := ⟨_, rfl⟩
  rw [← hR]
  rw [hM] at c1 c3 csq cmu cqu hR
  rw [hA] at c1 hR
  have C1 := Lib.hid c1; have C2 := Lib.hid c2; have C3 := Lib.hid c3; have CSQ := Lib.hid csq; have CMU := Lib.hid cmu; have CQU := Lib.hid cqu; have HR := Lib.hid hR
  clear c1 c2 c3 csq cmu cqu hR hM hA hms hsz hpos
  go_enter Tryz.func15, Tryz.ntmps15
  go_wp2_with fail
  refine (C1.out _).mono ?_
  rintro _ w1 ⟨rfl, hb1⟩
  have HB := Lib.hid hb1; clear hb1
  go_wp2_with fail
  refine (C2.out _).mono ?_
  rintro _ w2 ⟨rfl, hb2⟩
  replace HB := Lib.hid (HB.out.trans (hb2.mono HB.out.size)); clear hb2
  go_wp2_with fail
  refine (C3.out _).mono ?_
  rintro _ w3 ⟨rfl, hb3⟩
  replace HB := Lib.hid (HB.out.trans (hb3.mono HB.out.size)); clear hb3
  go_wp2
  go_loopw [12, 14] (fun o k wr => RPowOut w (A % M) M e k o wr) (fun _ k _ => e.size - (intOf k).toNat)
  case atStart => exact ⟨0, by omega, rfl, by simp, HB.out⟩
  case round =>
    clear HB
    obtain ⟨k, hk, rfl, rfl, hbel⟩ := hrel
    have HBel := Lib.hid hbel; clear hbel
    rcases Nat.lt_or_ge k e.size with hlt | hge
    · obtain ⟨wo, rfl⟩ : ∃ wo : World, wo = wr := ⟨_, rfl⟩
      have hsn := val_take_snoc e k hlt
      have hc := e[k].toNat_lt
      obtain ⟨E, hE⟩ : ∃ E, val (e.data.toList.take k) = E := ⟨_, rfl⟩
      rw [hE] at hsn ⊢
      have HSN := Lib.hid hsn
      clear hsn hE
      go_wp2
      go_loopw [12, 15] (fun o i wr => RPowIn w (A % M) M E e[k].toNat i o wr) (fun _ i _ => (intOf i + 1).toNat)
      case atStart =>
        exact ⟨8, by omega, rfl, by rw [show E * 2 ^ (8 - 8) + e[k].toNat / 2 ^ 8 = E by rw [Nat.div_eq_of_lt hc]; simp], HBel.out⟩
      case round =>
        clear HBel
        obtain ⟨i, hi, rfl, rfl, hbel⟩ := hrel
        have HBel := Lib.hid hbel; clear hbel
        cases i with
        | zero =>
          have hfin : E * 2 ^ (8 - 0) + e[k].toNat / 2 ^ 0 = val (e.data.toList.take (k + 1)) := by rw [HSN.out]; simp
          rw [hfin]
          have HBel2 := Lib.hid HBel.out
          clear hfin
          go_wp2
          go_roundw
          case rel => exact ⟨k + 1, by omega, by go_num, rfl, HBel2.out⟩
          case measure => simp [intOf]; omega
        | succ i =>
          have e0 : (((i + 1 : Nat) : Int) - 1) = (i : Int) := by omega
          rw [e0]
          clear e0
          obtain ⟨N, hN⟩ : ∃ N, E * 2 ^ (8 - (i + 1)) + e[k].toNat / 2 ^ (i + 1) = N := ⟨_, rfl⟩
          have hst := bits_step E e[k].toNat i (by omega)
          rw [hN] at hst ⊢
          obtain ⟨P, hP⟩ : ∃ P, e[k].toNat / 2 ^ i = P := ⟨_, rfl⟩
          have hPi : ((e[k].toNat : Nat) : Int) / 2 ^ i = (P : Int) := by rw [← hP]; simp
          have hP256 : P < 256 := by rw [← hP]; exact Nat.lt_of_le_of_lt (Nat.div_le_self _ _) hc
          rw [hP] at hst
          have hand := u8_and_one P hP256
          have HST := Lib.hid hst; have HPP := Lib.hid hP
          have hsq : Enc (((A % M) ^ N % M) * ((A % M) ^ N % M) % M) = Enc ((A % M) ^ (2 * N) % M) := by rw [rpow_sq]
          have HSQ := Lib.hid hsq
          have hone : Enc (((A % M) ^ (2 * N) % M) * (A % M) % M) = Enc ((A % M) ^ (2 * N + 1) % M) := by rw [rpow_one]
          have HONE := Lib.hid hone
          clear hN hst hP hsq hone
          rcases (show P % 2 = 0 ∨ P % 2 = 1 by omega) with hb | hb
          · rw [hb] at hand
            have hand0 : bits .and .u8 (P : Int) 1 = 0 := hand
            have HB := Lib.hid hb
            clear hand hb
            go_wp2_with fail
            refine (CSQ.out _ _).mono ?_
            rintro _ w4 ⟨rfl, hb4⟩
            have HB4 := Lib.hid hb4; clear hb4
            go_wp2_with fail
            refine (CQU.out _ _ _).mono ?_
            rintro _ w5 ⟨rfl, hb5⟩
            have HB5 := Lib.hid (HB4.out.trans (hb5.mono HB4.out.size)); clear hb5
            rw [HSQ.out]
            go_wp2
            go_roundw
            case rel => exact ⟨i, by omega, rfl, by rw [HPP.out, HST.out, HB.out, Nat.add_zero], HBel.out.trans (HB5.out.mono HBel.out.size)⟩
            case measure => simp [intOf]
          · rw [hb] at hand
            have hand1 : bits .and .u8 (P : Int) 1 = 1 := hand
            have HB := Lib.hid hb
            clear hand hb
            go_wp2_with fail
            refine (CSQ.out _ _).mono ?_
            rintro _ w4 ⟨rfl, hb4⟩
            have HB4 := Lib.hid hb4; clear hb4
            go_wp2_with fail
            refine (CQU.out _ _ _).mono ?_
            rintro _ w5 ⟨rfl, hb5⟩
            have HB5 := Lib.hid (HB4.out.trans (hb5.mono HB4.out.size)); clear hb5
            rw [HSQ.out]
            go_wp2_with fail
            refine (CMU.out _ _ _).mono ?_
            rintro _ w6 ⟨rfl, hb6⟩
            have HB6 := Lib.hid (HB5.out.trans (hb6.mono HB5.out.size)); clear hb6
            go_wp2_with fail
            refine (CQU.out _ _ _).mono ?_
            rintro _ w7 ⟨rfl, hb7⟩
            have HB7 := Lib.hid (HB6.out.trans (hb7.mono HB6.out.size)); clear hb7
            rw [HONE.out]
            go_wp2
            go_roundw
            case rel => exact ⟨i, by omega, rfl, by rw [HPP.out, HST.out, HB.out], HBel.out.trans (HB7.out.mono HBel.out.size)⟩
            case measure => simp [intOf]
    · obtain rfl : k = e.size := by omega
      go_wp2
      go_ret2
      refine ⟨?_, HBel.out⟩
      rw [HR.out, List.take_of_length_le (by simp), ← Nat.pow_mod]
      rfl

set_option maxRecDepth 100000 in
set_option maxHeartbeats 400000 in
theorem RPow_zero (a e m : ByteArray) (w : World) (hm : m.size ≤ 40000000) (hz : SN m = 0) :
    Calls Tryz.prog 15 #[.string a, .string e, .string m] w fun x w' => x = .returned (.tuple #[.string ⟨#[]⟩, .bool false]) ∧ w = w' := by
  have c1 := fun w => RQuo_zero a m w (by omega) hz
  have C1 := Lib.hid c1
  clear c1 hz
  go_enter Tryz.func15, Tryz.ntmps15
  go_wp2_with fail
  refine (C1.out _).mono ?_
  rintro _ _ ⟨rfl, rfl⟩
  go_wp2_with fail
  go_ret2
  exact ⟨rfl, rfl⟩

/-- A power, with what stands for it by 0. -/
def powS (a e m : Nat) : ByteArray := if m = 0 then ⟨#[]⟩ else Enc (a ^ e % m)

theorem RPow_is (r : ByteArray) (v : Bool) (a e m : ByteArray) (w : World) (ha : a.size ≤ 100000000) (he : e.size ≤ 100000000) (hm : m.size ≤ 40000000) (h1 : powS (SN a) (SN e) (SN m) = r) (hv : decide (SN m ≠ 0) = v) :
    Calls Tryz.prog 15 #[.string a, .string e, .string m] w fun x w' => x = .returned (.tuple #[.string r, .bool v]) ∧ Below w.heap.size w w' := by
  subst h1; subst hv
  rcases Nat.eq_zero_or_pos (SN m) with h | h
  · have h0 : decide (SN m ≠ 0) = false := by simp [h]
    rw [h0]
    unfold powS
    rw [if_pos h]
    exact (RPow_zero a e m w hm h).mono fun _ _ ⟨e, h⟩ => ⟨e, by rw [← h]; exact Below.refl _ _⟩
  · have h0 : decide (SN m ≠ 0) = true := by simp; omega
    rw [h0]
    unfold powS
    rw [if_neg (by omega)]
    exact RPow_pos a e m w ha he hm h

#print axioms RPow_is
end Go.Proofs.YtolmjeglaolhlaaGreatDoor
