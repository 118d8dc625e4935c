/- sortesref01.Int, small. -/
import Derived.Test.YtmbgohaljiiigaaGreatDoorCanon
import Derived.Test.YtmbgohaljiiigaaGreatDoorIntPair
import Derived.Test.YtmbgohaljiiigaaGreatDoorRPlain
namespace Go.Proofs.YtmbgohaljiiigaaGreatDoor
open Go.RowKit Num

theorem getD_byte {t : ByteArray} {j : Nat} (h : j < t.size) : t.data.toList.getD j 0 = t[j] := by
  rw [List.getD_eq_getElem?_getD, List.getElem?_eq_getElem (by simpa using h)]
  rfl

theorem val_take_snoc (t : ByteArray) (j : Nat) (h : j < t.size) : val (t.data.toList.take (j + 1)) = val (t.data.toList.take j) * 256 + t[j].toNat := by
  rw [List.take_add_one, List.getElem?_eq_getElem (by simpa using h)]
  simp only [Option.toList_some, val_snoc]
  rfl

theorem val_take_next (t : ByteArray) (j : Nat) (h : j < t.size) : val (t.data.toList.take j) * 256 + t[j].toNat ≤ SN t := by
  rw [← val_take_snoc t j h]
  have h1 := val_take_le t.data.toList (j + 1)
  refine Nat.le_trans ?_ h1
  exact Nat.le_mul_of_pos_right _ (Nat.pow_pos (by decide))

theorem wrap_byte_step {d c : Nat} (hc : c < 256) (hb : d * 256 + c < 9223372036854775808) : wrap64 (wrap64 ((d : Int) * 256) + wrap64 (c : Int)) = ((d * 256 + c : Nat) : Int) := by
  unfold wrap64
  omega

theorem SN_ge8 {t : ByteArray} (h9 : 8 ≤ t.size) (h8 : t.size ≤ 8) : t[0].toNat * 256 ^ 7 ≤ SN t ∧ SN t < (t[0].toNat + 1) * 256 ^ 7 := by
  have := SN_ge (t := t) (by omega)
  have e : t.size - 1 = 7 := by omega
  simpa [e] using this

def RIntRel (t : ByteArray) (n k : Value) : Prop :=
  ∃ j : Nat, j ≤ t.size ∧ k = .int .i64 (j : Int) ∧ n = .int .i64 ((val (t.data.toList.take j) : Nat) : Int)

set_option maxRecDepth 100000 in
set_option maxHeartbeats 1000000 in
theorem RInt_any (s : ByteArray) (w : World) (hs : s.size ≤ 268435456) :
    Calls Tryz.prog 61 #[.string s] w fun e w' => e = .returned (intPair (SN s)) ∧ w = w' := by
  obtain ⟨R, hR⟩ : ∃ R, R = intPair (SN s) := ⟨_, rfl⟩
  rw [← hR]
  have HR := Lib.hid hR; clear hR
  go_enter Tryz.func61, Tryz.ntmps61
  go_wp2_with fail
  refine (Canon_any s _ hs).mono ?_
  rintro _ _ ⟨rfl, rfl⟩
  have hsv : SN (Enc (SN s)) = SN s := SN_Enc _
  have hbig : ∀ k, k < (Enc (SN s)).size → 256 ^ k ≤ SN s := fun k h => Enc_big h
  have hsz : (Enc (SN s)).size ≤ 268435456 := Nat.le_trans (Enc_size_le (SN_lt s)) hs
  generalize Enc (SN s) = t at *
  have HSV := Lib.hid hsv; have HBIG := Lib.hid hbig; clear hsv hbig
  rcases (show 8 < t.size ∨ t.size = 8 ∨ t.size < 8 by omega) with h | h | h
  · go_wp2
    go_ret2
    exact ⟨by rw [HR.out, intPair_ge (by have := HBIG.out 8 h; omega)]; rfl, rfl⟩
  · have hq : ((t.size : Int) == 8) = true := by rw [h]; rfl
    have hsz8 : t.size ≤ 8 := by omega
    have hsz9 : 8 ≤ t.size := by omega
    clear h hsz
    have hge := SN_ge8 hsz9 hsz8
    have hlt := t[0].toNat_lt
    rw [HSV.out] at hge
    rcases Nat.lt_or_ge 127 t[0].toNat with h1 | h1
    · have h1i : (127 : Int) < ((t[0].toNat : Nat) : Int) := by omega
      have hbig : 9223372036854775808 ≤ SN s := by
        have := hge.1
        have h2 : 128 * 256 ^ 7 ≤ t[0].toNat * 256 ^ 7 := Nat.mul_le_mul_right _ h1
        omega
      have HB := Lib.hid hbig
      clear hge hbig
      go_wp2
      all_goals go_ret2
      all_goals exact ⟨by rw [HR.out, intPair_ge HB.out]; rfl, rfl⟩
    · have h1i : ¬ (127 : Int) < ((t[0].toNat : Nat) : Int) := by omega
      have hsm : SN s < 9223372036854775808 := by
        have := hge.2
        have h2 : (t[0].toNat + 1) * 256 ^ 7 ≤ 128 * 256 ^ 7 := Nat.mul_le_mul_right _ (by omega)
        omega
      have HB := Lib.hid hsm
      clear hge hsm
      go_wp2
      go_loop [4, 5] (fun n k => RIntRel t n k) (fun _ k => t.size - (intOf k).toNat)
      case atStart => exact ⟨0, by omega, rfl, by simp⟩
      case round =>
        obtain ⟨j, hj, rfl, rfl⟩ := hrel
        rcases Nat.lt_or_ge j t.size with hlt2 | hge2
        · have h3 := val_take_next t j hlt2
          have h4 := t[j].toNat_lt
          have h5 : val (t.data.toList.take j) * 256 + t[j].toNat < 9223372036854775808 := by have := HB.out; have := HSV.out; omega
          have h6 := val_take_snoc t j hlt2
          obtain ⟨D, hD⟩ : ∃ D, val (t.data.toList.take j) = D := ⟨_, rfl⟩
          have h7 : wrap64 ((t[j].toNat : Nat) : Int) = ((t[j].toNat : Nat) : Int) := by unfold wrap64; omega
          rw [hD] at h5 h6 ⊢
          have H6 := Lib.hid h6
          clear h3 h6 hD
          go_wp2
          go_round
          case rel => exact ⟨j + 1, by omega, by go_num, by rw [H6.out]; congr 1⟩
          case measure => simp [intOf]; omega
        · obtain rfl : j = t.size := by omega
          go_wp2
          go_ret2
          refine ⟨?_, rfl⟩
          rw [HR.out, intPair_lt HB.out, List.take_of_length_le (by simp), ← HSV.out]
          rfl
  · have hsm : SN s < 9223372036854775808 := by
      have h1 := SN_lt t
      rw [HSV.out] at h1
      have h2 : (256 : Nat) ^ t.size ≤ 256 ^ 7 := Nat.pow_le_pow_right (by decide) (by omega)
      omega
    have HB := Lib.hid hsm
    clear hsm
    go_wp2
    go_loop [4, 5] (fun n k => RIntRel t n k) (fun _ k => t.size - (intOf k).toNat)
    case atStart => exact ⟨0, by omega, rfl, by simp⟩
    case round =>
      obtain ⟨j, hj, rfl, rfl⟩ := hrel
      rcases Nat.lt_or_ge j t.size with hlt2 | hge2
      · have h3 := val_take_next t j hlt2
        have h4 := t[j].toNat_lt
        have h5 : val (t.data.toList.take j) * 256 + t[j].toNat < 9223372036854775808 := by have := HB.out; have := HSV.out; omega
        have h6 := val_take_snoc t j hlt2
        obtain ⟨D, hD⟩ : ∃ D, val (t.data.toList.take j) = D := ⟨_, rfl⟩
        have h7 : wrap64 ((t[j].toNat : Nat) : Int) = ((t[j].toNat : Nat) : Int) := by unfold wrap64; omega
        rw [hD] at h5 h6 ⊢
        have H6 := Lib.hid h6
        clear h3 h6 hD
        go_wp2
        go_round
        case rel => exact ⟨j + 1, by omega, by go_num, by rw [H6.out]; congr 1⟩
        case measure => simp [intOf]; omega
      · obtain rfl : j = t.size := by omega
        go_wp2
        go_ret2
        refine ⟨?_, rfl⟩
        rw [HR.out, intPair_lt HB.out, List.take_of_length_le (by simp), ← HSV.out]
        rfl

set_option maxRecDepth 100000 in
theorem small_yes (s : ByteArray) (k : Nat) (w : World) (hs : s.size ≤ 268435456) (hk : k ≤ 7) (h : SN s < 256 ^ k) :
    Calls Tryz.prog 76 #[.string s, .int .i64 (k : Int)] w fun e w' => e = .returned (.tuple #[.int .i64 ((SN s : Nat) : Int), .bool true]) ∧ w = w' := by
  have hsz : (Enc (SN s)).size ≤ k := Enc_size_le h
  have hi := RInt_any s w hs
  have hlt : SN s < 9223372036854775808 := Nat.lt_of_lt_of_le h (Nat.le_trans (Nat.pow_le_pow_right (by decide) hk) (by decide))
  rw [intPair_lt hlt] at hi
  have HI := Lib.hid hi
  clear hi hlt h
  go_enter Tryz.func76, Tryz.ntmps76
  go_wp2_with fail
  refine (Canon_any s _ hs).mono ?_
  rintro _ _ ⟨rfl, rfl⟩
  generalize Enc (SN s) = t at *
  go_wp2_with fail
  refine HI.out.mono ?_
  rintro _ _ ⟨rfl, rfl⟩
  go_wp2_with fail
  go_ret2
  exact ⟨rfl, rfl⟩

set_option maxRecDepth 100000 in
theorem small_no (s : ByteArray) (k : Nat) (w : World) (hs : s.size ≤ 268435456) (h : 256 ^ k ≤ SN s) :
    Calls Tryz.prog 76 #[.string s, .int .i64 (k : Int)] w fun e w' => e = .returned (.tuple #[.int .i64 0, .bool false]) ∧ w = w' := by
  have hsz : k < (Enc (SN s)).size := by
    rcases Nat.lt_or_ge k (Enc (SN s)).size with h1 | h1
    · exact h1
    · have := Enc_small h1; omega
  clear h
  go_enter Tryz.func76, Tryz.ntmps76
  go_wp2_with fail
  refine (Canon_any s _ hs).mono ?_
  rintro _ _ ⟨rfl, rfl⟩
  generalize Enc (SN s) = t at *
  go_wp2_with fail
  go_ret2
  exact ⟨rfl, rfl⟩

theorem small_any (s : ByteArray) (k : Nat) (w : World) (hs : s.size ≤ 268435456) (hk : k ≤ 7) (b : Bool) (hb : b = decide (SN s < 256 ^ k)) :
    Calls Tryz.prog 76 #[.string s, .int .i64 (k : Int)] w fun e w' => ∃ z : Int, e = .returned (.tuple #[.int .i64 z, .bool b]) ∧ (b = true → z = (SN s : Int)) ∧ w = w' := by
  rcases Nat.lt_or_ge (SN s) (256 ^ k) with h | h
  · rw [decide_eq_true h] at hb
    subst hb
    exact (small_yes s k w hs hk h).mono fun _ _ ⟨e, h⟩ => ⟨_, e, (fun _ => rfl), h⟩
  · rw [decide_eq_false (by omega)] at hb
    subst hb
    exact (small_no s k w hs h).mono fun _ _ ⟨e, h⟩ => ⟨_, e, (fun h => by cases h), h⟩

#print axioms RInt_any
#print axioms small_yes
#print axioms small_no
end Go.Proofs.YtmbgohaljiiigaaGreatDoor
