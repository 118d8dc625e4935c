/- sortesref01.Bits, Right. -/
import Derived.Test.YtmbgohaljiiigaaGreatDoorCanon
import Derived.Test.YtmbgohaljiiigaaGreatDoorRPlain
namespace Go.Proofs.YtmbgohaljiiigaaGreatDoor
open Go.RowKit Num

set_option maxRecDepth 100000 in
set_option maxHeartbeats 800000 in
theorem RRight_any (s : ByteArray) (w : World) :
    Calls Tryz.prog 65 #[.string s] w fun e w' => e = .returned (.bool (rightB s.data.toList)) ∧ w = w' := by
  obtain ⟨⟨l⟩⟩ := s
  cases l with
  | nil =>
    go_enter Tryz.func65, Tryz.ntmps65
    go_wp2
    go_ret
    exact ⟨rfl, rfl⟩
  | cons c l =>
    go_enter Tryz.func65, Tryz.ntmps65
    go_wp2
    go_ret
    refine ⟨?_, rfl⟩
    show Ending.returned (Value.bool (((c.toNat : Nat) : Int) != 0)) = Ending.returned (Value.bool (c != 0))
    have h : (((c.toNat : Nat) : Int) != 0) = (c != 0) := by
      by_cases h0 : c = 0
      · subst h0; rfl
      · have h1 : c.toNat ≠ 0 := fun e => h0 (UInt8.toNat_inj.1 e)
        have e1 : (((c.toNat : Nat) : Int) != 0) = true := by rw [bne_iff_ne]; omega
        have e2 : (c != 0) = true := by rw [bne_iff_ne]; exact h0
        rw [e1, e2]
    rw [h]

def RBitsRel (R : Nat) (n d : Value) : Prop := ∃ (k c : Nat), c < 256 ∧ d = .int .i64 (c : Int) ∧ n = .int .i64 (k : Int) ∧ k + natBits c = R

set_option maxRecDepth 100000 in
set_option maxHeartbeats 1000000 in
theorem RBits_any (s : ByteArray) (w : World) (hs : s.size ≤ 268435456) :
    Calls Tryz.prog 63 #[.string s] w fun e w' => e = .returned (.int .i64 ((natBits (SN s) : Nat) : Int)) ∧ w = w' := by
  obtain ⟨R, hR⟩ : ∃ R, R = natBits (SN s) := ⟨_, rfl⟩
  rw [← hR]
  have HR := Lib.hid hR; clear hR
  go_enter Tryz.func63, Tryz.ntmps63
  go_wp2_with fail
  refine (Canon_any s _ hs).mono ?_
  rintro _ _ ⟨rfl, rfl⟩
  have hsv : SN (Enc (SN s)) = SN s := SN_Enc _
  have hsz : (Enc (SN s)).size ≤ 268435456 := Nat.le_trans (Enc_size_le (SN_lt s)) hs
  have hf : ∀ h : 0 < (Enc (SN s)).size, (Enc (SN s))[0].toNat ≠ 0 := fun h => Enc_first h
  generalize Enc (SN s) = t at *
  have HSV := Lib.hid hsv; have HF := Lib.hid hf; clear hsv hf
  rcases Nat.eq_zero_or_pos t.size with h0 | h0
  · have hv : natBits (SN s) = 0 := by
      have h1 := SN_lt t
      rw [h0, HSV.out] at h1
      have h2 : SN s = 0 := by simpa using h1
      rw [h2]; rfl
    rw [← HR.out] at hv
    subst hv
    go_wp2
    go_ret
    exact ⟨rfl, rfl⟩
  · have hge := SN_ge h0
    have hf := HF.out h0
    have hlt := t[0].toNat_lt
    have hnb := natBits_first (k := t.size - 1) (by omega) hge.1 hge.2
    rw [HSV.out, ← HR.out] at hnb
    have HNB := Lib.hid hnb
    have hrb : R ≤ 2147483656 := by have := natBits_lt256 hlt; omega
    have HRB := Lib.hid hrb
    clear hnb hge hf hrb
    have hne : ((t.size : Int) == 0) = false := by rw [beq_eq_false_iff_ne]; omega
    have hw : wrap64 ((t[0].toNat : Nat) : Int) = ((t[0].toNat : Nat) : Int) := by unfold wrap64; omega
    go_wp2
    go_loop [3, 4] (fun n d => RBitsRel R n d) (fun _ d => (intOf d).toNat)
    case atStart =>
      exact ⟨8 * (t.size - 1), t[0].toNat, hlt, rfl, by rw [show ((8 * (t.size - 1) : Nat) : Int) = 8 * ((t.size : Int) - 1) by omega], HNB.out.symm⟩
    case round =>
      obtain ⟨k, c, hc, rfl, rfl, hr⟩ := hrel
      have hk : k ≤ 2147483656 := by have := HRB.out; omega
      have HRR := Lib.hid hr; clear hr
      rcases Nat.eq_zero_or_pos c with hc0 | hc0
      · subst hc0
        go_wp2
        go_ret
        have := HRR.out
        rw [natBits_zero, Nat.add_zero] at this
        exact ⟨by rw [this]; rfl, rfl⟩
      · go_wp2
        go_round
        case rel => exact ⟨k + 1, c / 2, by omega, by go_num, by go_num, by rw [← HRR.out, natBits_half hc0]; omega⟩
        case measure => simp [intOf]; omega

#print axioms RBits_any
end Go.Proofs.YtmbgohaljiiigaaGreatDoor
