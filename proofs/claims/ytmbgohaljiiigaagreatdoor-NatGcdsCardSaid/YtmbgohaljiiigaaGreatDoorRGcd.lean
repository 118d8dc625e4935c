/- sortesref01.Gcd. -/
import Derived.Test.YtmbgohaljiiigaaGreatDoorRQuoS
import Derived.Deep.LoopGhost
namespace Go.Proofs.YtmbgohaljiiigaaGreatDoor
open Go.RowKit Num

theorem Enc_size_mono {a b : Nat} (h : a ≤ b) : (Enc a).size ≤ (Enc b).size := Enc_size_le (Nat.lt_of_le_of_lt h (Enc_small (Nat.le_refl _)))

def RGcdRel (w : World) (G n k : Nat) (x y : Value) (wr : World) : Prop :=
  ∃ m q : Nat, x = .string (Enc m) ∧ y = .string (Enc q) ∧ q = k ∧ (Enc m).size ≤ n ∧ (Enc q).size ≤ n ∧ Nat.gcd m q = G ∧ Below w.heap.size w wr

set_option maxRecDepth 100000 in
set_option maxHeartbeats 800000 in
/-- **sortesref01.Gcd**. -/
theorem RGcd_any (a b : ByteArray) (w : World) (ha : a.size ≤ 100000000) (hb : b.size ≤ 100000000) :
    Calls Tryz.prog 50 #[.string a, .string b] w fun e w' => e = .returned (.string (Enc (Nat.gcd (SN a) (SN b)))) ∧ Below w.heap.size w w' := by
  obtain ⟨G, hG⟩ : ∃ G, Nat.gcd (SN a) (SN b) = G := ⟨_, rfl⟩
  rw [hG]
  have HG := Lib.hid hG; clear hG
  go_enter Tryz.func50, Tryz.ntmps50
  go_wp2_with fail
  refine (Canon_any a _ (by omega)).mono ?_
  rintro _ _ ⟨rfl, rfl⟩
  go_wp2_with fail
  refine (Canon_any b _ (by omega)).mono ?_
  rintro _ _ ⟨rfl, rfl⟩
  have h1 : (Enc (SN a)).size ≤ 100000000 := Nat.le_trans (Enc_size_le (SN_lt a)) ha
  have h2 : (Enc (SN b)).size ≤ 100000000 := Nat.le_trans (Enc_size_le (SN_lt b)) hb
  go_wp2_with fail
  go_loopg [0, 1] (SN b) (fun k x y wr => RGcdRel w G 100000000 k x y wr)
  case atStart => exact ⟨SN a, SN b, rfl, rfl, rfl, h1, h2, HG.out, Below.refl _ _⟩
  case round =>
    clear h1 h2
    obtain ⟨m, ghost, rfl, rfl, hk, hs1, hs2, hgc, hbel⟩ := hrel
    have HK := Lib.hid hk; clear hk
    have HGC := Lib.hid hgc; have HBel := Lib.hid hbel
    clear hgc hbel
    obtain ⟨s, hs⟩ : ∃ s, Enc m = s := ⟨_, rfl⟩
    have hsm : SN s = m := by rw [← hs, SN_Enc]
    rw [hs] at hs1 ⊢
    rcases Nat.eq_zero_or_pos ghost with h0 | h0
    · subst h0
      have he : Enc 0 = ⟨#[]⟩ := by kernel_rfl
      rw [he]
      have hG := HGC.out
      rw [Nat.gcd_zero_right] at hG
      have HSM := Lib.hid hs
      clear hs2 he hs hsm
      go_wp2_with fail
      go_ret
      exact ⟨by rw [← HSM.out, hG]; rfl, HBel.out⟩
    · have hp : 0 < (Enc ghost).size := by
        rcases Nat.eq_zero_or_pos (Enc ghost).size with h | h
        · have := Enc_small (n := ghost) (k := 0) (by omega); simp at this; omega
        · exact h
      have ht2 : SN (Enc ghost) = ghost := SN_Enc _
      have hrs : (Enc (m % ghost)).size ≤ 100000000 := by rw [← hs] at hs1; exact Nat.le_trans (Enc_size_mono (Nat.mod_le _ _)) hs1
      have hq := fun w => RQuo_pos s (Enc ghost) w hs1 hs2 (by rw [ht2]; exact h0)
      rw [ht2, hsm] at hq
      obtain ⟨t, ht⟩ : ∃ t, Enc ghost = t := ⟨_, rfl⟩
      rw [ht] at hq hp hs2 ⊢
      have HQ := Lib.hid hq; have HT := Lib.hid ht; have HRS := Lib.hid hrs
      clear hq ht hrs ht2 hs hsm
      go_wp2_with fail
      refine (HQ.out _).mono ?_
      rintro _ w3 ⟨rfl, hb3⟩
      have HB3 := Lib.hid hb3
      clear hb3
      go_wp2_with fail
      go_roundg (m % ghost)
      case measure => rw [← HK.out]; exact Nat.mod_lt _ h0
      case rel =>
        refine ⟨ghost, m % ghost, by rw [HT.out], rfl, rfl, by rw [HT.out]; exact hs2, HRS.out, ?_, HBel.out.trans (HB3.out.mono HBel.out.size)⟩
        rw [← HGC.out, Nat.gcd_comm ghost, ← Nat.gcd_rec, Nat.gcd_comm]

#print axioms RGcd_any
end Go.Proofs.YtmbgohaljiiigaaGreatDoor
