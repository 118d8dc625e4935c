/- sortesref01.digit: one digit of a quotient. -/
import Derived.Test.YtmbgohaljiiigaaGreatDoorRTimes
import Derived.Test.YtmbgohaljiiigaaGreatDoorRCmpD
namespace Go.Proofs.YtmbgohaljiiigaaGreatDoor
open Go.RowKit Num

def RDigitRel (w : World) (q : Nat) (lo hi : Value) (wr : World) : Prop :=
  ∃ a b : Nat, a ≤ q ∧ q ≤ b ∧ b ≤ 16777215 ∧ lo = .int .i64 (a : Int) ∧ hi = .int .i64 (b : Int) ∧ Below w.heap.size w wr

set_option maxRecDepth 100000 in
set_option maxHeartbeats 1000000 in
theorem rdigit_any {vu vv : Value} {u v : List Nat} {w : World} (hsu : Sl .i64 w vu u) (hsv : Sl .i64 w vv v) (hdu : Dig 16777216 u) (hdv : Dig 16777216 v) (htu : Tr u) (hlu : u.length ≤ 200000000) (hlv : v.length ≤ 200000000)
    (hpos : 0 < vl 16777216 v) (hq : vl 16777216 u / vl 16777216 v ≤ 16777215) :
    Calls Tryz.prog 100 #[vu, vv] w fun e w' => e = .returned (.int .i64 ((vl 16777216 u / vl 16777216 v : Nat) : Int)) ∧ Below w.heap.size w w' := by
  obtain ⟨q, hqe⟩ : ∃ q, vl 16777216 u / vl 16777216 v = q := ⟨_, rfl⟩
  rw [hqe] at hq ⊢
  have HQ := Lib.hid hqe; have HP := Lib.hid hpos
  clear hqe hpos
  go_enter Tryz.func100, Tryz.ntmps100
  go_wp2
  go_loopw [5, 6] (fun lo hi wr => RDigitRel w q lo hi wr) (fun lo hi _ => (intOf hi - intOf lo).toNat)
  case atStart => exact ⟨0, 16777215, by omega, hq, by omega, rfl, rfl, Below.refl _ _⟩
  case round =>
    obtain ⟨a, b, ha, hb, hb2, rfl, rfl, hbel⟩ := hrel
    have HBel := Lib.hid hbel; clear hbel
    rcases Nat.lt_or_ge a b with hlt | hge
    · obtain ⟨mid, hmid⟩ : ∃ mid : Nat, ((a : Int) + (b : Int) + 1) / 2 = (mid : Int) := ⟨(a + b + 1) / 2, by omega⟩
      have hm1 : a < mid := by omega
      have hm2 : mid ≤ b := by omega
      have hm3 : 2 * mid ≤ a + b + 1 := by omega
      go_wp2_with fail
      refine (rtimes_any (m := mid) (hsv.below HBel.out) hdv (by omega) (by omega)).mono ?_
      rintro e w1 ⟨v', l', rfl, hst, hdt, htt, hvt, hlt', hb1⟩
      have HB1 := Lib.hid hb1; have HVT := Lib.hid hvt
      clear hb1 hvt
      go_wp2_with fail
      refine (rcmp_any hst ((hsu.below HBel.out).below HB1.out) hdt hdu htt htu (by omega) (by omega)).mono ?_
      rintro e w2 ⟨z, rfl, hsgn, hz1, hz2, hb3⟩
      have hB := HBel.out.trans ((HB1.out.trans (hb3.mono HB1.out.size)).mono HBel.out.size)
      rw [HVT.out] at hsgn
      have hsg : (z ≤ 0 ∧ mid ≤ q) ∨ (0 < z ∧ q < mid) := by
        have h1 : mid ≤ q ↔ vl 16777216 v * mid ≤ vl 16777216 u := by
          rw [← HQ.out, Nat.le_div_iff_mul_le HP.out, Nat.mul_comm]
        rcases hsgn with ⟨h2, h3⟩ | ⟨h2, h3⟩ | ⟨h2, h3⟩
        · exact .inl ⟨by omega, h1.2 (by omega)⟩
        · exact .inl ⟨by omega, h1.2 (by omega)⟩
        · refine .inr ⟨h2, ?_⟩
          rcases Nat.lt_or_ge q mid with h4 | h4
          · exact h4
          · have := h1.1 h4; omega
      have HB := Lib.hid hB
      clear hsgn hst hdt htt hlt' hB hb3
      rcases hsg with ⟨hz, hmq⟩ | ⟨hz, hmq⟩
      · go_wp2
        go_roundw
        case rel => exact ⟨mid, b, hmq, hb, hb2, rfl, rfl, HB.out⟩
        case measure => simp [intOf]; omega
      · go_wp2
        go_roundw
        case rel => exact ⟨a, mid - 1, ha, by omega, by omega, rfl, by congr 1; omega, HB.out⟩
        case measure => simp [intOf]; omega
    · obtain rfl : a = q := by omega
      go_wp2
      go_ret
      exact ⟨rfl, HBel.out⟩

#print axioms rdigit_any
end Go.Proofs.YtmbgohaljiiigaaGreatDoor
