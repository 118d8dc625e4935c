/- sortesref02.Same of equal lists; the values of sanity's examples. -/
import Derived.Test.YtolmjeglaolhlaaGreatDoorRatioN
import Derived.Test.YtolmjeglaolhlaaGreatDoorRatioL
import Derived.Test.YtolmjeglaolhlaaGreatDoorRatioI
import Derived.Test.YtolmjeglaolhlaaGreatDoorRatioF
namespace Go.Proofs.YtolmjeglaolhlaaGreatDoor
open Go.RowKit Num

def SameRel (w : World) (n : Nat) (i : Value) (wr : World) : Prop := ∃ j : Nat, j ≤ n ∧ i = .int .i64 (j : Int) ∧ Below w.heap.size w wr

set_option maxRecDepth 100000 in
set_option maxHeartbeats 2000000 in
/-- **sortesref02.Same** of equal lists. -/
theorem Same_yes {v v' : Value} {ss : List ByteArray} {w : World} (h : StrS w v ss) (h' : StrS w v' ss) :
    Calls Tryz.prog 36 #[v, v'] w fun e w' => e = .returned (.bool true) ∧ Below w.heap.size w w' := by
  obtain ⟨a, cap, rfl, h1, h2, h3⟩ := h
  obtain ⟨a', cap', rfl, h1', h2', h3'⟩ := h'
  obtain ⟨n, hn⟩ : ∃ n, ss.length = n := ⟨_, rfl⟩
  rw [hn] at h1 h1' ⊢
  have HN := Lib.hid hn; have HA := Lib.hid h3; have HB := Lib.hid h3'
  clear h3 h3' hn
  go_enter Tryz.func36, Tryz.ntmps36
  go_wp2_with fail
  go_loopw [5] (fun i wr => SameRel w n i wr) (fun i _ => n - (intOf i).toNat)
  case atStart => exact ⟨0, by omega, rfl, Below.refl _ _⟩
  case round =>
    obtain ⟨j, hj, rfl, hbel⟩ := hrel
    have HBel := Lib.hid hbel
    rcases Nat.lt_or_ge j n with hlt | hge
    · have hjl : j < ss.length := by have := HN.out; omega
      obtain ⟨b, off, rfl, hb, hr⟩ := HA.out (by omega)
      obtain ⟨b', off', rfl, hb', hr'⟩ := HB.out (by omega)
      have c1 := (hbel.cell (p := ⟨b, off + j, none⟩) hb).trans (hr j hjl)
      have c2 := (hbel.cell (p := ⟨b', off' + j, none⟩) hb').trans (hr' j hjl)
      generalize ss[j] = x at *
      have ej0 : (0 : Int) ≤ (j : Int) := by omega
      have ej1 : (j : Int) < (n : Int) := by omega
      clear hr hr' hbel
      go_wp2_with fail
      go_quiet (fail)
      have HB2 := Lib.hid (HBel.out.trans ((belowDrewN (Below.refl wr.heap.size wr) nq).mono HBel.out.size))
      clear c1 c2
      go_wp2_with fail
      go_roundw
      case rel => exact ⟨j + 1, by omega, by go_num, HB2.out⟩
      case measure => simp [intOf]; omega
    · obtain rfl : j = n := by omega
      go_wp2_with fail
      go_ret
      exact ⟨rfl, HBel.out⟩

#print axioms Same_yes
end Go.Proofs.YtolmjeglaolhlaaGreatDoor
