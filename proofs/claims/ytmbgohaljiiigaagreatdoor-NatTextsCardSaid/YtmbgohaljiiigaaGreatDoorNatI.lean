/- The contract of nat.Int. -/
import Derived.Test.YtmbgohaljiiigaaGreatDoorNatB
import Derived.Test.YtmbgohaljiiigaaGreatDoorIntPair
namespace Go.Proofs.YtmbgohaljiiigaaGreatDoor
open Go.RowKit Num

set_option maxRecDepth 100000 in
set_option maxHeartbeats 800000 in
/-- **nat.Int**. -/
theorem Int_any (s : ByteArray) (w : World) (hs : s.size ≤ 268435456) :
    Calls Tryz.prog 60 #[.string s] w fun e w' => e = .returned (intPair (SN s)) ∧ Below w.heap.size w w' := by
  go_enter Tryz.func60, Tryz.ntmps60
  go_wp2_with fail
  refine (of_any s _ (by omega)).mono ?_
  rintro e w1 ⟨va, la, rfl, hsa, hda, hta, hva, hla, hb1⟩
  obtain ⟨aa, c, rfl, hc, _, hcell⟩ := hsa
  have HVA := Lib.hid hva; clear hva
  match la, hda, hta, hla, hc, hcell, HVA with
  | [], _, _, _, hc, _, HVA =>
    go_wp2
    go_rounds 1
    go_ret2
    have h := HVA.out
    simp at h
    exact ⟨by rw [← h, intPair_lt (by decide)]; rfl, hb1⟩
  | [x], hda, hta, hla, hc, hcell, HVA =>
    obtain ⟨b, off, rfl, hbl, hrow⟩ := hcell (by simp)
    have hx := hrow 0 (by simp)
    have hx32 : x < 4294967296 := hda x (by simp)
    simp only [Nat.add_zero, List.getD_cons_zero] at hx
    have hor : bits .or .i64 0 (x : Int) = (x : Int) := by
      have h := i64_or_nat 0 x (by omega) (by omega)
      rw [Nat.zero_or] at h
      exact h
    clear hcell hrow hda hta hla hc
    go_wp2
    go_rounds 2
    go_ret2
    have h := HVA.out
    simp at h
    exact ⟨by rw [← h, intPair_lt (by omega)]; rfl, hb1⟩
  | [x, y], hda, hta, hla, hc, hcell, HVA =>
    obtain ⟨b, off, rfl, hbl, hrow⟩ := hcell (by simp)
    have hx := hrow 0 (by simp)
    have hy := hrow 1 (by simp)
    have hx32 : x < 4294967296 := hda x (by simp)
    have hy32 : y < 4294967296 := hda y (by simp)
    simp only [Nat.add_zero, List.getD_cons_zero, List.getD_cons_succ] at hx hy
    clear hcell hrow hda hta hla hc
    rcases Nat.lt_or_ge 2147483647 y with h1 | h1
    · have h1i : (2147483647 : Int) < (y : Int) := by omega
      go_wp2
      go_ret2
      have h := HVA.out
      simp at h
      exact ⟨by rw [← h, intPair_ge (by omega)]; rfl, hb1⟩
    · have h1i : ¬ (2147483647 : Int) < (y : Int) := by omega
      have hor : bits .or .i64 0 (x : Int) = (x : Int) := by
        have h := i64_or_nat 0 x (by omega) (by omega)
        rw [Nat.zero_or] at h
        exact h
      obtain ⟨t, hor2, ht⟩ : ∃ t : Nat, bits .or .i64 (x : Int) ((y : Int) * 4294967296) = (t : Int) ∧ t = x + y * 4294967296 := by
        refine ⟨x + y * 4294967296, ?_, rfl⟩
        have h := i64_or_nat x (y * 4294967296) (by omega) (by omega)
        rw [Nat.or_comm, or_mul y x 32 (by omega), Nat.add_comm] at h
        rw [← h]
        rfl
      have HT := Lib.hid ht; clear ht
      go_wp2
      go_rounds 3
      go_ret2
      have h := HVA.out
      have h2 := HT.out
      simp at h
      have h3 : SN s = t := by omega
      exact ⟨by rw [h3, intPair_lt (by omega)]; rfl, hb1⟩
  | x :: y :: z :: l, hda, hta, hla, hc, hcell, HVA =>
    clear hcell
    have hn : (2 : Int) < ((x :: y :: z :: l).length : Int) := by simp; omega
    have hge : 9223372036854775808 ≤ vl 4294967296 (x :: y :: z :: l) := by
      have h := hta.ge (b := 4294967296) (by simp)
      simp only [List.length_cons, Nat.add_sub_cancel] at h
      have h2 : (4294967296 : Nat) ^ 2 ≤ 4294967296 ^ (l.length + 1 + 1) := Nat.pow_le_pow_right (by omega) (by omega)
      have h3 : (9223372036854775808 : Nat) ≤ 4294967296 ^ 2 := by decide
      omega
    rw [HVA.out] at hge
    have HGE := Lib.hid hge
    clear hge hda hta
    generalize (x :: y :: z :: l).length = n at *
    go_wp2
    go_ret2
    exact ⟨by rw [intPair_ge HGE.out]; rfl, hb1⟩

#print axioms Int_any
end Go.Proofs.YtmbgohaljiiigaaGreatDoor
