/- sortesref01.Right. -/
import Derived.Test.YtolmjeglaolhlaaGreatDoorBase
import Derived.Test.YtolmjeglaolhlaaGreatDoorPlain
namespace Go.Proofs.YtolmjeglaolhlaaGreatDoor
open Go.RowKit Num

set_option maxRecDepth 100000 in
set_option maxHeartbeats 800000 in
theorem RRight_any (s : ByteArray) (w : World) :
    Calls Tryz.prog 79 #[.string s] w fun e w' => e = .returned (.bool (rightB s.data.toList)) ∧ w = w' := by
  obtain ⟨⟨l⟩⟩ := s
  cases l with
  | nil =>
    go_enter Tryz.func79, Tryz.ntmps79
    go_wp2
    go_ret
    exact ⟨rfl, rfl⟩
  | cons c l =>
    go_enter Tryz.func79, Tryz.ntmps79
    go_wp2
    go_ret
    refine ⟨?_, rfl⟩
    show Ending.returned (Value.bool (((c.toNat : Nat) : Int) != 0)) = Ending.returned (Value.bool (c != 0))
    have h : (((c.toNat : Nat) : Int) != 0) = (c != 0) := by
      by_cases h0 : c = 0
      · subst h0; rfl
      · have h1 : c.toNat ≠ 0 := fun e => h0 (UInt8.toNat_inj.1 e)
        have e1 : (((c.toNat : Nat) : Int) != 0) = true := by rw [bne_iff_ne]; omega
        have e2 : (c != 0) = true := by rw [bne_iff_ne]; exact h0
        rw [e1, e2]
    rw [h]

#print axioms RRight_any
end Go.Proofs.YtolmjeglaolhlaaGreatDoor
