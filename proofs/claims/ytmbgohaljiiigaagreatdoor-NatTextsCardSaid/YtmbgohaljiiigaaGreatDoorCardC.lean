/- What the cards with numbers, strings and pairs among their parameters share. -/
import Derived.Test.YtmbgohaljiiigaaGreatDoorCardB
import Derived.ChangeMaps5
import Derived.WideKeyPair
namespace Go.Proofs.YtmbgohaljiiigaaGreatDoor
open Go.ChangeShapes Go.WideShapes Go.ChangeAt Go.RowKit Num

theorem wf_i64 {z : Int} (h : (Lit.int .i64 z).wf = true) : -9223372036854775808 ≤ z ∧ z ≤ 9223372036854775807 := by
  simp only [Lit.wf, Bool.and_eq_true, decide_eq_true_eq] at h
  have e1 : IntKind.i64.min = -9223372036854775808 := by decide
  have e2 : IntKind.i64.max = 9223372036854775807 := by decide
  omega

theorem wf_u8 {z : Int} (h : (Lit.int .u8 z).wf = true) : ∃ m : Nat, z = (m : Int) ∧ m < 256 := by
  simp only [Lit.wf, Bool.and_eq_true, decide_eq_true_eq] at h
  have e1 : IntKind.u8.min = 0 := by decide
  have e2 : IntKind.u8.max = 255 := by decide
  exact ⟨z.toNat, by omega, by omega⟩

theorem wf_u16 {z : Int} (h : (Lit.int .u16 z).wf = true) : ∃ m : Nat, z = (m : Int) ∧ m < 65536 := by
  simp only [Lit.wf, Bool.and_eq_true, decide_eq_true_eq] at h
  have e1 : IntKind.u16.min = 0 := by decide
  have e2 : IntKind.u16.max = 65535 := by decide
  exact ⟨z.toNat, by omega, by omega⟩

theorem wf_u32 {z : Int} (h : (Lit.int .u32 z).wf = true) : ∃ m : Nat, z = (m : Int) ∧ m < 4294967296 := by
  simp only [Lit.wf, Bool.and_eq_true, decide_eq_true_eq] at h
  have e1 : IntKind.u32.min = 0 := by decide
  have e2 : IntKind.u32.max = 4294967295 := by decide
  exact ⟨z.toNat, by omega, by omega⟩

#print axioms wf_u32
end Go.Proofs.YtmbgohaljiiigaaGreatDoor
