/- sortesref01.Made: the string of at most 40 bytes. -/
import Derived.Test.YtmbgohaljiiigaaGreatDoorNumber
namespace Go.Proofs.YtmbgohaljiiigaaGreatDoor
open Go.RowKit Num

/-- Bytes in memory become a number's string. -/
theorem conv_nat {w : World} {b off : Nat} {l : List Nat} (hr : Row .u8 w b off l) (cap : Nat) :
    (convert 22 25 (.slice (some ⟨b, off, none⟩) l.length cap)).run Tryz.prog w = .ok (.string ⟨(l.map UInt8.ofNat).toArray⟩) w := by
  have h := run_convert_bytes_arg (P := Tryz.prog) w 22 5 Tryz.underlying22 Tryz.underlying5 b off l.length cap (l.map Int.ofNat) (by simp) (fun i hi => by
    rw [hr i hi]
    simp [List.getElem?_eq_getElem hi]) 25 Tryz.underlying25
  have e : strOfNums (l.map Int.ofNat) = ⟨(l.map UInt8.ofNat).toArray⟩ := by
    unfold strOfNums
    rw [List.map_map]
    rfl
  rw [e] at h
  exact h

/-- The string of some bytes, 40 at most. -/
def madeS (l : List Nat) : ByteArray := ⟨((l.take 40).map UInt8.ofNat).toArray⟩
theorem madeS_size (l : List Nat) : (madeS l).size ≤ 40 := by
  unfold madeS
  show ((l.take 40).map UInt8.ofNat).toArray.size ≤ 40
  simp; omega

set_option maxRecDepth 100000 in
theorem Made_any {v : Value} {l : List Nat} {w : World} (h : Sl .u8 w v l) :
    Calls Tryz.prog 21 #[v] w fun e w' => e = .returned (.string (madeS l)) ∧ w = w' := by
  obtain ⟨a, cap, rfl, h1, h2, h3⟩ := h
  rcases Nat.eq_zero_or_pos l.length with h0 | h0
  · obtain rfl : l = [] := List.length_eq_zero_iff.1 h0
    have hmin : min (0 : Int) 40 = 0 := by decide
    rcases a with _ | ⟨b, off, spot⟩
    · have hc : ∀ cap, (convert 22 25 (.slice none 0 cap)).run Tryz.prog w = .ok (.string ⟨#[]⟩) w := fun cap => by
        simp [convert, Conv.bytesToString, go_sem]; rfl
      clear h0 h3
      simp only [List.length_nil]
      go_enter Tryz.func21, Tryz.ntmps21
      go_wp2
      go_ret
      exact ⟨rfl, rfl⟩
    · have hc : ∀ cap, (convert 22 25 (.slice (some ⟨b, off, spot⟩) 0 cap)).run Tryz.prog w = .ok (.string ⟨#[]⟩) w := fun cap => by
        simp [convert, Conv.bytesToString, go_sem]; rfl
      clear h0 h3
      simp only [List.length_nil]
      go_enter Tryz.func21, Tryz.ntmps21
      go_wp2
      go_ret
      exact ⟨rfl, rfl⟩
  · obtain ⟨b, off, rfl, hb, hr⟩ := h3 h0
    clear h3
    obtain ⟨S, hS⟩ : ∃ S, S = madeS l := ⟨_, rfl⟩
    have HS := Lib.hid hS
    rw [← hS]
    rcases Nat.lt_or_ge 40 l.length with hl | hl
    · have hc := conv_nat (hr.take 40)
      rw [List.length_take, Nat.min_eq_left (by omega)] at hc
      rw [show (⟨((l.take 40).map UInt8.ofNat).toArray⟩ : ByteArray) = S from hS.symm] at hc
      have hmin : min (l.length : Int) 40 = 40 := by omega
      clear hr hS
      generalize l.length = n at *
      go_enter Tryz.func21, Tryz.ntmps21
      go_wp2
      go_ret
      exact ⟨rfl, rfl⟩
    · have hc := conv_nat (hr.take 40)
      rw [List.length_take, Nat.min_eq_right (by omega)] at hc
      rw [show (⟨((l.take 40).map UInt8.ofNat).toArray⟩ : ByteArray) = S from hS.symm] at hc
      have hmin : min (l.length : Int) 40 = (l.length : Int) := by omega
      clear hr hS
      generalize l.length = n at *
      go_enter Tryz.func21, Tryz.ntmps21
      go_wp2
      go_ret
      exact ⟨rfl, rfl⟩

#print axioms Made_any
end Go.Proofs.YtmbgohaljiiigaaGreatDoor
