/- sortesref01.Canon: a number without zeros in front. -/
import Derived.Test.YtmbgohaljiiigaaGreatDoorBase
namespace Go.Proofs.YtmbgohaljiiigaaGreatDoor
open Go.RowKit Num

theorem val_drop_zero : ∀ (l : List UInt8) (k : Nat), (∀ j, j < k → l.getD j 0 = 0) → val (l.drop k) = val l
  | [], k, _ => by simp
  | c :: t, 0, _ => by simp
  | c :: t, k + 1, h => by
    have h0 : c = 0 := by simpa using h 0 (by omega)
    have ih := val_drop_zero t k (fun j hj => by simpa using h (j + 1) (by omega))
    subst h0
    rw [List.drop_succ_cons, ih, val_cons]
    simp

theorem extract_canon (s : ByteArray) (k : Nat) (hz : ∀ j, j < k → s.data.toList.getD j 0 = 0) (hr : Rt (s.data.toList.drop k)) : s.extract k s.size = Enc (SN s) := by
  have h1 : enc (val (s.data.toList.drop k)) = s.data.toList.drop k := enc_of_rt hr
  rw [val_drop_zero _ _ hz] at h1
  apply ByteArray.ext
  apply Array.ext'
  show (s.extract k s.size).data.toList = (enc (val s.data.toList)).toArray.toList
  rw [h1]
  simp
  rw [List.take_of_length_le]
  simp

set_option maxRecDepth 100000 in
theorem Canon_any (s : ByteArray) (w : World) (hs : s.size ≤ 268435456) :
    Calls Tryz.prog 56 #[.string s] w fun e w' => e = .returned (.string (Enc (SN s))) ∧ w = w' := by
  go_enter Tryz.func56, Tryz.ntmps56
  go_wp2
  go_loopw [3] (fun i wr => ∃ k : Nat, k ≤ s.size ∧ i = .int .i64 (k : Int) ∧ w = wr ∧ ∀ j, j < k → s.data.toList.getD j 0 = 0)
    (fun i _ => s.size - (intOf i).toNat)
  case atStart => exact ⟨0, by omega, rfl, rfl, fun j h => by omega⟩
  case round =>
    obtain ⟨k, hk, rfl, rfl, hz⟩ := hrel
    have HZ := Lib.hid hz; clear hz
    go_wp2
    case roundEnd =>
      rename_i hlt hx
      refine ⟨⟨k + 1, by omega, by simp, trivial, fun j hj => ?_⟩, by simp [intOf]; omega⟩
      rcases Nat.lt_or_ge j k with h | h
      · exact HZ.out j h
      · obtain rfl : j = k := by omega
        have h2 : s.data.toList.getD j 0 = s[j] := by
          rw [List.getD_eq_getElem?_getD, List.getElem?_eq_getElem (by simpa using hlt)]
          rfl
        rw [h2]
        have h3 : s[j].toNat = 0 := by simpa using hx
        exact UInt8.toNat_inj.1 h3
    · rename_i hlt hx
      go_ret
      refine ⟨?_, rfl⟩
      suffices hr : Rt (s.data.toList.drop k) by rw [extract_canon s k HZ.out hr]; rfl
      have h2 : s.data.toList.drop k = s[k] :: s.data.toList.drop (k + 1) := by
        rw [List.drop_eq_getElem_cons (by simpa using hlt)]
        rfl
      rw [h2]
      unfold Rt
      have h3 : s[k].toNat ≠ 0 := by simpa using hx
      intro e
      simp at e
      rw [e] at h3
      exact h3 rfl
    · go_ret
      refine ⟨?_, rfl⟩
      suffices hr : Rt (s.data.toList.drop k) by rw [extract_canon s k HZ.out hr]; rfl
      rw [List.drop_eq_nil_of_le (by simp; omega)]
      simp [Rt]

#print axioms Canon_any
end Go.Proofs.YtmbgohaljiiigaaGreatDoor
