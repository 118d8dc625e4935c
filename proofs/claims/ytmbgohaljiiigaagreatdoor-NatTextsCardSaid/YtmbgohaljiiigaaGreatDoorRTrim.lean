/- The contract of sortesref01.trim: the digits without zeros at the end, the same memory. -/
import Derived.Test.YtmbgohaljiiigaaGreatDoorTrim
namespace Go.Proofs.YtmbgohaljiiigaaGreatDoor
open Go.RowKit Num

set_option maxHeartbeats 400000 in
theorem rtrim_walk (a : Option Addr) (n cap : Nat) (l : List Nat) (w : World) (hn : n ≤ l.length) (hnc : n ≤ cap) (hc : cap ≤ 9223372036854775807)
    (hr : 0 < n → ∃ b off, a = some ⟨b, off, none⟩ ∧ b < w.heap.size ∧ Row .i64 w b off l) :
    Calls Tryz.prog 98 #[.slice a n cap] w fun e w' => e = .returned (.slice a (tlen l n) cap) ∧ w = w' := by
  go_enter Tryz.func98, Tryz.ntmps98
  go_wp2
  go_loop [0] (fun v => ∃ k : Nat, k ≤ n ∧ v = .slice a k cap ∧ tlen l k = tlen l n) (fun v => match v with | .slice _ k _ => k | _ => 0)
  case atStart => exact ⟨n, Nat.le_refl _, rfl, rfl⟩
  case round =>
    obtain ⟨k, hk, rfl, ht⟩ := hrel
    have Ht := Lib.hid ht; clear ht
    rcases Nat.eq_zero_or_pos k with h0 | h0
    · subst h0
      go_wp2
      go_ret
      exact ⟨by rw [← Ht.out]; rfl, rfl⟩
    · obtain ⟨b, off, rfl, _, hrow⟩ := hr (by omega)
      clear hr
      have hcell := hrow (k - 1) (by omega)
      clear hrow
      go_wp2
      case roundEnd =>
        have h1 : (((l[k - 1]?.getD 0 : Nat) : Int) == 0) = true := by assumption
        refine ⟨⟨k - 1, by omega, rfl, ?_⟩, by simp only []; omega⟩
        rw [← Ht.out]
        obtain ⟨j, rfl⟩ : ∃ j, k = j + 1 := ⟨k - 1, by omega⟩
        simp at h1
        simp [tlen, h1]
      · have h1 : (((l[k - 1]?.getD 0 : Nat) : Int) == 0) = false := by assumption
        go_ret
        refine ⟨?_, rfl⟩
        rw [← Ht.out]
        obtain ⟨j, rfl⟩ : ∃ j, k = j + 1 := ⟨k - 1, by omega⟩
        simp at h1
        simp [tlen, h1]

/-- **sortesref01.trim** at a slice that reads as l. -/
theorem rtrim_any {b : Nat} {v : Value} {l : List Nat} {w : World} (h : Sl .i64 w v l) :
    Calls Tryz.prog 98 #[v] w fun e w' => ∃ v' l', e = .returned v' ∧ Sl .i64 w v' l' ∧ (Dig b l → Dig b l') ∧ Tr l' ∧ vl b l' = vl b l ∧ l'.length ≤ l.length ∧ w = w' := by
  obtain ⟨a, cap, rfl, h1, h2, h3⟩ := h
  refine (rtrim_walk a l.length cap l w (Nat.le_refl _) h1 h2 h3).mono ?_
  rintro e w' ⟨rfl, rfl⟩
  have hl := tlen_le l l.length
  have hlen : (l.take (tlen l l.length)).length = tlen l l.length := by rw [List.length_take, Nat.min_eq_left hl]
  refine ⟨_, l.take (tlen l l.length), rfl, ⟨a, cap, by rw [hlen], by omega, h2, fun hp => ?_⟩, fun d => d.take _, tlen_tr l _ (Nat.le_refl _), tlen_vl b l, by omega, rfl⟩
  obtain ⟨b, off, rfl, hb, hr⟩ := h3 (by omega)
  exact ⟨b, off, rfl, hb, hr.take _⟩

#print axioms rtrim_any
end Go.Proofs.YtmbgohaljiiigaaGreatDoor
