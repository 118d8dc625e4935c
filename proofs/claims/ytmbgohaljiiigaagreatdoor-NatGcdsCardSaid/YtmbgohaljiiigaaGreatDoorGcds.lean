/- sorteslaw01.NatGcds: the walk. -/
import Derived.Test.YtmbgohaljiiigaaGreatDoorSanityW
import Derived.Test.YtmbgohaljiiigaaGreatDoorMade
import Derived.Test.YtmbgohaljiiigaaGreatDoorRGcd
import Derived.Deep.QuietTactic
import Derived.BigQuiet
namespace Go.Proofs.YtmbgohaljiiigaaGreatDoor
open Go.RowKit Num

theorem Enc_size_mul' {x y : ByteArray} {j k : Nat} (hx : x.size ≤ j) (hy : y.size ≤ k) : (Enc (SN x * SN y)).size ≤ j + k := by
  refine Enc_size_le ?_
  rw [Nat.pow_add]
  exact Nat.mul_lt_mul'' (size_lt hx) (size_lt hy)

/-- A slice that is cut to its beginning. -/
theorem Sl.cut {k : IntKind} {w : World} {a : Option Addr} {n cap : Nat} {l : List Nat} (h : Sl k w (.slice a n cap) l) (m : Nat) (hm : m ≤ n) : Sl k w (.slice a m cap) (l.take m) := by
  obtain ⟨a', cap', e, h1, h2, h3⟩ := h
  cases e
  have hlen : (l.take m).length = m := by rw [List.length_take, Nat.min_eq_left hm]
  refine ⟨a, cap, by rw [hlen], by omega, h2, fun hl => ?_⟩
  obtain ⟨b, off, rfl, hb, hr⟩ := h3 (by omega)
  exact ⟨b, off, rfl, hb, hr.take _⟩

set_option maxRecDepth 100000 in
set_option maxHeartbeats 4000000 in
theorem Gcds_walk {v1 v2 v3 : Value} {l1 l2 l3 : List Nat} {w : World} (he : Env w) (g1 : Sl .u8 w v1 l1) (g2 : Sl .u8 w v2 l2) (g3 : Sl .u8 w v3 l3) :
    Calls Tryz.prog 9 #[v1, v2, v3] w fun e w' => e = .returned (.bool true) ∧ Below w.heap.size w w' := by
  have g1' := g1; have g2' := g2; have g3' := g3
  obtain ⟨a1, c1, rfl, hn1, hc1, -⟩ := g1'
  obtain ⟨a2, c2, rfl, hn2, hc2, -⟩ := g2'
  obtain ⟨a3, c3, rfl, hn3, hc3, -⟩ := g3'
  obtain ⟨n1, hnn1⟩ : ∃ n, l1.length = n := ⟨_, rfl⟩
  obtain ⟨n2, hnn2⟩ : ∃ n, l2.length = n := ⟨_, rfl⟩
  obtain ⟨n3, hnn3⟩ : ∃ n, l3.length = n := ⟨_, rfl⟩
  rw [hnn1] at hn1 g1 ⊢
  rw [hnn2] at hn2 g2 ⊢
  rw [hnn3] at hn3 g3 ⊢
  clear hnn1 hnn2 hnn3
  obtain ⟨m1, hm1, hi1, hb1⟩ : ∃ m : Nat, m ≤ n1 ∧ min (n1 : Int) 20 = (m : Int) ∧ m ≤ 20 := ⟨min n1 20, by omega, by omega, by omega⟩
  obtain ⟨m2, hm2, hi2, hb2⟩ : ∃ m : Nat, m ≤ n2 ∧ min (n2 : Int) 20 = (m : Int) ∧ m ≤ 20 := ⟨min n2 20, by omega, by omega, by omega⟩
  obtain ⟨m3, hm3, hi3, hb3⟩ : ∃ m : Nat, m ≤ n3 ∧ min (n3 : Int) 20 = (m : Int) ∧ m ≤ 20 := ⟨min n3 20, by omega, by omega, by omega⟩
  have k1 : ∀ w', Below w.heap.size w w' → _ := fun w' hb => Made_any ((g1.cut m1 hm1).below hb)
  have k2 : ∀ w', Below w.heap.size w w' → _ := fun w' hb => Made_any ((g2.cut m2 hm2).below hb)
  have k3 : ∀ w', Below w.heap.size w w' → _ := fun w' hb => Made_any ((g3.cut m3 hm3).below hb)
  have hsa := madeS_size (l1.take m1)
  have hsb := madeS_size (l2.take m2)
  have hsc := madeS_size (l3.take m3)
  generalize madeS (l1.take m1) = a at *
  generalize madeS (l2.take m2) = b at *
  generalize madeS (l3.take m3) = c at *
  obtain ⟨g, hg⟩ : ∃ g, g = Enc (Nat.gcd (SN a) (SN b)) := ⟨_, rfl⟩
  obtain ⟨p1, hp1⟩ : ∃ g, g = Enc (SN a * SN c) := ⟨_, rfl⟩
  obtain ⟨p2, hp2⟩ : ∃ g, g = Enc (SN b * SN c) := ⟨_, rfl⟩
  obtain ⟨r, hr⟩ : ∃ g, g = Enc (Nat.gcd (SN a) (SN b) * SN c) := ⟨_, rfl⟩
  have d1 := fun w => Gcd_any a b w (by omega) (by omega)
  rw [← hg] at d1
  have d2 := fun w => RGcd_any a b w (by omega) (by omega)
  rw [← hg] at d2
  have d3 := fun w => Gcd_any b a w (by omega) (by omega)
  rw [Nat.gcd_comm, ← hg] at d3
  have z1 : p1.size ≤ 80 := by rw [hp1]; exact Enc_size_mul' hsa hsc
  have z2 : p2.size ≤ 80 := by rw [hp2]; exact Enc_size_mul' hsb hsc
  have z3 : g.size ≤ 40000 := by
    rw [hg]
    rcases Nat.eq_zero_or_pos (SN b) with h | h
    · rw [h, Nat.gcd_zero_right]; exact Nat.le_trans (Enc_size_le (SN_lt a)) (by omega)
    · exact Nat.le_trans (Enc_size_le (Nat.lt_of_le_of_lt (Nat.gcd_le_right _ h) (SN_lt b))) (by omega)
  have d4 := fun w => RMul_is p1 a c w (by omega) (by omega) hp1.symm
  have d5 := fun w => RMul_is p2 b c w (by omega) (by omega) hp2.symm
  have d6 := fun w => Gcd_any p1 p2 w (by omega) (by omega)
  rw [show SN p1 = SN a * SN c by rw [hp1, SN_Enc], show SN p2 = SN b * SN c by rw [hp2, SN_Enc], Nat.gcd_mul_right, ← hr] at d6
  have d7 := fun w => RMul_is r g c w (by omega) (by omega) (by rw [hr, hg, SN_Enc])
  have D1 := Lib.hid d1; have D2 := Lib.hid d2; have D3 := Lib.hid d3; have D4 := Lib.hid d4; have D5 := Lib.hid d5; have D6 := Lib.hid d6; have D7 := Lib.hid d7
  clear d1 d2 d3 d4 d5 d6 d7 hg hp1 hp2 hr z1 z2 z3 hsa hsb hsc
  have M1 := Lib.hid k1; have M2 := Lib.hid k2; have M3 := Lib.hid k3
  clear k1 k2 k3 g1 g2 g3
  have HB := Below.refl w.heap.size w
  have q1 : (0 : Int) ≤ (m1 : Int) := by omega
  have q1' : (m1 : Int) ≤ (c1 : Int) := by omega
  have q2 : (0 : Int) ≤ (m2 : Int) := by omega
  have q2' : (m2 : Int) ≤ (c2 : Int) := by omega
  have q3 : (0 : Int) ≤ (m3 : Int) := by omega
  have q3' : (m3 : Int) ≤ (c3 : Int) := by omega
  go_enter Tryz.func9, Tryz.ntmps9
  go_wp2_with fail
  refine (sanity_any w he).mono ?_
  rintro _ wn ⟨rfl, hn⟩; replace HB := HB.trans (hn.mono HB.size); clear hn
  go_wp2_with fail
  go_quiet ((go_at_call 21; first | with_reducible exact (M1.out _ (belowDrewN HB _)).mono (fun _ _ h => ⟨h.1, _, h.2.symm⟩) | with_reducible exact (M2.out _ (belowDrewN HB _)).mono (fun _ _ h => ⟨h.1, _, h.2.symm⟩) | with_reducible exact (M3.out _ (belowDrewN HB _)).mono (fun _ _ h => ⟨h.1, _, h.2.symm⟩)))
  have HB2 := belowDrewN HB nq
  clear HB q1 q1' q2 q2' q3 q3' hi1 hi2 hi3 M1 M2 M3
  go_wp2_with fail
  refine (D1.out _).mono ?_
  rintro _ wm ⟨rfl, hn⟩; replace HB2 := HB2.trans (hn.mono HB2.size); clear hn
  go_wp2_with fail
  refine (D2.out _).mono ?_
  rintro _ wm ⟨rfl, hn⟩; replace HB2 := HB2.trans (hn.mono HB2.size); clear hn
  go_wp2_with fail
  refine (D3.out _).mono ?_
  rintro _ wm ⟨rfl, hn⟩; replace HB2 := HB2.trans (hn.mono HB2.size); clear hn
  go_wp2_with fail
  refine (D4.out _).mono ?_
  rintro _ wm ⟨rfl, hn⟩; replace HB2 := HB2.trans (hn.mono HB2.size); clear hn
  go_wp2_with fail
  refine (D5.out _).mono ?_
  rintro _ wm ⟨rfl, hn⟩; replace HB2 := HB2.trans (hn.mono HB2.size); clear hn
  go_wp2_with fail
  refine (D6.out _).mono ?_
  rintro _ wm ⟨rfl, hn⟩; replace HB2 := HB2.trans (hn.mono HB2.size); clear hn
  go_wp2_with fail
  refine (D7.out _).mono ?_
  rintro _ wm ⟨rfl, hn⟩; replace HB2 := HB2.trans (hn.mono HB2.size); clear hn
  go_wp2_with fail
  go_ret
  exact ⟨rfl, HB2⟩

#print axioms Gcds_walk
end Go.Proofs.YtmbgohaljiiigaaGreatDoor
