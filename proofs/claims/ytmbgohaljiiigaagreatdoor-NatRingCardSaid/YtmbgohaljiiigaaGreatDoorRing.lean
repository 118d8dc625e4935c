/- sorteslaw01.NatRing: the walk. -/
import Derived.Test.YtmbgohaljiiigaaGreatDoorSanityW
import Derived.Test.YtmbgohaljiiigaaGreatDoorMade
import Derived.Test.YtmbgohaljiiigaaGreatDoorCanon
import Derived.Test.YtmbgohaljiiigaaGreatDoorIs
namespace Go.Proofs.YtmbgohaljiiigaaGreatDoor
open Go.RowKit Num

theorem Enc_size_add {x y : ByteArray} {k : Nat} (hx : x.size ≤ k) (hy : y.size ≤ k) : (Enc (SN x + SN y)).size ≤ k + 1 := by
  refine Enc_size_le ?_
  have h1 := size_lt hx
  have h2 := size_lt hy
  rw [Nat.pow_succ]; omega
theorem Enc_size_mul {x y : ByteArray} {j k : Nat} (hx : x.size ≤ j) (hy : y.size ≤ k) : (Enc (SN x * SN y)).size ≤ j + k := by
  refine Enc_size_le ?_
  rw [Nat.pow_add]
  exact Nat.mul_lt_mul'' (size_lt hx) (size_lt hy)

set_option maxRecDepth 100000 in
set_option maxHeartbeats 4000000 in
theorem Ring_walk {v1 v2 v3 : Value} {l1 l2 l3 : List Nat} {w : World} (he : Env w) (g1 : Sl .u8 w v1 l1) (g2 : Sl .u8 w v2 l2) (g3 : Sl .u8 w v3 l3) :
    Calls Tryz.prog 14 #[v1, v2, v3] w fun e w' => e = .returned (.bool true) ∧ Below w.heap.size w w' := by
  have hsa := madeS_size l1
  have hsb := madeS_size l2
  have hsc := madeS_size l3
  have m1 : ∀ w', Below w.heap.size w w' → _ := fun w' hb => Made_any (g1.below hb)
  have m2 : ∀ w', Below w.heap.size w w' → _ := fun w' hb => Made_any (g2.below hb)
  have m3 : ∀ w', Below w.heap.size w w' → _ := fun w' hb => Made_any (g3.below hb)
  generalize madeS l1 = a at *
  generalize madeS l2 = b at *
  generalize madeS l3 = c at *
  clear g1 g2 g3
  obtain ⟨s1, h1⟩ : ∃ s, s = Enc (SN a + SN b) := ⟨_, rfl⟩
  obtain ⟨p1, h2⟩ : ∃ s, s = Enc (SN a * SN b) := ⟨_, rfl⟩
  obtain ⟨s2, h3⟩ : ∃ s, s = Enc (SN b + SN c) := ⟨_, rfl⟩
  obtain ⟨p2, h4⟩ : ∃ s, s = Enc (SN a * SN b * SN c) := ⟨_, rfl⟩
  obtain ⟨p3, h5⟩ : ∃ s, s = Enc (SN b * SN c) := ⟨_, rfl⟩
  obtain ⟨m, h6⟩ : ∃ s, s = Enc (SN a * (SN b + SN c)) := ⟨_, rfl⟩
  obtain ⟨p4, h7⟩ : ∃ s, s = Enc (SN a * SN c) := ⟨_, rfl⟩
  obtain ⟨u, hu⟩ : ∃ s, s = Enc (SN a + SN b + SN c) := ⟨_, rfl⟩
  obtain ⟨t, ht⟩ : ∃ s, s = Enc (SN a) := ⟨_, rfl⟩
  have z1 : s1.size ≤ 41 := by rw [h1]; exact Enc_size_add hsa hsb
  have z2 : p1.size ≤ 80 := by rw [h2]; exact Enc_size_mul hsa hsb
  have z3 : s2.size ≤ 41 := by rw [h3]; exact Enc_size_add hsb hsc
  have z5 : p3.size ≤ 80 := by rw [h5]; exact Enc_size_mul hsb hsc
  have z7 : p4.size ≤ 80 := by rw [h7]; exact Enc_size_mul hsa hsc
  have cS1 := fun w => Add_is s1 a b w (by omega) (by omega) h1.symm
  have cS1b := fun w => Add_is s1 b a w (by omega) (by omega) (by rw [h1, Nat.add_comm])
  have cSub := fun w => Sub_is t s1 b w (by omega) (by omega) (by rw [h1, SN_Enc]; omega) (by rw [ht, h1, SN_Enc, Nat.add_sub_cancel])
  have cP1 := fun w => Mul_is p1 a b w (by omega) (by omega) h2.symm
  have cP1b := fun w => Mul_is p1 b a w (by omega) (by omega) (by rw [h2, Nat.mul_comm])
  have cU := fun w => Add_is u s1 c w (by omega) (by omega) (by rw [hu, h1, SN_Enc])
  have cS2 := fun w => Add_is s2 b c w (by omega) (by omega) h3.symm
  have cU2 := fun w => Add_is u a s2 w (by omega) (by omega) (by rw [hu, h3, SN_Enc, Nat.add_assoc])
  have cP2 := fun w => Mul_is p2 p1 c w (by omega) (by omega) (by rw [h4, h2, SN_Enc])
  have cP3 := fun w => Mul_is p3 b c w (by omega) (by omega) h5.symm
  have cP2b := fun w => Mul_is p2 a p3 w (by omega) (by omega) (by rw [h4, h5, SN_Enc, Nat.mul_assoc])
  have cM := fun w => Mul_is m a s2 w (by omega) (by omega) (by rw [h6, h3, SN_Enc])
  have cP4 := fun w => Mul_is p4 a c w (by omega) (by omega) h7.symm
  have cM2 := fun w => Add_is m p1 p4 w (by omega) (by omega) (by rw [h6, h2, h7, SN_Enc, SN_Enc, Nat.mul_add])
  have cE := fun w => Mul_is ⟨#[]⟩ a ⟨#[]⟩ w (by omega) (by decide) (by rw [show SN ⟨#[]⟩ = 0 by kernel_rfl, Nat.mul_zero, Enc_zero])
  have cOne := fun w => Mul_is t a ⟨#[1]⟩ w (by omega) (by decide) (by rw [show SN ⟨#[1]⟩ = 1 by kernel_rfl, Nat.mul_one, ht])
  have cCan := fun w => Canon_any a w (by omega)
  rw [← ht] at cCan
  have M1 := Lib.hid m1; have M2 := Lib.hid m2; have M3 := Lib.hid m3
  have HcS1 := Lib.hid cS1; have HcS1b := Lib.hid cS1b; have HcSub := Lib.hid cSub; have HcP1 := Lib.hid cP1; have HcP1b := Lib.hid cP1b; have HcU := Lib.hid cU; have HcS2 := Lib.hid cS2; have HcU2 := Lib.hid cU2; have HcP2 := Lib.hid cP2; have HcP3 := Lib.hid cP3; have HcP2b := Lib.hid cP2b; have HcM := Lib.hid cM; have HcP4 := Lib.hid cP4; have HcM2 := Lib.hid cM2; have HcE := Lib.hid cE; have HcOne := Lib.hid cOne; have HcCan := Lib.hid cCan
  clear m1 m2 m3 h1 h2 h3 h4 h5 h6 h7 hu ht z1 z2 z3 z5 z7 hsa hsb hsc cS1 cS1b cSub cP1 cP1b cU cS2 cU2 cP2 cP3 cP2b cM cP4 cM2 cE cOne cCan
  have HB := Below.refl w.heap.size w
  go_enter Tryz.func14, Tryz.ntmps14
  go_wp2_with fail
  refine (sanity_any w he).mono ?_
  rintro _ wn ⟨rfl, hn⟩; replace HB := HB.trans (hn.mono HB.size); clear hn
  go_wp2_with fail
  refine (M1.out _ HB).mono ?_
  rintro _ _ ⟨rfl, rfl⟩
  go_wp2_with fail
  refine (M2.out _ HB).mono ?_
  rintro _ _ ⟨rfl, rfl⟩
  go_wp2_with fail
  refine (M3.out _ HB).mono ?_
  rintro _ _ ⟨rfl, rfl⟩
  go_wp2_with fail
  refine (HcS1.out _).mono ?_
  rintro _ wn ⟨rfl, hn⟩; replace HB := HB.trans (hn.mono HB.size); clear hn
  go_wp2_with fail
  refine (HcSub.out _).mono ?_
  rintro _ wn ⟨rfl, hn⟩; replace HB := HB.trans (hn.mono HB.size); clear hn
  go_wp2_with fail
  refine (HcS1.out _).mono ?_
  rintro _ wn ⟨rfl, hn⟩; replace HB := HB.trans (hn.mono HB.size); clear hn
  go_wp2_with fail
  refine (HcS1b.out _).mono ?_
  rintro _ wn ⟨rfl, hn⟩; replace HB := HB.trans (hn.mono HB.size); clear hn
  go_wp2_with fail
  refine (HcP1.out _).mono ?_
  rintro _ wn ⟨rfl, hn⟩; replace HB := HB.trans (hn.mono HB.size); clear hn
  go_wp2_with fail
  refine (HcP1b.out _).mono ?_
  rintro _ wn ⟨rfl, hn⟩; replace HB := HB.trans (hn.mono HB.size); clear hn
  go_wp2_with fail
  refine (HcCan.out _).mono ?_
  rintro _ _ ⟨rfl, rfl⟩
  go_wp2_with fail
  refine (HcS1.out _).mono ?_
  rintro _ wn ⟨rfl, hn⟩; replace HB := HB.trans (hn.mono HB.size); clear hn
  go_wp2_with fail
  refine (HcU.out _).mono ?_
  rintro _ wn ⟨rfl, hn⟩; replace HB := HB.trans (hn.mono HB.size); clear hn
  go_wp2_with fail
  refine (HcS2.out _).mono ?_
  rintro _ wn ⟨rfl, hn⟩; replace HB := HB.trans (hn.mono HB.size); clear hn
  go_wp2_with fail
  refine (HcU2.out _).mono ?_
  rintro _ wn ⟨rfl, hn⟩; replace HB := HB.trans (hn.mono HB.size); clear hn
  go_wp2_with fail
  refine (HcP1.out _).mono ?_
  rintro _ wn ⟨rfl, hn⟩; replace HB := HB.trans (hn.mono HB.size); clear hn
  go_wp2_with fail
  refine (HcP2.out _).mono ?_
  rintro _ wn ⟨rfl, hn⟩; replace HB := HB.trans (hn.mono HB.size); clear hn
  go_wp2_with fail
  refine (HcP3.out _).mono ?_
  rintro _ wn ⟨rfl, hn⟩; replace HB := HB.trans (hn.mono HB.size); clear hn
  go_wp2_with fail
  refine (HcP2b.out _).mono ?_
  rintro _ wn ⟨rfl, hn⟩; replace HB := HB.trans (hn.mono HB.size); clear hn
  go_wp2_with fail
  refine (HcS2.out _).mono ?_
  rintro _ wn ⟨rfl, hn⟩; replace HB := HB.trans (hn.mono HB.size); clear hn
  go_wp2_with fail
  refine (HcM.out _).mono ?_
  rintro _ wn ⟨rfl, hn⟩; replace HB := HB.trans (hn.mono HB.size); clear hn
  go_wp2_with fail
  refine (HcP1.out _).mono ?_
  rintro _ wn ⟨rfl, hn⟩; replace HB := HB.trans (hn.mono HB.size); clear hn
  go_wp2_with fail
  refine (HcP4.out _).mono ?_
  rintro _ wn ⟨rfl, hn⟩; replace HB := HB.trans (hn.mono HB.size); clear hn
  go_wp2_with fail
  refine (HcM2.out _).mono ?_
  rintro _ wn ⟨rfl, hn⟩; replace HB := HB.trans (hn.mono HB.size); clear hn
  go_wp2_with fail
  refine (HcE.out _).mono ?_
  rintro _ wn ⟨rfl, hn⟩; replace HB := HB.trans (hn.mono HB.size); clear hn
  go_wp2_with fail
  refine (HcOne.out _).mono ?_
  rintro _ wn ⟨rfl, hn⟩; replace HB := HB.trans (hn.mono HB.size); clear hn
  go_wp2_with fail
  go_ret
  exact ⟨rfl, HB⟩

#print axioms Ring_walk
end Go.Proofs.YtmbgohaljiiigaaGreatDoor
