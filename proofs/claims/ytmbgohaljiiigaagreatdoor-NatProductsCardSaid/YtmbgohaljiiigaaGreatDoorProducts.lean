/- sorteslaw01.NatProducts: the walk. -/
import Derived.Test.YtmbgohaljiiigaaGreatDoorSanityW
import Derived.Test.YtmbgohaljiiigaaGreatDoorMade
import Derived.Test.YtmbgohaljiiigaaGreatDoorRSub
namespace Go.Proofs.YtmbgohaljiiigaaGreatDoor
open Go.RowKit Num

set_option maxRecDepth 100000 in
set_option maxHeartbeats 4000000 in
theorem Products_walk {v1 v2 : Value} {l1 l2 : List Nat} {w : World} (he : Env w) (g1 : Sl .u8 w v1 l1) (g2 : Sl .u8 w v2 l2) :
    Calls Tryz.prog 12 #[v1, v2] w fun e w' => e = .returned (.bool true) ∧ Below w.heap.size w w' := by
  have hsa := madeS_size l1
  have hsb := madeS_size l2
  have m1 : ∀ w', Below w.heap.size w w' → _ := fun w' hb => Made_any (g1.below hb)
  have m2 : ∀ w', Below w.heap.size w w' → _ := fun w' hb => Made_any (g2.below hb)
  generalize madeS l1 = a at *
  generalize madeS l2 = b at *
  clear g1 g2
  obtain ⟨p1, h1⟩ : ∃ s, s = Enc (SN a * SN b) := ⟨_, rfl⟩
  obtain ⟨p2, h2⟩ : ∃ s, s = Enc (SN a * SN a) := ⟨_, rfl⟩
  have c1 := fun w => Mul_is p1 a b w (by omega) (by omega) h1.symm
  have c2 := fun w => RMul_is p1 a b w (by omega) (by omega) h1.symm
  have c3 := fun w => Mul_is p2 a a w (by omega) (by omega) h2.symm
  have c4 := fun w => RMul_is p2 a a w (by omega) (by omega) h2.symm
  have M1 := Lib.hid m1; have M2 := Lib.hid m2
  have C1 := Lib.hid c1; have C2 := Lib.hid c2; have C3 := Lib.hid c3; have C4 := Lib.hid c4
  clear m1 m2 h1 h2 hsa hsb c1 c2 c3 c4
  have HB := Below.refl w.heap.size w
  go_enter Tryz.func12, Tryz.ntmps12
  go_wp2_with fail
  refine (sanity_any w he).mono ?_
  rintro _ wn ⟨rfl, hn⟩; replace HB := HB.trans (hn.mono HB.size); clear hn
  go_wp2_with fail
  refine (M1.out _ HB).mono ?_
  rintro _ _ ⟨rfl, rfl⟩
  go_wp2_with fail
  refine (M2.out _ HB).mono ?_
  rintro _ _ ⟨rfl, rfl⟩
  go_wp2_with fail
  refine (C1.out _).mono ?_
  rintro _ wn ⟨rfl, hn⟩; replace HB := HB.trans (hn.mono HB.size); clear hn
  go_wp2_with fail
  refine (C2.out _).mono ?_
  rintro _ wn ⟨rfl, hn⟩; replace HB := HB.trans (hn.mono HB.size); clear hn
  go_wp2_with fail
  refine (C3.out _).mono ?_
  rintro _ wn ⟨rfl, hn⟩; replace HB := HB.trans (hn.mono HB.size); clear hn
  go_wp2_with fail
  refine (C4.out _).mono ?_
  rintro _ wn ⟨rfl, hn⟩; replace HB := HB.trans (hn.mono HB.size); clear hn
  go_wp2_with fail
  go_ret
  exact ⟨rfl, HB⟩

#print axioms Products_walk
end Go.Proofs.YtmbgohaljiiigaaGreatDoor
