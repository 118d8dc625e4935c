/- sorteslaw01.NatDivides: the walk. -/
import Derived.Test.YtmbgohaljiiigaaGreatDoorSanityW
import Derived.Test.YtmbgohaljiiigaaGreatDoorMade
import Derived.Test.YtmbgohaljiiigaaGreatDoorIs
namespace Go.Proofs.YtmbgohaljiiigaaGreatDoor
open Go.RowKit Num

set_option maxRecDepth 100000 in
set_option maxHeartbeats 4000000 in
theorem Divides_zero {v1 v2 : Value} {l1 l2 : List Nat} {w : World} (he : Env w) (h1 : Sl .u8 w v1 l1) (h2 : Sl .u8 w v2 l2) (hz : SN (madeS l2) = 0) :
    Calls Tryz.prog 17 #[v1, v2] w fun e w' => e = .returned (.bool true) ∧ Below w.heap.size w w' := by
  have hsa := madeS_size l1
  have hsb := madeS_size l2
  have m1 : ∀ w', Below w.heap.size w w' → _ := fun w' hb => Made_any (h1.below hb)
  have m2 : ∀ w', Below w.heap.size w w' → _ := fun w' hb => Made_any (h2.below hb)
  generalize madeS l1 = a at *
  generalize madeS l2 = b at *
  have M1 := Lib.hid m1; have M2 := Lib.hid m2; have HZ := Lib.hid hz
  clear m1 m2 h1 h2 hz
  have HB := Below.refl w.heap.size w
  go_enter Tryz.func17, Tryz.ntmps17
  go_wp2_with fail
  refine (sanity_any w he).mono ?_
  rintro _ w1 ⟨rfl, hn⟩; replace HB := HB.trans (hn.mono HB.size); clear hn
  go_wp2_with fail
  refine (M1.out _ HB).mono ?_
  rintro _ _ ⟨rfl, rfl⟩
  go_wp2_with fail
  refine (M2.out _ HB).mono ?_
  rintro _ _ ⟨rfl, rfl⟩
  go_wp2_with fail
  refine (Quo_none a b _ (by omega) HZ.out).mono ?_
  rintro _ w2 ⟨rfl, hn⟩; replace HB := HB.trans (hn.mono HB.size); clear hn
  go_wp2_with fail
  refine (Bits_is 0 b _ (by omega) (by rw [HZ.out]; rfl)).mono ?_
  rintro _ w3 ⟨rfl, hn⟩; replace HB := HB.trans (hn.mono HB.size); clear hn
  go_wp2_with fail
  go_ret
  exact ⟨rfl, HB⟩

set_option maxRecDepth 100000 in
set_option maxHeartbeats 4000000 in
theorem Divides_pos {v1 v2 : Value} {l1 l2 : List Nat} {w : World} (he : Env w) (h1 : Sl .u8 w v1 l1) (h2 : Sl .u8 w v2 l2) (hz : 0 < SN (madeS l2)) :
    Calls Tryz.prog 17 #[v1, v2] w fun e w' => e = .returned (.bool true) ∧ Below w.heap.size w w' := by
  have hsa := madeS_size l1
  have hsb := madeS_size l2
  have m1 : ∀ w', Below w.heap.size w w' → _ := fun w' hb => Made_any (h1.below hb)
  have m2 : ∀ w', Below w.heap.size w w' → _ := fun w' hb => Made_any (h2.below hb)
  generalize madeS l1 = a at *
  generalize madeS l2 = b at *
  have ha := size_lt hsa
  have hb := size_lt hsb
  obtain ⟨q, hq⟩ : ∃ q, q = Enc (SN a / SN b) := ⟨_, rfl⟩
  obtain ⟨r, hr⟩ : ∃ r, r = Enc (SN a % SN b) := ⟨_, rfl⟩
  obtain ⟨p, hp⟩ : ∃ p, p = Enc (SN b * (SN a / SN b)) := ⟨_, rfl⟩
  obtain ⟨t, ht⟩ : ∃ t, t = Enc (SN a) := ⟨_, rfl⟩
  obtain ⟨o, ho⟩ : ∃ o, o = Enc (SN a * SN b) := ⟨_, rfl⟩
  have sq : q.size ≤ 40 := by rw [hq]; exact Enc_size_le (Nat.lt_of_le_of_lt (Nat.div_le_self _ _) ha)
  have sr : r.size ≤ 40 := by rw [hr]; exact Enc_size_le (Nat.lt_of_le_of_lt (Nat.mod_le _ _) ha)
  have sp : p.size ≤ 40 := by rw [hp]; exact Enc_size_le (Nat.lt_of_le_of_lt (Nat.mul_div_le _ _) ha)
  have st : t.size ≤ 40 := by rw [ht]; exact Enc_size_le ha
  have so : o.size ≤ 80 := by rw [ho]; exact Enc_size_le (by rw [show (256 : Nat) ^ 80 = 256 ^ 40 * 256 ^ 40 by rw [← Nat.pow_add]]; exact Nat.mul_lt_mul'' ha hb)
  obtain ⟨x, hx⟩ : ∃ x, x = natBits (SN a) := ⟨_, rfl⟩
  obtain ⟨y, hy⟩ : ∃ y, y = natBits (SN b) := ⟨_, rfl⟩
  obtain ⟨z, hz2⟩ : ∃ z, z = natBits (SN a * SN b) := ⟨_, rfl⟩
  have bx : x ≤ 320 := by rw [hx]; exact natBits_bytes ha
  have bY : y ≤ 320 := by rw [hy]; exact natBits_bytes hb
  have hy0 : 0 < y := by rw [hy]; exact natBits_pos hz
  have hcase : (x = 0 ∧ z = 0) ∨ (0 < x ∧ (x + y = z ∨ x + y = z + 1)) := by
    rcases Nat.eq_zero_or_pos (SN a) with h0 | h0
    · left; rw [hx, hz2, h0]; simp [natBits]
    · right; rw [hx, hy, hz2]; exact ⟨natBits_pos h0, natBits_mul h0 hz⟩
  have cq := fun w => Quo_is q r a b w (by omega) (by omega) hz hq.symm hr.symm
  have cc := fun w => Cmp_is (-1) r b w (by omega) (by omega) (by rw [hr, SN_Enc]; exact cmpZ_lt (Nat.mod_lt _ hz))
  have cm := fun w => Mul_is p b q w (by omega) (by omega) (by rw [hp, hq, SN_Enc])
  have ca := fun w => Add_is t p r w (by omega) (by omega) (by rw [ht, hp, hr, SN_Enc, SN_Enc, Nat.div_add_mod])
  have cz := fun w => Cmp_is 0 t a w (by omega) (by omega) (by rw [ht, SN_Enc]; exact cmpZ_eq rfl)
  have rq := fun w => Right_is true q w (by rw [hq]; exact rightB_Enc _)
  have rr := fun w => Right_is true r w (by rw [hr]; exact rightB_Enc _)
  have ba := fun w => Bits_is x a w (by omega) hx.symm
  have bb := fun w => Bits_is y b w (by omega) hy.symm
  have co := fun w => Mul_is o a b w (by omega) (by omega) ho.symm
  have bo := fun w => Bits_is z o w (by omega) (by rw [ho, SN_Enc]; exact hz2.symm)
  have M1 := Lib.hid m1; have M2 := Lib.hid m2
  have Cq := Lib.hid cq; have Cc := Lib.hid cc; have Cm := Lib.hid cm; have Ca := Lib.hid ca; have Cz := Lib.hid cz; have Rq := Lib.hid rq; have Rr := Lib.hid rr; have Ba := Lib.hid ba; have Bb := Lib.hid bb; have Co := Lib.hid co; have Bo := Lib.hid bo
  clear m1 m2 h1 h2 hz cq cc cm ca cz rq rr ba bb co bo hq hr hp ht ho hx hy hz2 ha hb sq sr sp st so
  have HB := Below.refl w.heap.size w
  go_enter Tryz.func17, Tryz.ntmps17
  go_wp2_with fail
  refine (sanity_any w he).mono ?_
  rintro _ w1 ⟨rfl, hn⟩; replace HB := HB.trans (hn.mono HB.size); clear hn
  go_wp2_with fail
  refine (M1.out _ HB).mono ?_
  rintro _ _ ⟨rfl, rfl⟩
  go_wp2_with fail
  refine (M2.out _ HB).mono ?_
  rintro _ _ ⟨rfl, rfl⟩
  go_wp2_with fail
  refine (Cq.out _).mono ?_
  rintro _ w2 ⟨rfl, hn⟩; replace HB := HB.trans (hn.mono HB.size); clear hn
  go_wp2_with fail
  refine (Bb.out _).mono ?_
  rintro _ w3 ⟨rfl, hn⟩; replace HB := HB.trans (hn.mono HB.size); clear hn
  go_wp2_with fail
  refine (Cc.out _).mono ?_
  rintro _ w4 ⟨rfl, hn⟩; replace HB := HB.trans (hn.mono HB.size); clear hn
  go_wp2_with fail
  refine (Cm.out _).mono ?_
  rintro _ w5 ⟨rfl, hn⟩; replace HB := HB.trans (hn.mono HB.size); clear hn
  go_wp2_with fail
  refine (Ca.out _).mono ?_
  rintro _ w6 ⟨rfl, hn⟩; replace HB := HB.trans (hn.mono HB.size); clear hn
  go_wp2_with fail
  refine (Cz.out _).mono ?_
  rintro _ w7 ⟨rfl, hn⟩; replace HB := HB.trans (hn.mono HB.size); clear hn
  go_wp2_with fail
  refine (Rq.out _).mono ?_
  rintro _ _ ⟨rfl, rfl⟩
  go_wp2_with fail
  refine (Rr.out _).mono ?_
  rintro _ _ ⟨rfl, rfl⟩
  go_wp2_with fail
  refine (Ba.out _).mono ?_
  rintro _ w8 ⟨rfl, hn⟩; replace HB := HB.trans (hn.mono HB.size); clear hn
  go_wp2_with fail
  refine (Bb.out _).mono ?_
  rintro _ w9 ⟨rfl, hn⟩; replace HB := HB.trans (hn.mono HB.size); clear hn
  go_wp2_with fail
  refine (Co.out _).mono ?_
  rintro _ w10 ⟨rfl, hn⟩; replace HB := HB.trans (hn.mono HB.size); clear hn
  go_wp2_with fail
  refine (Bo.out _).mono ?_
  rintro _ w11 ⟨rfl, hn⟩; replace HB := HB.trans (hn.mono HB.size); clear hn
  rcases hcase with ⟨rfl, rfl⟩ | ⟨hx0, hc⟩
  · go_wp2_with fail
    refine (Ba.out _).mono ?_
    rintro _ w12 ⟨rfl, hn⟩; replace HB := HB.trans (hn.mono HB.size); clear hn
    go_wp2_with fail
    refine (Bb.out _).mono ?_
    rintro _ w13 ⟨rfl, hn⟩; replace HB := HB.trans (hn.mono HB.size); clear hn
    have e0 : ((y : Int) == (y : Int)) = true := by simp
    go_wp2_with fail
    go_ret
    exact ⟨rfl, HB⟩
  · have hx1 : ((x : Int) == 0) = false := by simp; omega
    have hx2 : (0 : Int) < (x : Int) := by omega
    go_wp2_with fail
    refine (Ba.out _).mono ?_
    rintro _ w12 ⟨rfl, hn⟩; replace HB := HB.trans (hn.mono HB.size); clear hn
    go_wp2_with fail
    refine (Ba.out _).mono ?_
    rintro _ w13 ⟨rfl, hn⟩; replace HB := HB.trans (hn.mono HB.size); clear hn
    rcases hc with hc | hc
    · have hc1 : (x : Int) + (y : Int) = (z : Int) := by omega
      go_wp2_with fail
      go_ret
      exact ⟨rfl, HB⟩
    · have hc1 : (x : Int) + (y : Int) = (z : Int) + 1 := by omega
      have hc2 : (z : Int) + 1 - (z : Int) = 1 := by omega
      go_wp2_with fail
      go_ret
      exact ⟨rfl, HB⟩

#print axioms Divides_pos
end Go.Proofs.YtmbgohaljiiigaaGreatDoor
