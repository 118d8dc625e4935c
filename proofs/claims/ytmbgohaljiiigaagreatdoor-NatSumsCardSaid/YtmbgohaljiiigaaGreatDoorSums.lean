/- sorteslaw01.NatSums: the walk. -/
import Derived.Test.YtmbgohaljiiigaaGreatDoorSanityW
import Derived.Test.YtmbgohaljiiigaaGreatDoorMade
import Derived.Test.YtmbgohaljiiigaaGreatDoorRSub
import Derived.Test.YtmbgohaljiiigaaGreatDoorRBits
import Derived.Test.YtmbgohaljiiigaaGreatDoorPairs
import Derived.Deep.RegionHeld3
namespace Go.Proofs.YtmbgohaljiiigaaGreatDoor
open Go.RowKit Num

set_option maxRecDepth 100000 in
set_option maxHeartbeats 4000000 in
theorem Sums_walk {v1 v2 : Value} {l1 l2 : List Nat} {w : World} (he : Env w) (g1 : Sl .u8 w v1 l1) (g2 : Sl .u8 w v2 l2) :
    Calls Tryz.prog 16 #[v1, v2] w fun e w' => e = .returned (.bool true) ∧ Below w.heap.size w w' := by
  have hsa := madeS_size l1
  have hsb := madeS_size l2
  have m1 : ∀ w', Below w.heap.size w w' → _ := fun w' hb => Made_any (g1.below hb)
  have m2 : ∀ w', Below w.heap.size w w' → _ := fun w' hb => Made_any (g2.below hb)
  generalize madeS l1 = a at *
  generalize madeS l2 = b at *
  clear g1 g2
  have M1 := Lib.hid m1; have M2 := Lib.hid m2
  clear m1 m2
  have hpl : ∃ ps : List (ByteArray × ByteArray), ps = [(a, b), (b, a), (a, a), (a ++ ⟨#[0]⟩, b)] := ⟨_, rfl⟩
  obtain ⟨ps, hps⟩ := hpl
  have hpn : ps.length = 4 := by rw [hps]; rfl
  have hpz : ∀ x ∈ ps, x.1.size ≤ 41 ∧ x.2.size ≤ 41 := by
    intro x hx
    rw [hps] at hx
    simp only [List.mem_cons, List.not_mem_nil, or_false] at hx
    rcases hx with rfl | rfl | rfl | rfl
    · exact ⟨by show a.size ≤ _; omega, by show b.size ≤ _; omega⟩
    · exact ⟨by show b.size ≤ _; omega, by show a.size ≤ _; omega⟩
    · exact ⟨by show a.size ≤ _; omega, by show a.size ≤ _; omega⟩
    · refine ⟨?_, by show b.size ≤ _; omega⟩
      show (a ++ _).size ≤ _
      rw [ByteArray.size_append]
      have : (ByteArray.mk #[0]).size = 1 := rfl
      omega
  have HPS := Lib.hid hps; have HPN := Lib.hid hpn; have HPZ := Lib.hid hpz
  clear hps hpn hpz
  obtain ⟨s, hs⟩ : ∃ s, s = Enc (SN a + SN b) := ⟨_, rfl⟩
  have c1 := fun w => Right_any a w
  have c2 := fun w => RRight_any a w
  have c3 := fun w => Add_is s a b w (by omega) (by omega) hs.symm
  have c4 := fun w => Right_is true s w (by rw [hs]; exact rightB_Enc _)
  generalize rightB a.data.toList = rb at c1 c2
  have C1 := Lib.hid c1; have C2 := Lib.hid c2; have C3 := Lib.hid c3; have C4 := Lib.hid c4
  clear c1 c2 c3 c4 hs
  have HB := Below.refl w.heap.size w
  go_enter Tryz.func16, Tryz.ntmps16
  go_wp2_with fail
  refine (sanity_any w he).mono ?_
  rintro _ wn ⟨rfl, hn⟩; replace HB := HB.trans (hn.mono HB.size); clear hn
  go_wp2_with fail
  refine (M1.out _ HB).mono ?_
  rintro _ _ ⟨rfl, rfl⟩
  go_wp2_with fail
  refine (M2.out _ HB).mono ?_
  rintro _ _ ⟨rfl, rfl⟩
  go_wp2_with fail
  go_loopw [34] (fun i wr => PairsR w wn.heap.size ps i wr) (fun i _ => 4 - (intOf i).toNat)
  case atStart =>
    refine ⟨0, by omega, rfl, ?_, HB.alloc HB.size _⟩
    rw [HPS.out]
    exact Blk.new wn 59 ([(a, b), (b, a), (a, a), (a ++ ⟨#[0]⟩, b)].flatMap fun p : ByteArray × ByteArray => [Value.string p.1, Value.string p.2])
  case round =>
    clear HB
    obtain ⟨k, hk, rfl, hB, hbel⟩ := hrel
    have HBB := Lib.hid hB; have HBel := Lib.hid hbel
    clear hB hbel
    have hk7 : k ≤ 4 := by have := HPN.out; omega
    rcases Nat.lt_or_ge k ps.length with hlt | hge
    · have hk6 : k < 4 := by have := HPN.out; omega
      obtain ⟨h1, h2⟩ := pairsR_at ps k hlt
      have hc1 := HBB.out.cell (2 * k)
      have hc2 := HBB.out.cell (2 * k + 1)
      rw [h1, Nat.mul_comm] at hc1
      rw [h2, Nat.mul_comm 2] at hc2
      obtain ⟨z1, z2⟩ := HPZ.out ps[k] (List.getElem_mem hlt)
      generalize ps[k].1 = x at *
      generalize ps[k].2 = y at *
      have hlt' := HBB.out.lt
      have hnb := Blk.new wr 59 [.string x, .string y]
      have HNB := Lib.hid hnb
      clear h1 h2 hlt hk hnb
      obtain ⟨q, hq⟩ : ∃ q, subStr (SN x) (SN y) = q := ⟨_, rfl⟩
      obtain ⟨v, hv⟩ : ∃ v, decide (SN y ≤ SN x) = v := ⟨_, rfl⟩
      obtain ⟨t, ht⟩ : ∃ t, Enc (SN x + SN y) = t := ⟨_, rfl⟩
      obtain ⟨z, hz⟩ : ∃ z, cmpZ (SN x) (SN y) = z := ⟨_, rfl⟩
      have d1 := fun w => NSub_is q v x y w (by omega) (by omega) hq hv
      have d2 := fun w => RSub_is q v x y w (by omega) (by omega) hq hv
      have d3 := fun w => Add_is t x y w (by omega) (by omega) ht
      have d4 := fun w => RAdd_is t x y w (by omega) (by omega) ht
      have d5 := fun w => Cmp_is z x y w (by omega) (by omega) hz
      have d6 := fun w => RCmp_is z x y w (by omega) (by omega) hz
      have D1 := Lib.hid d1; have D2 := Lib.hid d2; have D3 := Lib.hid d3; have D4 := Lib.hid d4; have D5 := Lib.hid d5; have D6 := Lib.hid d6
      clear d1 d2 d3 d4 d5 d6 hq hv ht hz
      go_wp2_with fail
      refine (D1.out _).mono ?_
      rintro _ w4 ⟨rfl, hb4⟩
      have hcx : w4.cell? ⟨wr.heap.size, 0, none⟩ = some (.string x) := (hb4.cell (p := ⟨wr.heap.size, 0, none⟩) (by simp)).trans (HNB.out.cell 0)
      have hcy : w4.cell? ⟨wr.heap.size, 1, none⟩ = some (.string y) := (hb4.cell (p := ⟨wr.heap.size, 1, none⟩) (by simp)).trans (HNB.out.cell 1)
      have HB4 := Lib.hid (((Below.refl wr.heap.size wr).alloc (Nat.le_refl _) _).trans (hb4.mono (by simp)))
      have hz4 : wr.heap.size < w4.heap.size := by have := hb4.size; simp at this; omega
      clear hb4
      go_wp2_with fail
      refine (D2.out _).mono ?_
      rintro _ w5 ⟨rfl, hb5⟩
      have hx5 := (hb5.cell (p := ⟨wr.heap.size, 0, none⟩) hz4).trans hcx
      have hy5 := (hb5.cell (p := ⟨wr.heap.size, 1, none⟩) hz4).trans hcy
      have hz5 : wr.heap.size < w5.heap.size := Nat.lt_of_lt_of_le hz4 hb5.size
      have HB5 := Lib.hid (HB4.out.trans (hb5.mono HB4.out.size))
      clear hb5 hcx hcy
      go_wp2_with fail
      go_region_held3 (fun w' => w'.cell? ⟨wr.heap.size, 0, none⟩ = some (.string x) ∧ w'.cell? ⟨wr.heap.size, 1, none⟩ = some (.string y))
        (first | exact ⟨hx8, hy8⟩ | exact ⟨hx7, hy7⟩ | exact ⟨hx6, hy6⟩ | go_keep)
        ((first
          | (go_at_call 67; (with_reducible refine (D3.out _).mono ?_); rintro _ w6 ⟨rfl, hb6⟩; have hx6 := (hb6.cell (p := ⟨wr.heap.size, 0, none⟩) hz5).trans hx5; have hy6 := (hb6.cell (p := ⟨wr.heap.size, 1, none⟩) hz5).trans hy5; have hz6 : wr.heap.size < w6.heap.size := Nat.lt_of_lt_of_le hz5 hb6.size)
          | (go_at_call 24; (with_reducible refine (D4.out _).mono ?_); rintro _ w7 ⟨rfl, hb7⟩; have hx7 := (hb7.cell (p := ⟨wr.heap.size, 0, none⟩) hz6).trans hx6; have hy7 := (hb7.cell (p := ⟨wr.heap.size, 1, none⟩) hz6).trans hy6; have hz7 : wr.heap.size < w7.heap.size := Nat.lt_of_lt_of_le hz6 hb7.size)
          | (go_at_call 68; (with_reducible refine (D5.out _).mono ?_); rintro _ w8 ⟨rfl, hb8⟩; have hx8 := (hb8.cell (p := ⟨wr.heap.size, 0, none⟩) hz7).trans hx7; have hy8 := (hb8.cell (p := ⟨wr.heap.size, 1, none⟩) hz7).trans hy7; have hz8 : wr.heap.size < w8.heap.size := Nat.lt_of_lt_of_le hz7 hb8.size)
          | (go_at_call 69; (with_reducible refine (D6.out _).mono ?_); rintro _ _ ⟨rfl, rfl⟩)))
      have g6 := ((HB5.out).drew).trans (hb6.mono HB5.out.size)
      have g7 := g6.trans (hb7.mono g6.size)
      have HG := Lib.hid (g7.trans (hb8.mono g7.size))
      clear g6 g7 hb6 hb7 hb8 hx6 hx7 hx8 hy6 hy7 hy8
      go_wp2_with fail
      go_roundw
      case rel => first | exact ⟨k + 1, by have := HPN.out; omega, by go_num, HBB.out.below hlt' HG.out, HBel.out.trans (HG.out.mono HBel.out.size)⟩ | ((repeat apply Exists.intro); exact ⟨⟨k + 1, by have := HPN.out; omega, by go_num, HBB.out.below hlt' HG.out, HBel.out.trans (HG.out.mono HBel.out.size)⟩, rfl⟩)
      case measure => simp [intOf]; omega
    · have hk7' : k = 4 := by have := HPN.out; omega
      subst hk7'
      go_wp2_with fail
      refine (C1.out _).mono ?_
      rintro _ _ ⟨rfl, rfl⟩
      go_wp2_with fail
      refine (C2.out _).mono ?_
      rintro _ _ ⟨rfl, rfl⟩
      go_wp2_with fail
      refine (C3.out _).mono ?_
      rintro _ w4 ⟨rfl, hb4⟩
      go_wp2_with fail
      refine (C4.out _).mono ?_
      rintro _ _ ⟨rfl, rfl⟩
      go_wp2_with fail
      go_ret
      exact ⟨rfl, HBel.out.trans (hb4.mono HBel.out.size)⟩

#print axioms Sums_walk
end Go.Proofs.YtmbgohaljiiigaaGreatDoor
