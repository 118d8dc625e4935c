/- sorteslaw01.NatPows: the walk. -/
import Derived.Test.YtolmjeglaolhlaaGreatDoorSanity
import Derived.Test.YtolmjeglaolhlaaGreatDoorNats
import Derived.Test.YtolmjeglaolhlaaGreatDoorOddPow
import Derived.Test.YtolmjeglaolhlaaGreatDoorRPow
import Derived.Test.YtolmjeglaolhlaaGreatDoorPlain
import Derived.Deep.QuietTactic
import Derived.BigQuiet
import Derived.RegionTactic
import Derived.BigRegion
namespace Go.Proofs.YtolmjeglaolhlaaGreatDoor
open Go.RowKit Num

theorem pow_same (a e m : Nat) : powS a e m = powStr a e m := by
  unfold powS powStr
  split
  · rw [Enc_zero]
  · rfl

/-- What the loop holds: the block of the moduli. -/
def PowsRel (w : World) (B : Nat) (ss : List ByteArray) (i : Value) (wr : World) : Prop :=
  ∃ k : Nat, k ≤ ss.length ∧ i = .int .i64 (k : Int) ∧ Blk wr B 24 (ss.map Value.string) ∧ Below w.heap.size w wr

set_option maxRecDepth 100000 in
set_option maxHeartbeats 4000000 in
theorem Pows_walk {v1 v2 v3 : Value} {l1 l2 l3 : List Nat} {w : World} (he : Env w) (g1 : Sl .u8 w v1 l1) (g2 : Sl .u8 w v2 l2) (g3 : Sl .u8 w v3 l3) :
    Calls Tryz.prog 3 #[v1, v2, v3] w fun e w' => e = .returned (.bool true) ∧ Below w.heap.size w w' := by
  have g1' := g1; have g2' := g2; have g3' := g3
  obtain ⟨a1, c1, rfl, hn1, hc1, -⟩ := g1'
  obtain ⟨a2, c2, rfl, hn2, hc2, -⟩ := g2'
  obtain ⟨a3, c3, rfl, hn3, hc3, -⟩ := g3'
  obtain ⟨n1, hnn1⟩ : ∃ n, l1.length = n := ⟨_, rfl⟩
  obtain ⟨n2, hnn2⟩ : ∃ n, l2.length = n := ⟨_, rfl⟩
  obtain ⟨n3, hnn3⟩ : ∃ n, l3.length = n := ⟨_, rfl⟩
  rw [hnn1] at hn1 g1 ⊢
  rw [hnn2] at hn2 g2 ⊢
  rw [hnn3] at hn3 g3 ⊢
  obtain ⟨m1, hm1, hi1, hb1⟩ : ∃ m : Nat, m ≤ n1 ∧ min (n1 : Int) 24 = (m : Int) ∧ m ≤ 24 := ⟨min n1 24, by omega, by omega, by omega⟩
  obtain ⟨m2, hm2, hi2, hb2⟩ : ∃ m : Nat, m ≤ n2 ∧ min (n2 : Int) 12 = (m : Int) ∧ m ≤ 12 := ⟨min n2 12, by omega, by omega, by omega⟩
  obtain ⟨m3, hm3, hi3, hb3⟩ : ∃ m : Nat, m ≤ n3 ∧ min (n3 : Int) 24 = (m : Int) ∧ m ≤ 24 := ⟨min n3 24, by omega, by omega, by omega⟩
  have k1 : ∀ w', Below w.heap.size w w' → _ := fun w' hb => conv_cut ((g1.cutTo m1 hm1).below hb)
  have k2 : ∀ w', Below w.heap.size w w' → _ := fun w' hb => conv_cut ((g2.cutTo m2 hm2).below hb)
  have k3 : ∀ w', Below w.heap.size w w' → _ := fun w' hb => conv_cut ((g3.cutTo m3 hm3).below hb)
  have hsa := bytes_size (l1.take m1)
  have hsb := bytes_size (l2.take m2)
  have hsc := bytes_size (l3.take m3)
  rw [List.length_take, hnn1, Nat.min_eq_left hm1] at hsa
  rw [List.length_take, hnn2, Nat.min_eq_left hm2] at hsb
  rw [List.length_take, hnn3, Nat.min_eq_left hm3] at hsc
  generalize (ByteArray.mk ((l1.take m1).map UInt8.ofNat).toArray) = a at *
  generalize (ByteArray.mk ((l2.take m2).map UInt8.ofNat).toArray) = b at *
  generalize (ByteArray.mk ((l3.take m3).map UInt8.ofNat).toArray) = c at *
  clear hnn1 hnn2 hnn3 g1 g2 g3
  obtain ⟨c', hc'⟩ : ∃ g, g = Enc (SN c + SN ⟨#[1]⟩) := ⟨_, rfl⟩
  have z1 : c'.size ≤ 40 := by
    rw [hc']
    refine Nat.le_trans (Enc_size_le (k := 25) ?_) (by omega)
    have h1 := size_lt (a := c) (k := 24) (by omega)
    have h2 : SN ⟨#[1]⟩ = 1 := by kernel_rfl
    rw [h2, Nat.pow_succ]; omega
  have d1 := fun w => RAdd_is c' c ⟨#[1]⟩ w (by omega) (by decide) hc'.symm
  have K1 := Lib.hid k1; have K2 := Lib.hid k2; have K3 := Lib.hid k3; have D1 := Lib.hid d1
  have HB := (Below.refl w.heap.size w)
  clear k1 k2 k3 d1 hc'
  go_enter Tryz.func3, Tryz.ntmps3
  go_wp2_with fail
  refine (sanity_any w he).mono ?_
  rintro _ wn ⟨rfl, hn⟩; replace HB := HB.trans (hn.mono HB.size); clear hn
  have q1 : (0 : Int) ≤ (m1 : Int) := by omega
  have q1' : (m1 : Int) ≤ (c1 : Int) := by omega
  have q2 : (0 : Int) ≤ (m2 : Int) := by omega
  have q2' : (m2 : Int) ≤ (c2 : Int) := by omega
  have q3 : (0 : Int) ≤ (m3 : Int) := by omega
  have q3' : (m3 : Int) ≤ (c3 : Int) := by omega
  have e1 := fun q => K1.out (wn.drewN q) (belowDrewN HB q)
  have e2 := fun q => K2.out (wn.drewN q) (belowDrewN HB q)
  have e3 := fun q => K3.out (wn.drewN q) (belowDrewN HB q)
  clear K1 K2 K3
  go_wp2_with fail
  go_quiet (fail)
  have HB2 := belowDrewN HB nq
  clear e1 e2 e3 q1 q1' q2 q2' q3 q3' hi1 hi2 hi3 HB
  generalize wn.drewN nq = w2 at *
  go_wp2_with fail
  refine (D1.out _).mono ?_
  rintro _ w3 ⟨rfl, hb3⟩
  have HB3 := Lib.hid (HB2.trans (hb3.mono HB2.size))
  clear hb3 HB2 D1
  obtain ⟨ss, hss⟩ : ∃ ss : List ByteArray, ss = [c, c', ⟨#[138, 0, 176, 218, 162, 135, 68, 214, 164, 195, 198, 36, 84, 110, 75, 89]⟩] := ⟨_, rfl⟩
  have hsl : ss.length = 3 := by rw [hss]; rfl
  have hsr : ∀ z ∈ ss, z.size ≤ 40 := by
    intro z hs
    rw [hss] at hs
    simp only [List.mem_cons, List.not_mem_nil, or_false] at hs
    rcases hs with rfl | rfl | rfl
    · omega
    · omega
    · decide
  have HSS := Lib.hid hss; have HSL := Lib.hid hsl; have HSR := Lib.hid hsr
  clear hss hsl hsr
  go_wp2_with fail
  go_loopw [41] (fun i wr => PowsRel w w3.heap.size ss i wr) (fun i _ => 3 - (intOf i).toNat)
  case atStart => exact ⟨0, by omega, rfl, by rw [HSS.out]; exact Blk.new _ _ _, HB3.out.alloc HB3.out.size _⟩
  case round =>
    obtain ⟨k, hk, rfl, hB, hbel⟩ := hrel
    have HBB := Lib.hid hB; have HBel := Lib.hid hbel
    clear hB hbel
    have hk6 : k ≤ 3 := by have := HSL.out; omega
    rcases Nat.lt_or_ge k ss.length with hlt | hge
    · have hk7 : k < 3 := by have := HSL.out; omega
      have hcell : wr.cell? ⟨w3.heap.size, k, none⟩ = some (.string ss[k]) := by
        rw [HBB.out.cell, List.getElem?_map, List.getElem?_eq_getElem hlt]; rfl
      have hr := HSR.out ss[k] (List.getElem_mem hlt)
      obtain ⟨z, hz⟩ : ∃ z, ss[k] = z := ⟨_, rfl⟩
      rw [hz] at hcell hr
      obtain ⟨P, hP⟩ : ∃ P, powStr (SN a) (SN b) (SN z) = P := ⟨_, rfl⟩
      obtain ⟨v, hv⟩ : ∃ v, decide (SN z ≠ 0) = v := ⟨_, rfl⟩
      have d1 := fun w => Pow_is P v a b z w (by omega) (by omega) (by omega) hP hv
      have d2 := fun w => RPow_is P v a b z w (by omega) (by omega) (by omega) (by rw [pow_same]; exact hP) hv
      have D1 := Lib.hid d1; have D2 := Lib.hid d2
      have hlt' := HBB.out.lt
      clear d1 d2 hz hlt hk hP hv hr
      go_wp2_with fail
      refine (D1.out _).mono ?_
      rintro _ w7 ⟨rfl, hb7⟩
      have HB7 := Lib.hid hb7; clear hb7
      go_wp2_with fail
      refine (D2.out _).mono ?_
      rintro _ w8 ⟨rfl, hb8⟩
      have HB8 := Lib.hid (HB7.out.trans (hb8.mono HB7.out.size)); clear hb8
      go_wp2_with fail
      go_roundw
      case rel => first | exact ⟨k + 1, by have := HSL.out; omega, by go_num, HBB.out.below hlt' HB8.out, HBel.out.trans (HB8.out.mono HBel.out.size)⟩ | ((repeat apply Exists.intro); exact ⟨⟨k + 1, by have := HSL.out; omega, by go_num, HBB.out.below hlt' HB8.out, HBel.out.trans (HB8.out.mono HBel.out.size)⟩, rfl⟩)
      case measure => simp [intOf]; omega
    · have hk6' : k = 3 := by have := HSL.out; omega
      subst hk6'
      go_wp2_with fail
      go_ret
      exact ⟨rfl, HBel.out⟩

#print axioms Pows_walk
end Go.Proofs.YtolmjeglaolhlaaGreatDoor
