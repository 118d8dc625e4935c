/- sorteslaw01.NatInts: the walk. -/
import Derived.Test.YtmbgohaljiiigaaGreatDoorSanityW
import Derived.Test.YtmbgohaljiiigaaGreatDoorMade
import Derived.Test.YtmbgohaljiiigaaGreatDoorRInt
import Derived.Test.YtmbgohaljiiigaaGreatDoorROfN
import Derived.Test.YtmbgohaljiiigaaGreatDoorRBits
import Derived.Test.YtmbgohaljiiigaaGreatDoorIs
import Derived.Test.YtmbgohaljiiigaaGreatDoorRSub
namespace Go.Proofs.YtmbgohaljiiigaaGreatDoor
open Go.RowKit Num

/-- What the first loop holds: the block of the ints. -/
def IntsRel (w : World) (B : Nat) (zs : List Int) (i : Value) (wr : World) : Prop :=
  ∃ k : Nat, k ≤ zs.length ∧ i = .int .i64 (k : Int) ∧ Blk wr B 3 (zs.map (Value.int .i64)) ∧ Below w.heap.size w wr

/-- What the second loop holds: the block of the strings. -/
def StrsRel (w : World) (B : Nat) (ss : List ByteArray) (i : Value) (wr : World) : Prop :=
  ∃ k : Nat, k ≤ ss.length ∧ i = .int .i64 (k : Int) ∧ Blk wr B 25 (ss.map Value.string) ∧ Below w.heap.size w wr

theorem blk_at {α : Type} {w : World} {B : Nat} {E : TypeId} {l : List α} {f : α → Value} (h : Blk w B E (l.map f)) (k : Nat) (hk : k < l.length) : w.cell? ⟨B, k, none⟩ = some (f l[k]) := by
  rw [h.cell, List.getElem?_map, List.getElem?_eq_getElem hk]; rfl

theorem hbelow_lt {w : World} {B : Nat} {E : TypeId} {vs : List Value} (h : Blk w B E vs) : B < w.heap.size := h.lt

theorem bits_range (z y : Int) : -9223372036854775808 ≤ bits .and .i64 z y ∧ bits .and .i64 z y ≤ 9223372036854775807 := by
  have h : ∃ u : Int, bits .and .i64 z y = IntKind.i64.wrap u := ⟨_, rfl⟩
  obtain ⟨u, hu⟩ := h
  rw [hu, IntKind.wrap_i64]
  omega

theorem wrap64_range (z : Int) : -9223372036854775808 ≤ wrap64 z ∧ wrap64 z ≤ 9223372036854775807 := by unfold wrap64; omega

set_option maxRecDepth 100000 in
set_option maxHeartbeats 4000000 in
theorem Ints_walk {v2 : Value} {l2 : List Nat} {w : World} (n : Int) (hlo : -9223372036854775808 ≤ n) (hhi : n ≤ 9223372036854775807) (he : Env w) (g2 : Sl .u8 w v2 l2) :
    Calls Tryz.prog 13 #[.int .i64 n, v2] w fun e w' => e = .returned (.bool true) ∧ Below w.heap.size w w' := by
  have hsa := madeS_size l2
  have m2 : ∀ w', Below w.heap.size w w' → _ := fun w' hb => Made_any (g2.below hb)
  generalize madeS l2 = a at *
  have M2 := Lib.hid m2
  clear m2 g2
  have HB := Below.refl w.heap.size w
  go_enter Tryz.func13, Tryz.ntmps13
  go_wp2_with fail
  refine (sanity_any w he).mono ?_
  rintro _ wn ⟨rfl, hn⟩; replace HB := HB.trans (hn.mono HB.size); clear hn
  go_wp2_with fail
  refine (M2.out _ HB).mono ?_
  rintro _ _ ⟨rfl, rfl⟩
  have hzs : ∃ zs : List Int, zs = [n, wrap64 (-n), n / 256, bits .and .i64 n 255, 9223372036854775807, -9223372036854775808] := ⟨_, rfl⟩
  obtain ⟨zs, hzs⟩ := hzs
  have hzl : zs.length = 6 := by rw [hzs]; rfl
  have hzr : ∀ z ∈ zs, -9223372036854775808 ≤ z ∧ z ≤ 9223372036854775807 := by
    have h1 := bits_range n 255
    have h2 := wrap64_range (-n)
    intro z hz
    rw [hzs] at hz
    simp only [List.mem_cons, List.not_mem_nil, or_false] at hz
    rcases hz with rfl | rfl | rfl | rfl | rfl | rfl
    · exact ⟨hlo, hhi⟩
    · exact h2
    · omega
    · exact h1
    · omega
    · omega
  have HZS := Lib.hid hzs; have HZL := Lib.hid hzl; have HZR := Lib.hid hzr
  clear hzs hzl hzr
  go_wp2_with fail
  go_loopw [30] (fun i wr => IntsRel w wn.heap.size zs i wr) (fun i _ => 6 - (intOf i).toNat)
  case atStart => exact ⟨0, by omega, rfl, by rw [HZS.out]; exact Blk.new _ _ _, HB.alloc HB.size _⟩
  case round =>
    obtain ⟨k, hk, rfl, hB, hbel⟩ := hrel
    have HBB := Lib.hid hB; have HBel := Lib.hid hbel
    clear hB hbel
    have hk6 : k ≤ 6 := by have := HZL.out; omega
    rcases Nat.lt_or_ge k zs.length with hlt | hge
    · have hk7 : k < 6 := by have := HZL.out; omega
      have hcell := blk_at HBB.out k hlt
      have hr := HZR.out zs[k] (List.getElem_mem hlt)
      obtain ⟨z, hz⟩ : ∃ z, zs[k] = z := ⟨_, rfl⟩
      rw [hz] at hcell hr
      obtain ⟨hr1, hr2⟩ := hr
      have c1 := fun w => Of_any z w hr2
      have c3 := fun w => ROfN_any z w hr2
      have hsz : (Enc z.toNat).size ≤ 8 := Enc_size_le (by omega)
      have c2 := fun w => Int_any (Enc z.toNat) w (by omega)
      rw [SN_Enc, intPair_lt (by omega)] at c2
      have hmax : max z 0 = (z.toNat : Int) := by omega
      obtain ⟨S, hS⟩ : ∃ S, Enc z.toNat = S := ⟨_, rfl⟩
      rw [hS] at c1 c2 c3
      obtain ⟨t, ht⟩ : ∃ t, z.toNat = t := ⟨_, rfl⟩
      rw [ht] at c2 hmax hS hsz
      clear ht
      have C1 := Lib.hid c1; have C2 := Lib.hid c2; have C3 := Lib.hid c3
      have hlt' := hbelow_lt HBB.out
      clear c1 c2 c3 hz hS hsz hlt hk
      go_wp2_with fail
      refine (C1.out _).mono ?_
      rintro _ w1 ⟨rfl, hb1⟩
      have HB1 := Lib.hid hb1; clear hb1
      go_wp2_with fail
      refine (C2.out _).mono ?_
      rintro _ w2 ⟨rfl, hb2⟩
      have HB2 := Lib.hid (HB1.out.trans (hb2.mono HB1.out.size)); clear hb2
      go_wp2_with fail
      refine (C3.out _).mono ?_
      rintro _ w3 ⟨rfl, hb3⟩
      have HB3 := Lib.hid (HB2.out.trans (hb3.mono HB2.out.size)); clear hb3
      go_wp2_with fail
      go_roundw
      case rel => exact ⟨k + 1, by have := HZL.out; omega, by go_num, HBB.out.below hlt' HB3.out, HBel.out.trans (HB3.out.mono HBel.out.size)⟩
      case measure => simp [intOf]; omega
    · have hk6' : k = 6 := by have := HZL.out; omega
      subst hk6'
      obtain ⟨wo, rfl⟩ : ∃ wo : World, wo = wr := ⟨_, rfl⟩
      obtain ⟨ss, hss⟩ : ∃ ss : List ByteArray, ss = [a, ⟨#[128, 0, 0, 0, 0, 0, 0, 0]⟩, ⟨#[127, 255, 255, 255, 255, 255, 255, 255]⟩, ⟨#[0]⟩ ++ a] := ⟨_, rfl⟩
      have hsl : ss.length = 4 := by rw [hss]; rfl
      have hsr : ∀ s ∈ ss, s.size ≤ 41 := by
        intro s hs
        rw [hss] at hs
        simp only [List.mem_cons, List.not_mem_nil, or_false] at hs
        rcases hs with rfl | rfl | rfl | rfl
        · omega
        · decide
        · decide
        · rw [ByteArray.size_append]
          have : (ByteArray.mk #[0]).size = 1 := rfl
          omega
      have HSS := Lib.hid hss; have HSL := Lib.hid hsl; have HSR := Lib.hid hsr
      clear hss hsl hsr
      go_wp2_with fail
      go_loopw [61] (fun i wr => StrsRel w wo.heap.size ss i wr) (fun i _ => 4 - (intOf i).toNat)
      case atStart => exact ⟨0, by omega, rfl, by rw [HSS.out]; exact Blk.new _ _ _, HBel.out.alloc HBel.out.size _⟩
      case round =>
        clear HBB HBel
        obtain ⟨k, hk, rfl, hB, hbel⟩ := hrel
        have HBB := Lib.hid hB; have HBel := Lib.hid hbel
        clear hB hbel
        have hk4 : k ≤ 4 := by have := HSL.out; omega
        rcases Nat.lt_or_ge k ss.length with hlt | hge
        · have hk7 : k < 4 := by have := HSL.out; omega
          have hcell := blk_at HBB.out k hlt
          have hr := HSR.out ss[k] (List.getElem_mem hlt)
          obtain ⟨z, hz⟩ : ∃ z, ss[k] = z := ⟨_, rfl⟩
          rw [hz] at hcell hr
          have c1 := fun w => Int_any z w (by omega)
          have c2 := fun w => RInt_any z w (by omega)
          have c3 := fun w => Bits_any z w (by omega)
          have c4 := fun w => RBits_any z w (by omega)
          have c5 := fun w => Right_any z w
          have c6 := fun w => RRight_any z w
          have hpp : (∃ (y : Int) (v : Bool), intPair (SN z) = .tuple #[.int .i64 y, .bool v]) := by
            rcases Nat.lt_or_ge (SN z) 9223372036854775808 with h | h
            · exact ⟨_, _, intPair_lt h⟩
            · exact ⟨_, _, intPair_ge h⟩
          obtain ⟨y, v, hyv⟩ := hpp
          rw [hyv] at c1 c2
          generalize natBits (SN z) = nb at c3 c4
          generalize rightB z.data.toList = rb at c5 c6
          have C1 := Lib.hid c1; have C2 := Lib.hid c2; have C3 := Lib.hid c3; have C4 := Lib.hid c4; have C5 := Lib.hid c5; have C6 := Lib.hid c6
          have hlt' := hbelow_lt HBB.out
          clear c1 c2 c3 c4 c5 c6 hz hlt hk hyv
          go_wp2_with fail
          refine (C1.out _).mono ?_
          rintro _ w1 ⟨rfl, hb1⟩
          have HB1 := Lib.hid hb1; clear hb1
          go_wp2_with fail
          refine (C2.out _).mono ?_
          rintro _ _ ⟨rfl, rfl⟩
          go_wp2_with fail
          refine (C3.out _).mono ?_
          rintro _ w2 ⟨rfl, hb2⟩
          have HB2 := Lib.hid (HB1.out.trans (hb2.mono HB1.out.size)); clear hb2
          go_wp2_with fail
          refine (C4.out _).mono ?_
          rintro _ _ ⟨rfl, rfl⟩
          go_wp2_with fail
          refine (C5.out _).mono ?_
          rintro _ _ ⟨rfl, rfl⟩
          go_wp2_with fail
          refine (C6.out _).mono ?_
          rintro _ _ ⟨rfl, rfl⟩
          go_wp2_with fail
          go_roundw
          case rel => first | exact ⟨k + 1, by have := HSL.out; omega, by go_num, HBB.out.below hlt' HB2.out, HBel.out.trans (HB2.out.mono HBel.out.size)⟩ | ((repeat apply Exists.intro); exact ⟨⟨k + 1, by have := HSL.out; omega, by go_num, HBB.out.below hlt' HB2.out, HBel.out.trans (HB2.out.mono HBel.out.size)⟩, rfl⟩)
          case measure => simp [intOf]; omega
        · have hk4' : k = 4 := by have := HSL.out; omega
          subst hk4'
          go_wp2_with fail
          go_ret
          exact ⟨rfl, HBel.out⟩

#print axioms Ints_walk
end Go.Proofs.YtmbgohaljiiigaaGreatDoor
