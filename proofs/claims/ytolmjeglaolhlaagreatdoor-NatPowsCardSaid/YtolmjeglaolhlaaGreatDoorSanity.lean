/- The examples of the first chapter. -/
import Derived.Test.YtolmjeglaolhlaaGreatDoorPow
import Derived.Test.YtolmjeglaolhlaaGreatDoorNats
import Derived.Test.YtolmjeglaolhlaaGreatDoorText
import Derived.Test.YtolmjeglaolhlaaGreatDoorParse

/- sorteslaw01.sanity: the examples of the document. -/
namespace Go.Proofs.YtolmjeglaolhlaaGreatDoor
open Go.RowKit Num

theorem of_c (z : Int) (s : ByteArray) (hz : z ≤ 9223372036854775807) (he : Enc z.toNat = s) (w : World) :
    Calls Tryz.prog 55 #[.int .i64 z] w fun e w' => e = .returned (.string s) ∧ Below w.heap.size w w' := by
  have := Of_any z w hz
  rwa [he] at this
theorem of_256 (w : World) : Calls Tryz.prog 55 #[.int .i64 256] w fun e w' => e = .returned (.string ⟨#[1, 0]⟩) ∧ Below w.heap.size w w' := of_c 256 ⟨#[1, 0]⟩ (by decide) (by kernel_rfl) w
theorem of_m1 (w : World) : Calls Tryz.prog 55 #[.int .i64 (-1)] w fun e w' => e = .returned (.string ⟨#[]⟩) ∧ Below w.heap.size w w' := of_c (-1) ⟨#[]⟩ (by decide) (by kernel_rfl) w
theorem of_3 (w : World) : Calls Tryz.prog 55 #[.int .i64 3] w fun e w' => e = .returned (.string ⟨#[3]⟩) ∧ Below w.heap.size w w' := of_c 3 ⟨#[3]⟩ (by decide) (by kernel_rfl) w
theorem of_5 (w : World) : Calls Tryz.prog 55 #[.int .i64 5] w fun e w' => e = .returned (.string ⟨#[5]⟩) ∧ Below w.heap.size w w' := of_c 5 ⟨#[5]⟩ (by decide) (by kernel_rfl) w
theorem of_1000 (w : World) : Calls Tryz.prog 55 #[.int .i64 1000] w fun e w' => e = .returned (.string ⟨#[3, 232]⟩) ∧ Below w.heap.size w w' := of_c 1000 ⟨#[3, 232]⟩ (by decide) (by kernel_rfl) w
theorem of_7 (w : World) : Calls Tryz.prog 55 #[.int .i64 7] w fun e w' => e = .returned (.string ⟨#[7]⟩) ∧ Below w.heap.size w w' := of_c 7 ⟨#[7]⟩ (by decide) (by kernel_rfl) w
theorem of_2 (w : World) : Calls Tryz.prog 55 #[.int .i64 2] w fun e w' => e = .returned (.string ⟨#[2]⟩) ∧ Below w.heap.size w w' := of_c 2 ⟨#[2]⟩ (by decide) (by kernel_rfl) w
theorem of_142 (w : World) : Calls Tryz.prog 55 #[.int .i64 142] w fun e w' => e = .returned (.string ⟨#[142]⟩) ∧ Below w.heap.size w w' := of_c 142 ⟨#[142]⟩ (by decide) (by kernel_rfl) w
theorem of_6 (w : World) : Calls Tryz.prog 55 #[.int .i64 6] w fun e w' => e = .returned (.string ⟨#[6]⟩) ∧ Below w.heap.size w w' := of_c 6 ⟨#[6]⟩ (by decide) (by kernel_rfl) w
theorem of_12 (w : World) : Calls Tryz.prog 55 #[.int .i64 12] w fun e w' => e = .returned (.string ⟨#[12]⟩) ∧ Below w.heap.size w w' := of_c 12 ⟨#[12]⟩ (by decide) (by kernel_rfl) w
theorem of_18 (w : World) : Calls Tryz.prog 55 #[.int .i64 18] w fun e w' => e = .returned (.string ⟨#[18]⟩) ∧ Below w.heap.size w w' := of_c 18 ⟨#[18]⟩ (by decide) (by kernel_rfl) w
theorem of_200 (w : World) : Calls Tryz.prog 55 #[.int .i64 200] w fun e w' => e = .returned (.string ⟨#[200]⟩) ∧ Below w.heap.size w w' := of_c 200 ⟨#[200]⟩ (by decide) (by kernel_rfl) w
theorem of_1 (w : World) : Calls Tryz.prog 55 #[.int .i64 1] w fun e w' => e = .returned (.string ⟨#[1]⟩) ∧ Below w.heap.size w w' := of_c 1 ⟨#[1]⟩ (by decide) (by kernel_rfl) w
theorem of_255 (w : World) : Calls Tryz.prog 55 #[.int .i64 255] w fun e w' => e = .returned (.string ⟨#[255]⟩) ∧ Below w.heap.size w w' := of_c 255 ⟨#[255]⟩ (by decide) (by kernel_rfl) w

theorem int_c (w : World) : Calls Tryz.prog 54 #[.string ⟨#[0, 1, 0]⟩] w fun e w' => e = .returned (.tuple #[.int .i64 256, .bool true]) ∧ Below w.heap.size w w' := by
  have := Int_any ⟨#[0, 1, 0]⟩ w (by decide)
  rwa [show intPair (SN ⟨#[0, 1, 0]⟩) = .tuple #[.int .i64 256, .bool true] by kernel_rfl] at this
theorem sub_35 (w : World) : Calls Tryz.prog 56 #[.string ⟨#[3]⟩, .string ⟨#[5]⟩] w fun e w' => e = .returned (.tuple #[.string ⟨#[]⟩, .bool false]) ∧ Below w.heap.size w w' :=
  Sub_gt ⟨#[3]⟩ ⟨#[5]⟩ w (by decide) (by decide) (by decide)
theorem sub_53 (w : World) : Calls Tryz.prog 56 #[.string ⟨#[5]⟩, .string ⟨#[3]⟩] w fun e w' => e = .returned (.tuple #[.string ⟨#[2]⟩, .bool true]) ∧ Below w.heap.size w w' := by
  have := Sub_le ⟨#[5]⟩ ⟨#[3]⟩ w (by decide) (by decide) (by decide)
  rwa [show Enc (SN ⟨#[5]⟩ - SN ⟨#[3]⟩) = ⟨#[2]⟩ by kernel_rfl] at this
theorem quo_c (w : World) : Calls Tryz.prog 19 #[.string ⟨#[3, 232]⟩, .string ⟨#[7]⟩] w fun e w' => e = .returned (.tuple #[.string ⟨#[142]⟩, .string ⟨#[6]⟩, .bool true]) ∧ Below w.heap.size w w' := by
  have := Quo_pos ⟨#[3, 232]⟩ ⟨#[7]⟩ w (by decide) (by decide) (by decide)
  rwa [show Enc (SN ⟨#[3, 232]⟩ / SN ⟨#[7]⟩) = ⟨#[142]⟩ by kernel_rfl, show Enc (SN ⟨#[3, 232]⟩ % SN ⟨#[7]⟩) = ⟨#[6]⟩ by kernel_rfl] at this
theorem gcd_c (w : World) : Calls Tryz.prog 57 #[.string ⟨#[12]⟩, .string ⟨#[18]⟩] w fun e w' => e = .returned (.string ⟨#[6]⟩) ∧ Below w.heap.size w w' := by
  have := Gcd_any ⟨#[12]⟩ ⟨#[18]⟩ w (by decide) (by decide)
  rwa [show Enc (Nat.gcd (SN ⟨#[12]⟩) (SN ⟨#[18]⟩)) = ⟨#[6]⟩ by kernel_rfl] at this
theorem gcd_d (w : World) : Calls Tryz.prog 57 #[.string ⟨#[]⟩, .string ⟨#[5]⟩] w fun e w' => e = .returned (.string ⟨#[5]⟩) ∧ Below w.heap.size w w' := by
  have := Gcd_any ⟨#[]⟩ ⟨#[5]⟩ w (by decide) (by decide)
  rwa [show Enc (Nat.gcd (SN ⟨#[]⟩) (SN ⟨#[5]⟩)) = ⟨#[5]⟩ by kernel_rfl] at this
theorem pow_c (w : World) : Calls Tryz.prog 14 #[.string ⟨#[3]⟩, .string ⟨#[200]⟩, .string ⟨#[3, 232]⟩] w fun e w' => e = .returned (.tuple #[.string ⟨#[1]⟩, .bool true]) ∧ Below w.heap.size w w' := by
  have := Pow_even ⟨#[3]⟩ ⟨#[200]⟩ ⟨#[3, 232]⟩ w (by decide) (by decide) (by decide) (.inl (by kernel_rfl))
  rwa [show powStr (SN ⟨#[3]⟩) (SN ⟨#[200]⟩) (SN ⟨#[3, 232]⟩) = ⟨#[1]⟩ by kernel_rfl, show decide (SN ⟨#[3, 232]⟩ ≠ 0) = true by kernel_rfl] at this
theorem pow_d (w : World) : Calls Tryz.prog 14 #[.string ⟨#[5]⟩, .string ⟨#[]⟩, .string ⟨#[1]⟩] w fun e w' => e = .returned (.tuple #[.string ⟨#[]⟩, .bool true]) ∧ Below w.heap.size w w' := by
  have := Pow_even ⟨#[5]⟩ ⟨#[]⟩ ⟨#[1]⟩ w (by decide) (by decide) (by decide) (.inr (by kernel_rfl))
  rwa [show powStr (SN ⟨#[5]⟩) (SN ⟨#[]⟩) (SN ⟨#[1]⟩) = ⟨#[]⟩ by kernel_rfl, show decide (SN ⟨#[1]⟩ ≠ 0) = true by kernel_rfl] at this
theorem parse_c (w : World) : Calls Tryz.prog 58 #[.string ⟨#[48, 48, 55]⟩] w fun e w' => e = .returned (.tuple #[.string ⟨#[]⟩, .bool false]) ∧ Below w.heap.size w w' := by
  have := Parse_any ⟨#[48, 48, 55]⟩ w (by decide)
  rwa [show parsePair (ByteArray.mk #[48, 48, 55]).data.toList = .tuple #[.string ⟨#[]⟩, .bool false] by kernel_rfl] at this
theorem bits_c (w : World) : Calls Tryz.prog 18 #[.string ⟨#[255]⟩] w fun e w' => e = .returned (.int .i64 8) ∧ Below w.heap.size w w' := by
  have := Bits_any ⟨#[255]⟩ w (by decide)
  rwa [show ((natBits (SN ⟨#[255]⟩) : Nat) : Int) = 8 by kernel_rfl] at this
theorem bits_d (w : World) : Calls Tryz.prog 18 #[.string ⟨#[1, 0]⟩] w fun e w' => e = .returned (.int .i64 9) ∧ Below w.heap.size w w' := by
  have := Bits_any ⟨#[1, 0]⟩ w (by decide)
  rwa [show ((natBits (SN ⟨#[1, 0]⟩) : Nat) : Int) = 9 by kernel_rfl] at this
theorem text_c (w : World) (he : Env w) : Calls Tryz.prog 59 #[.string ⟨#[1, 0, 0]⟩] w fun e w' => e = .returned (.string ⟨#[54, 53, 53, 51, 54]⟩) ∧ Below w.heap.size w w' := by
  have := Text_any ⟨#[1, 0, 0]⟩ w (by decide) he
  rwa [show DecS (SN ⟨#[1, 0, 0]⟩) = ⟨#[54, 53, 53, 51, 54]⟩ by kernel_rfl] at this

end Go.Proofs.YtolmjeglaolhlaaGreatDoor

/- sorteslaw01.sanity: the walk. -/
namespace Go.Proofs.YtolmjeglaolhlaaGreatDoor
open Go.RowKit Num

set_option maxRecDepth 100000 in
set_option maxHeartbeats 4000000 in
/-- **sorteslaw01.sanity** answers yes. -/
theorem sanity_any (w : World) (he : Env w) :
    Calls Tryz.prog 12 #[] w fun e w' => e = .returned (.bool true) ∧ Below w.heap.size w w' := by
  have HE := Lib.hid he; clear he
  have HB := Below.refl w.heap.size w
  go_enter Tryz.func12, Tryz.ntmps12
  go_wp2_with fail
  refine (int_c _).mono ?_
  rintro _ wn ⟨rfl, hn⟩; replace HB := HB.trans (hn.mono HB.size); clear hn
  go_wp2_with fail
  refine (of_256 _).mono ?_
  rintro _ wn ⟨rfl, hn⟩; replace HB := HB.trans (hn.mono HB.size); clear hn
  go_wp2_with fail
  refine (of_m1 _).mono ?_
  rintro _ wn ⟨rfl, hn⟩; replace HB := HB.trans (hn.mono HB.size); clear hn
  go_wp2_with fail
  refine (of_3 _).mono ?_
  rintro _ wn ⟨rfl, hn⟩; replace HB := HB.trans (hn.mono HB.size); clear hn
  go_wp2_with fail
  refine (of_5 _).mono ?_
  rintro _ wn ⟨rfl, hn⟩; replace HB := HB.trans (hn.mono HB.size); clear hn
  go_wp2_with fail
  refine (sub_35 _).mono ?_
  rintro _ wn ⟨rfl, hn⟩; replace HB := HB.trans (hn.mono HB.size); clear hn
  go_wp2_with fail
  refine (of_5 _).mono ?_
  rintro _ wn ⟨rfl, hn⟩; replace HB := HB.trans (hn.mono HB.size); clear hn
  go_wp2_with fail
  refine (of_3 _).mono ?_
  rintro _ wn ⟨rfl, hn⟩; replace HB := HB.trans (hn.mono HB.size); clear hn
  go_wp2_with fail
  refine (sub_53 _).mono ?_
  rintro _ wn ⟨rfl, hn⟩; replace HB := HB.trans (hn.mono HB.size); clear hn
  go_wp2_with fail
  refine (of_1000 _).mono ?_
  rintro _ wn ⟨rfl, hn⟩; replace HB := HB.trans (hn.mono HB.size); clear hn
  go_wp2_with fail
  refine (of_7 _).mono ?_
  rintro _ wn ⟨rfl, hn⟩; replace HB := HB.trans (hn.mono HB.size); clear hn
  go_wp2_with fail
  refine (quo_c _).mono ?_
  rintro _ wn ⟨rfl, hn⟩; replace HB := HB.trans (hn.mono HB.size); clear hn
  go_wp2_with fail
  refine (of_2 _).mono ?_
  rintro _ wn ⟨rfl, hn⟩; replace HB := HB.trans (hn.mono HB.size); clear hn
  go_wp2_with fail
  refine (of_142 _).mono ?_
  rintro _ wn ⟨rfl, hn⟩; replace HB := HB.trans (hn.mono HB.size); clear hn
  go_wp2_with fail
  refine (of_6 _).mono ?_
  rintro _ wn ⟨rfl, hn⟩; replace HB := HB.trans (hn.mono HB.size); clear hn
  go_wp2_with fail
  refine (of_12 _).mono ?_
  rintro _ wn ⟨rfl, hn⟩; replace HB := HB.trans (hn.mono HB.size); clear hn
  go_wp2_with fail
  refine (of_18 _).mono ?_
  rintro _ wn ⟨rfl, hn⟩; replace HB := HB.trans (hn.mono HB.size); clear hn
  go_wp2_with fail
  refine (gcd_c _).mono ?_
  rintro _ wn ⟨rfl, hn⟩; replace HB := HB.trans (hn.mono HB.size); clear hn
  go_wp2_with fail
  refine (of_6 _).mono ?_
  rintro _ wn ⟨rfl, hn⟩; replace HB := HB.trans (hn.mono HB.size); clear hn
  go_wp2_with fail
  refine (of_5 _).mono ?_
  rintro _ wn ⟨rfl, hn⟩; replace HB := HB.trans (hn.mono HB.size); clear hn
  go_wp2_with fail
  refine (gcd_d _).mono ?_
  rintro _ wn ⟨rfl, hn⟩; replace HB := HB.trans (hn.mono HB.size); clear hn
  go_wp2_with fail
  refine (of_5 _).mono ?_
  rintro _ wn ⟨rfl, hn⟩; replace HB := HB.trans (hn.mono HB.size); clear hn
  go_wp2_with fail
  refine (of_3 _).mono ?_
  rintro _ wn ⟨rfl, hn⟩; replace HB := HB.trans (hn.mono HB.size); clear hn
  go_wp2_with fail
  refine (of_200 _).mono ?_
  rintro _ wn ⟨rfl, hn⟩; replace HB := HB.trans (hn.mono HB.size); clear hn
  go_wp2_with fail
  refine (of_1000 _).mono ?_
  rintro _ wn ⟨rfl, hn⟩; replace HB := HB.trans (hn.mono HB.size); clear hn
  go_wp2_with fail
  refine (pow_c _).mono ?_
  rintro _ wn ⟨rfl, hn⟩; replace HB := HB.trans (hn.mono HB.size); clear hn
  go_wp2_with fail
  refine (of_5 _).mono ?_
  rintro _ wn ⟨rfl, hn⟩; replace HB := HB.trans (hn.mono HB.size); clear hn
  go_wp2_with fail
  refine (of_1 _).mono ?_
  rintro _ wn ⟨rfl, hn⟩; replace HB := HB.trans (hn.mono HB.size); clear hn
  go_wp2_with fail
  refine (pow_d _).mono ?_
  rintro _ wn ⟨rfl, hn⟩; replace HB := HB.trans (hn.mono HB.size); clear hn
  go_wp2_with fail
  refine (parse_c _).mono ?_
  rintro _ wn ⟨rfl, hn⟩; replace HB := HB.trans (hn.mono HB.size); clear hn
  go_wp2_with fail
  refine (of_255 _).mono ?_
  rintro _ wn ⟨rfl, hn⟩; replace HB := HB.trans (hn.mono HB.size); clear hn
  go_wp2_with fail
  refine (bits_c _).mono ?_
  rintro _ wn ⟨rfl, hn⟩; replace HB := HB.trans (hn.mono HB.size); clear hn
  go_wp2_with fail
  refine (of_256 _).mono ?_
  rintro _ wn ⟨rfl, hn⟩; replace HB := HB.trans (hn.mono HB.size); clear hn
  go_wp2_with fail
  refine (bits_d _).mono ?_
  rintro _ wn ⟨rfl, hn⟩; replace HB := HB.trans (hn.mono HB.size); clear hn
  go_wp2_with fail
  refine (of_1 _).mono ?_
  rintro _ wn ⟨rfl, hn⟩; replace HB := HB.trans (hn.mono HB.size); clear hn
  go_wp2_with fail
  refine (text_c _ (HE.out.below HB)).mono ?_
  rintro _ wn ⟨rfl, hn⟩; replace HB := HB.trans (hn.mono HB.size); clear hn
  go_wp2_with fail
  go_ret
  exact ⟨rfl, HB⟩

#print axioms sanity_any
end Go.Proofs.YtolmjeglaolhlaaGreatDoor
