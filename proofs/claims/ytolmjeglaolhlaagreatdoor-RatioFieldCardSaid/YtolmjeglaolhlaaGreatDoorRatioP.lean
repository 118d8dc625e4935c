/- sorteslaw02.sanity: the values of the examples. -/
import Derived.Test.YtolmjeglaolhlaaGreatDoorRatioO
import Derived.Test.YtolmjeglaolhlaaGreatDoorRatioJ
namespace Go.Proofs.YtolmjeglaolhlaaGreatDoor
open Go.RowKit Num

theorem frac_mk (m : Int) (n : Nat) (w : World) (h1 : -9223372036854775808 ≤ m) (h2 : m ≤ 9223372036854775807) (h4 : n ≤ 9223372036854775807) (h0 : n ≠ 0) :
    Calls Tryz.prog 75 #[.int .i64 m, .int .i64 (n : Int)] w fun e w' => e = .returned (rv (mkRat m n)) ∧ Below w.heap.size w w' :=
  frac_any m (n : Int) (mkRat m n) w h1 h2 (by omega) (by omega) (by omega) (by rw [Rat.mkRat_eq_div, Rat.intCast_natCast])

/-- The lists of the examples. -/
def exL : List Rat := [mkRat 1 2, mkRat 1 3, mkRat 0 1]
theorem exL_dens : dens exL = 6 := by decide +kernel
theorem exL_nums : nums 6 exL = [Enc 3, Enc 2, Enc 0] := by
  unfold nums exL
  have e1 : (mkRat 1 2).num.natAbs * (6 / (mkRat 1 2).den) = 3 := by decide +kernel
  have e2 : (mkRat 1 3).num.natAbs * (6 / (mkRat 1 3).den) = 2 := by decide +kernel
  have e3 : (mkRat 0 1).num.natAbs * (6 / (mkRat 0 1).den) = 0 := by decide +kernel
  simp only [List.map_cons, List.map_nil, e1, e2, e3]

theorem ex_sz (m : Int) (n : Nat) (h : n ≠ 0) (hm : m.natAbs < 256) (hn : n < 256) : Sz 1 (mkRat m n) := by
  have := mkRat_le m h
  exact ⟨by rw [Nat.pow_one]; omega, by rw [Nat.pow_one]; omega⟩

theorem parse_dec (n : Nat) (s : ByteArray) (hs : s.data.toList = decD n) (w : World) (hz : s.size ≤ 16777216) :
    Calls Tryz.prog 58 #[.string s] w fun e w' => e = .returned (.tuple #[.string (Enc n), .bool true]) ∧ Below w.heap.size w w' := by
  have h := Parse_any s w hz
  rw [hs, parsePair_yes (decD_rt n), decD_val] at h
  exact h

theorem prefix_no (s : ByteArray) (w : World) (h : Lib.hasPrefix s.data.toList [45] = false) (h2 : (⟨(Lib.trimPrefix s.data.toList [45]).toArray⟩ : ByteArray) = s) :
    Calls Tryz.prog 85 #[.string s, .string ⟨#[45]⟩] w fun e w' => e = .returned (.tuple #[.string s, .bool false]) ∧ w' = w := by
  have d := Tryz.strings_CutPrefix s ⟨#[45]⟩ w
  rw [show (ByteArray.mk #[45]).data.toList = [45] from rfl, h, h2] at d
  exact d

/-- "6/4" is not read. -/
theorem ex_64 (w : World) (he : Env w) : Calls Tryz.prog 31 #[.string ⟨#[54, 47, 52]⟩] w fun e w' => e = .returned (.tuple #[RV false ⟨#[]⟩ ⟨#[]⟩, .bool false]) ∧ Below w.heap.size w w' :=
  Parse_ne ⟨#[54, 47, 52]⟩ ⟨#[54, 47, 52]⟩ false ⟨#[54]⟩ ⟨#[52]⟩ ⟨#[52]⟩ true (Enc 6) (Enc 4) _ _ _ (ratText (low false 6 4)) w he
    (fun w => prefix_no _ w (by decide +kernel) (by decide +kernel))
    (fun w => cut_of _ _ _ _ w (fun w => litecut_yes ⟨#[54, 47, 52]⟩ 1 w (by decide +kernel) (by decide +kernel) (by decide +kernel)))
    rfl
    (fun w => parse_dec 6 _ (by decide +kernel) w (by decide +kernel))
    (fun w => parse_dec 4 _ (by decide +kernel) w (by decide +kernel))
    (fun w => Make_e false 6 4 w (lt_pow_le (k := 1) (n := 268435456) (by decide) (by decide)) (lt_pow_le (k := 1) (n := 268435456) (by decide) (by decide)) (by decide))
    (fun w h => Text_q (low false 6 4) w ((Sz.low (k := 1) (by decide) (by decide) (by decide)).mono (by decide)) h)
    (by decide +kernel)
/-- "3/1" is not read. -/
theorem ex_31 (w : World) (he : Env w) : Calls Tryz.prog 31 #[.string ⟨#[51, 47, 49]⟩] w fun e w' => e = .returned (.tuple #[RV false ⟨#[]⟩ ⟨#[]⟩, .bool false]) ∧ Below w.heap.size w w' :=
  Parse_ne ⟨#[51, 47, 49]⟩ ⟨#[51, 47, 49]⟩ false ⟨#[51]⟩ ⟨#[49]⟩ ⟨#[49]⟩ true (Enc 3) (Enc 1) _ _ _ (ratText (low false 3 1)) w he
    (fun w => prefix_no _ w (by decide +kernel) (by decide +kernel))
    (fun w => cut_of _ _ _ _ w (fun w => litecut_yes ⟨#[51, 47, 49]⟩ 1 w (by decide +kernel) (by decide +kernel) (by decide +kernel)))
    rfl
    (fun w => parse_dec 3 _ (by decide +kernel) w (by decide +kernel))
    (fun w => parse_dec 1 _ (by decide +kernel) w (by decide +kernel))
    (fun w => Make_e false 3 1 w (lt_pow_le (k := 1) (n := 268435456) (by decide) (by decide)) (lt_pow_le (k := 1) (n := 268435456) (by decide) (by decide)) (by decide))
    (fun w h => Text_q (low false 3 1) w ((Sz.low (k := 1) (by decide) (by decide) (by decide)).mono (by decide)) h)
    (by decide +kernel)
theorem prefix_yes (s r : ByteArray) (w : World) (h : Lib.hasPrefix s.data.toList [45] = true) (h2 : (⟨(Lib.trimPrefix s.data.toList [45]).toArray⟩ : ByteArray) = r) :
    Calls Tryz.prog 85 #[.string s, .string ⟨#[45]⟩] w fun e w' => e = .returned (.tuple #[.string r, .bool true]) ∧ w' = w := by
  have d := Tryz.strings_CutPrefix s ⟨#[45]⟩ w
  rw [show (ByteArray.mk #[45]).data.toList = [45] from rfl, h, h2] at d
  exact d
/-- "-0" is not read. -/
theorem ex_m0 (w : World) (he : Env w) : Calls Tryz.prog 31 #[.string ⟨#[45, 48]⟩] w fun e w' => e = .returned (.tuple #[RV false ⟨#[]⟩ ⟨#[]⟩, .bool false]) ∧ Below w.heap.size w w' :=
  Parse_ne ⟨#[45, 48]⟩ ⟨#[48]⟩ true ⟨#[48]⟩ ⟨#[]⟩ ⟨#[49]⟩ false (Enc 0) (Enc 1) _ _ _ (ratText (low true 0 1)) w he
    (fun w => prefix_yes _ _ w (by decide +kernel) (by decide +kernel))
    (fun w => cut_of _ _ _ _ w (fun w => litecut_no ⟨#[48]⟩ w (by decide +kernel)))
    rfl
    (fun w => parse_dec 0 _ (by decide +kernel) w (by decide +kernel))
    (fun w => parse_dec 1 _ (by decide +kernel) w (by decide +kernel))
    (fun w => Make_e true 0 1 w (lt_pow_le (k := 1) (n := 268435456) (by decide) (by decide)) (lt_pow_le (k := 1) (n := 268435456) (by decide) (by decide)) (by decide))
    (fun w h => Text_q (low true 0 1) w ((Sz.low (k := 1) (by decide) (by decide) (by decide)).mono (by decide)) h)
    (by decide +kernel)

theorem ex_text : ratText (mkRat (-3) 2) = ⟨#[45, 51, 47, 50]⟩ := by decide +kernel
theorem ex_make : low true 6 4 = mkRat (-3) 2 := by decide +kernel
theorem ex_quo : mkRat 1 2 / mkRat (-1) 4 = mkRat (-2) 1 := by decide +kernel
theorem ex_add : mkRat 1 2 + mkRat (-1) 3 = mkRat 1 6 := by decide +kernel

#print axioms ex_64
end Go.Proofs.YtolmjeglaolhlaaGreatDoor
