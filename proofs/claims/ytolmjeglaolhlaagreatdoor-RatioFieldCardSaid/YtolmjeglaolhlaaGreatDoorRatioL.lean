/- ratio: Parse (the ways that reach the comparison of texts). -/
import Derived.Test.YtolmjeglaolhlaaGreatDoorRatioK
import Derived.Test.YtolmjeglaolhlaaGreatDoorRatioG
import Derived.Test.YtolmjeglaolhlaaGreatDoorParse
namespace Go.Proofs.YtolmjeglaolhlaaGreatDoor
open Go.RowKit Num

set_option maxRecDepth 100000 in
set_option maxHeartbeats 2000000 in
theorem litecut_no (s : ByteArray) (w : World) (h : Lib.indexByte s.data.toList 47 = -1) :
    Calls Tryz.prog 121 #[.string s, .string ⟨#[47]⟩] w fun e w' => e = .returned (.tuple #[.string s, .string ⟨#[]⟩, .bool false]) ∧ Below w.heap.size w w' := by
  have d1 := fun w => Tryz.stringslite_Index_one s 47 w
  rw [h] at d1
  have D1 := Lib.hid d1
  clear d1 h
  go_enter Tryz.func121, Tryz.ntmps121
  go_wp2_with fail
  refine (D1.out _).mono ?_
  rintro _ w1 ⟨rfl, rfl⟩
  go_wp2_with fail
  go_ret3
  exact ⟨rfl, Below.refl _ _⟩

set_option maxRecDepth 100000 in
set_option maxHeartbeats 2000000 in
theorem litecut_yes (s : ByteArray) (k : Nat) (w : World) (h : Lib.indexByte s.data.toList 47 = (k : Int)) (hk : k < s.size) (hs : s.size < 4294967281) :
    Calls Tryz.prog 121 #[.string s, .string ⟨#[47]⟩] w fun e w' => e = .returned (.tuple #[.string (s.extract 0 k), .string (s.extract (k + 1) s.size), .bool true]) ∧ Below w.heap.size w w' := by
  have d1 := fun w => Tryz.stringslite_Index_one s 47 w
  rw [h] at d1
  have D1 := Lib.hid d1
  clear d1 h
  have q0 : (0 : Int) ≤ (k : Int) := by omega
  have q1 : (k : Int) ≤ (s.size : Int) := by omega
  have q2 : (0 : Int) ≤ (k : Int) + 1 := by omega
  have q3 : (k : Int) + 1 ≤ (s.size : Int) := by omega
  have q4 : IntKind.i64.wrap ((k : Int) + 1) = (k : Int) + 1 := by rw [IntKind.wrap_i64]; omega
  have q5 : ((k : Int) + 1).toNat = k + 1 := by omega
  go_enter Tryz.func121, Tryz.ntmps121
  go_wp2_with fail
  refine (D1.out _).mono ?_
  rintro _ w1 ⟨rfl, rfl⟩
  go_wp2_with fail
  go_region
  go_wp2_with fail
  go_ret3
  exact ⟨rfl, (Below.refl _ _).drew⟩

set_option maxRecDepth 100000 in
theorem cut_of (s a b : ByteArray) (v : Bool) (w : World) (d1 : ∀ w, Calls Tryz.prog 121 #[.string s, .string ⟨#[47]⟩] w fun e w' => e = .returned (.tuple #[.string a, .string b, .bool v]) ∧ Below w.heap.size w w') :
    Calls Tryz.prog 86 #[.string s, .string ⟨#[47]⟩] w fun e w' => e = .returned (.tuple #[.string a, .string b, .bool v]) ∧ Below w.heap.size w w' := by
  have D1 := Lib.hid d1
  clear d1
  go_enter Tryz.func86, Tryz.ntmps86
  go_wp2_with fail
  refine (D1.out _).mono ?_
  rintro _ w1 ⟨rfl, h1⟩
  go_wp2_with fail
  go_ret3
  exact ⟨rfl, h1⟩

set_option maxRecDepth 100000 in
set_option maxHeartbeats 2000000 in
/-- **ratio.Parse**, where all parts are read, and the text is another one. -/
theorem Parse_ne (s r : ByteArray) (g : Bool) (na db db' : ByteArray) (f : Bool) (n d : ByteArray) (u : Bool) (x y t : ByteArray) (w : World) (he : Env w)
    (d1 : ∀ w, Calls Tryz.prog 85 #[.string s, .string ⟨#[45]⟩] w fun e w' => e = .returned (.tuple #[.string r, .bool g]) ∧ w' = w)
    (d2 : ∀ w, Calls Tryz.prog 86 #[.string r, .string ⟨#[47]⟩] w fun e w' => e = .returned (.tuple #[.string na, .string db, .bool f]) ∧ Below w.heap.size w w')
    (hdb : db' = if f then db else ⟨#[49]⟩)
    (d3 : ∀ w, Calls Tryz.prog 58 #[.string na] w fun e w' => e = .returned (.tuple #[.string n, .bool true]) ∧ Below w.heap.size w w')
    (d4 : ∀ w, Calls Tryz.prog 58 #[.string db'] w fun e w' => e = .returned (.tuple #[.string d, .bool true]) ∧ Below w.heap.size w w')
    (d5 : ∀ w, Calls Tryz.prog 22 #[.bool g, .string n, .string d] w fun e w' => e = .returned (.tuple #[RV u x y, .bool true]) ∧ Below w.heap.size w w')
    (d6 : ∀ w, Env w → Calls Tryz.prog 29 #[RV u x y] w fun e w' => e = .returned (.string t) ∧ Below w.heap.size w w') (hne : t ≠ s) :
    Calls Tryz.prog 31 #[.string s] w fun e w' => e = .returned (.tuple #[RV false ⟨#[]⟩ ⟨#[]⟩, .bool false]) ∧ Below w.heap.size w w' := by
  have hl2 : ¬ t.toList = s.toList := by rw [ByteArray.toList_eq, ByteArray.toList_eq]; exact list_ne hne
  have hl3 : (t.toList == s.toList) = false := beq_eq_false_iff_ne.2 hl2
  have hbk := Blk.new w 39 [.bool false, .string ⟨#[]⟩, .string ⟨#[]⟩]
  have R := Lib.hid hbk
  have HB := Lib.hid ((Below.refl w.heap.size w).alloc (Nat.le_refl _) (.cells #[.bool false, .string ⟨#[]⟩, .string ⟨#[]⟩] 39))
  have HE := Lib.hid he
  have D1 := Lib.hid d1; have D2 := Lib.hid d2; have D3 := Lib.hid d3; have D4 := Lib.hid d4; have D5 := Lib.hid d5; have D6 := Lib.hid d6; have HDB := Lib.hid hdb
  clear d1 d2 d3 d4 d5 d6 hbk he hne hdb
  go_enter Tryz.func31, Tryz.ntmps31
  go_wp2_with fail
  refine (D1.out _).mono ?_
  rintro _ _ ⟨rfl, rfl⟩
  go_wp2_with fail
  refine (D2.out _).mono ?_
  rintro _ w1 ⟨rfl, g1⟩
  replace R := Lib.hid (R.out.on g1); replace HB := Lib.hid (HB.out.trans (g1.mono HB.out.size)); clear g1
  go_upto_if 27 with fail
  go_cut [7] from 9 (fun v wc => v = .string db' ∧ wc = w1)
  case first =>
    cases f with
    | false =>
      go_wp2_with fail
      go_meet
      case rel => exact ⟨by rw [HDB.out]; rfl, rfl⟩
    | true =>
      go_wp2_with fail
      go_meet
      case rel => exact ⟨by rw [HDB.out]; rfl, rfl⟩
  case rest =>
    obtain ⟨rfl, rfl⟩ := hcut
    go_wp2_with fail
    refine (D3.out _).mono ?_
    rintro _ w2 ⟨rfl, g1⟩
    replace R := Lib.hid (R.out.on g1); replace HB := Lib.hid (HB.out.trans (g1.mono HB.out.size)); clear g1
    go_wp2_with fail
    refine (D4.out _).mono ?_
    rintro _ w3 ⟨rfl, g1⟩
    replace R := Lib.hid (R.out.on g1); replace HB := Lib.hid (HB.out.trans (g1.mono HB.out.size)); clear g1
    go_wp2_with fail
    refine (D5.out _).mono ?_
    rintro _ w4 ⟨rfl, g1⟩
    replace R := Lib.hid (R.out.on g1); replace HB := Lib.hid (HB.out.trans (g1.mono HB.out.size)); clear g1
    go_upto_region 8 with fail
    have ga : Below w4.heap.size w4 (w4.alloc (.cells #[.bool u, .string x, .string y] 39)) := (Below.refl _ _).alloc (Nat.le_refl _) _
    have A := Lib.hid (Blk.new w4 39 [.bool u, .string x, .string y])
    replace R := Lib.hid (R.out.on ga); replace HB := Lib.hid (HB.out.trans (ga.mono HB.out.size)); clear ga
    generalize w4.alloc (.cells #[.bool u, .string x, .string y] 39) = W at *
    obtain ⟨a0, a1, a2⟩ := A.out.rc
    go_wp2_with fail
    refine (D6.out _ (HE.out.below HB.out)).mono ?_
    rintro _ w5 ⟨rfl, g1⟩
    replace R := Lib.hid (R.out.on g1); replace HB := Lib.hid (HB.out.trans (g1.mono HB.out.size)); clear g1 a0 a1 a2
    obtain ⟨c0, c1, c2⟩ := R.out.rc
    have f0 := R.out.free 0; have f1 := R.out.free 1; have f2 := R.out.free 2
    go_wp2_with fail
    exact ret_rat2 rfl rfl (set3 R.out _ _ _) rfl ⟨rfl, bel3 HB.out (Nat.le_refl _) _ _ _⟩

#print axioms Parse_ne
end Go.Proofs.YtolmjeglaolhlaaGreatDoor
