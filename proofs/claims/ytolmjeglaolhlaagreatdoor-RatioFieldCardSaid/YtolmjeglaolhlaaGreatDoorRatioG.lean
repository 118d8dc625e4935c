/- ratio: Make, lcm. -/
import Derived.Test.YtolmjeglaolhlaaGreatDoorRatioE
namespace Go.Proofs.YtolmjeglaolhlaaGreatDoor
open Go.RowKit Num

set_option maxRecDepth 100000 in
set_option maxHeartbeats 2000000 in
/-- **ratio.Make** of right numbers. -/
theorem Make_yes (s : Bool) (a b : ByteArray) (u : Bool) (x y : ByteArray) (w : World)
    (d1 : ∀ w, Calls Tryz.prog 76 #[.agg #[.string ⟨#[]⟩], .string b] w fun e w' => e = .returned (.bool true) ∧ Below w.heap.size w w')
    (d2 : ∀ w, Calls Tryz.prog 77 #[.string a] w fun e w' => e = .returned (.bool true) ∧ w = w')
    (d3 : ∀ w, Calls Tryz.prog 78 #[.bool s, .string a, .string b] w fun e w' => e = .returned (RV u x y) ∧ Below w.heap.size w w') :
    Calls Tryz.prog 22 #[.bool s, .string a, .string b] w fun e w' => e = .returned (.tuple #[RV u x y, .bool true]) ∧ Below w.heap.size w w' := by
  have hbk := Blk.new w 39 [.bool false, .string ⟨#[]⟩, .string ⟨#[]⟩]
  have R := Lib.hid hbk
  have HB := Lib.hid ((Below.refl w.heap.size w).alloc (Nat.le_refl _) (.cells #[.bool false, .string ⟨#[]⟩, .string ⟨#[]⟩] 39))
  have D1 := Lib.hid d1; have D2 := Lib.hid d2; have D3 := Lib.hid d3
  clear d1 d2 d3 hbk
  go_enter Tryz.func22, Tryz.ntmps22
  go_wp2_with fail
  refine (D1.out _).mono ?_
  rintro _ w1 ⟨rfl, g1⟩
  go_wp2_with fail
  refine (D2.out _).mono ?_
  rintro _ _ ⟨rfl, rfl⟩
  go_wp2_with fail
  refine (D3.out _).mono ?_
  rintro _ w2 ⟨rfl, g2⟩
  have g3 := g1.trans (g2.mono g1.size)
  replace R := Lib.hid (R.out.on g3)
  replace HB := Lib.hid (HB.out.trans (g3.mono HB.out.size))
  have c0 : w2.cell? ⟨w.heap.size, 0, none⟩ = some (.bool false) := R.out.cell 0
  have c1 : w2.cell? ⟨w.heap.size, 1, none⟩ = some (.string ⟨#[]⟩) := R.out.cell 1
  have c2 : w2.cell? ⟨w.heap.size, 2, none⟩ = some (.string ⟨#[]⟩) := R.out.cell 2
  have f0 := R.out.free 0; have f1 := R.out.free 1; have f2 := R.out.free 2
  clear g1 g2 g3
  go_wp2_with fail
  exact ret_rat2 rfl rfl (set3 R.out _ _ _) rfl ⟨rfl, bel3 HB.out (Nat.le_refl _) _ _ _⟩

set_option maxRecDepth 100000 in
set_option maxHeartbeats 2000000 in
/-- **ratio.Make**, the denominator not a right number above nought. -/
theorem Make_no1 (s : Bool) (a b : ByteArray) (w : World)
    (d1 : ∀ w, Calls Tryz.prog 76 #[.agg #[.string ⟨#[]⟩], .string b] w fun e w' => e = .returned (.bool false) ∧ Below w.heap.size w w') :
    Calls Tryz.prog 22 #[.bool s, .string a, .string b] w fun e w' => e = .returned (.tuple #[RV false ⟨#[]⟩ ⟨#[]⟩, .bool false]) ∧ Below w.heap.size w w' := by
  have hbk := Blk.new w 39 [.bool false, .string ⟨#[]⟩, .string ⟨#[]⟩]
  have R := Lib.hid hbk
  have HB := Lib.hid ((Below.refl w.heap.size w).alloc (Nat.le_refl _) (.cells #[.bool false, .string ⟨#[]⟩, .string ⟨#[]⟩] 39))
  have D1 := Lib.hid d1
  clear d1 hbk
  go_enter Tryz.func22, Tryz.ntmps22
  go_wp2_with fail
  refine (D1.out _).mono ?_
  rintro _ w2 ⟨rfl, g3⟩
  replace R := Lib.hid (R.out.on g3)
  replace HB := Lib.hid (HB.out.trans (g3.mono HB.out.size))
  have c0 : w2.cell? ⟨w.heap.size, 0, none⟩ = some (.bool false) := R.out.cell 0
  have c1 : w2.cell? ⟨w.heap.size, 1, none⟩ = some (.string ⟨#[]⟩) := R.out.cell 1
  have c2 : w2.cell? ⟨w.heap.size, 2, none⟩ = some (.string ⟨#[]⟩) := R.out.cell 2
  have f0 := R.out.free 0; have f1 := R.out.free 1; have f2 := R.out.free 2
  clear g3
  go_wp2_with fail
  exact ret_rat2 rfl rfl (set3 R.out _ _ _) rfl ⟨rfl, bel3 HB.out (Nat.le_refl _) _ _ _⟩

theorem positive_e (d : Nat) (hd : d < 256 ^ 268435456) (w : World) :
    Calls Tryz.prog 76 #[.agg #[.string ⟨#[]⟩], .string (Enc d)] w fun e w' => e = .returned (.bool (decide (d ≠ 0))) ∧ Below w.heap.size w w' :=
  positive_any (Enc d) w (Enc_size_le hd) _ (by rw [rightB_Enc, SN_Enc, Bool.true_and])

/-- **ratio.Make** of right numbers. -/
theorem Make_e (s : Bool) (n d : Nat) (w : World) (hn : n < 256 ^ 268435456) (hd : d < 256 ^ 268435456) (h0 : d ≠ 0) :
    Calls Tryz.prog 22 #[.bool s, .string (Enc n), .string (Enc d)] w fun e w' => e = .returned (.tuple #[rv (low s n d), .bool true]) ∧ Below w.heap.size w w' := by
  have d1 := fun w => positive_e d hd w
  rw [decide_eq_true h0] at d1
  exact Make_yes s _ _ _ _ _ w d1 (fun w => Right_is true _ w (rightB_Enc n)) (fun w => lowest_any s n d w hn hd h0)
theorem Make_z (s : Bool) (a : ByteArray) (w : World) :
    Calls Tryz.prog 22 #[.bool s, .string a, .string ⟨#[]⟩] w fun e w' => e = .returned (.tuple #[RV false ⟨#[]⟩ ⟨#[]⟩, .bool false]) ∧ Below w.heap.size w w' :=
  Make_no1 s a _ w (fun w => positive_any ⟨#[]⟩ w (by decide) false (by rw [SN_empty]; simp))

set_option maxRecDepth 100000 in
set_option maxHeartbeats 2000000 in
/-- **ratio.lcm** of a number and a denominator. -/
theorem lcm_q (m : Nat) (q : Rat) (w : World) (hm : m < 256 ^ 600000) (hq : Sz 600000 q) :
    Calls Tryz.prog 89 #[.string (Enc m), rv q] w fun e w' => e = .returned (.string (Enc (m * (q.den / Nat.gcd m q.den)))) ∧ Below w.heap.size w w' := by
  have sq := sz_strs hq
  have zm := Enc_size_le hm
  have hg0 : 0 < Nat.gcd m q.den := Nat.gcd_pos_of_pos_right _ q.den_pos
  have hgd : Nat.gcd m q.den ≤ q.den := Nat.le_of_dvd q.den_pos (Nat.gcd_dvd_right m q.den)
  have zg : (Enc (Nat.gcd m q.den)).size ≤ 600000 := Enc_size_le (Nat.lt_of_le_of_lt hgd hq.2)
  have zr : (Enc (q.den / Nat.gcd m q.den)).size ≤ 600000 := Enc_size_le (Nat.lt_of_le_of_lt (Nat.div_le_self _ _) hq.2)
  have d1 := fun w => Gcd_any (Enc m) (Enc q.den) w (by omega) (by omega)
  rw [SN_Enc, SN_Enc] at d1
  have d2 := fun w => Quo_is (Enc (q.den / Nat.gcd m q.den)) (Enc (q.den % Nat.gcd m q.den)) (Enc q.den) (Enc (Nat.gcd m q.den)) w (by omega) (by omega) (by rw [SN_Enc]; exact hg0) (by rw [SN_Enc, SN_Enc]) (by rw [SN_Enc, SN_Enc])
  have d3 := fun w => Mul_is (Enc (m * (q.den / Nat.gcd m q.den))) (Enc m) (Enc (q.den / Nat.gcd m q.den)) w (by omega) (by omega) (by rw [SN_Enc, SN_Enc])
  unfold rv
  generalize Enc (m * (q.den / Nat.gcd m q.den)) = o at *
  generalize Enc (q.den / Nat.gcd m q.den) = r at *
  generalize Enc (q.den % Nat.gcd m q.den) = r' at *
  generalize Enc (Nat.gcd m q.den) = g at *
  generalize Enc m = M at *
  generalize decide (q.num < 0) = s at *
  generalize Enc q.num.natAbs = a at *
  generalize Enc q.den = b at *
  have hbk := Blk.new w 39 [.bool s, .string a, .string b]
  have hrc := hbk.rc
  have hlt := hbk.lt
  have HB := (Below.refl w.heap.size w).alloc (Nat.le_refl _) (.cells #[.bool s, .string a, .string b] 39)
  have D1 := Lib.hid d1; have D2 := Lib.hid d2; have D3 := Lib.hid d3
  clear d1 d2 d3 hbk sq zm hg0 hgd zg zr hm hq
  go_enter Tryz.func89, Tryz.ntmps89
  go_upto_region 1 with fail
  generalize w.alloc (.cells #[.bool s, .string a, .string b] 39) = W at *
  obtain ⟨c0, c1, c2⟩ := hrc
  go_region_held3 (fun w' => w'.cell? ⟨w.heap.size, 0, none⟩ = some (.bool s) ∧ w'.cell? ⟨w.heap.size, 1, none⟩ = some (.string a) ∧ w'.cell? ⟨w.heap.size, 2, none⟩ = some (.string b))
    (first | exact k3 | exact k2 | go_keep)
    ((first
      | (go_at_call 57; refine (D1.out _).mono ?_; rintro _ w2 ⟨rfl, h2⟩; have g2 : Below W.heap.size W w2 := (Below.refl _ _).drew.trans h2; have k2 := RC.below (W := W) (X := w2) ⟨c0, c1, c2⟩ g2 hlt)
      | (go_at_call 19; refine (D2.out _).mono ?_; rintro _ w3 ⟨rfl, h3⟩; have g3 : Below W.heap.size W w3 := g2.trans (h3.mono g2.size); have k3 := RC.below (W := W) (X := w3) ⟨c0, c1, c2⟩ g3 hlt)))
  go_wp2_with fail
  refine (D3.out _).mono ?_
  rintro _ w4 ⟨rfl, h4⟩
  go_wp2_with fail
  go_ret
  have g4 := g3.trans (h4.mono g3.size)
  exact ⟨rfl, HB.trans (g4.mono HB.size)⟩

#print axioms lcm_q
end Go.Proofs.YtolmjeglaolhlaaGreatDoor
