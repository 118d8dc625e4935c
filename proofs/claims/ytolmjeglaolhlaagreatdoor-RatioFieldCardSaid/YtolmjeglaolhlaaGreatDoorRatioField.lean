/- sorteslaw02.RatioField: the walk. -/
import Derived.Test.YtolmjeglaolhlaaGreatDoorRatioQ
import Derived.Test.YtolmjeglaolhlaaGreatDoorRatioT
import Derived.Test.YtolmjeglaolhlaaGreatDoorRatioJ
namespace Go.Proofs.YtolmjeglaolhlaaGreatDoor
open Go.RowKit Num

theorem undr3 {W X : World} (h : Below W.drew.heap.size W.drew X) : Below W.heap.size W X := (Below.refl W.heap.size W).drew.trans h
theorem alloc3 {W X : World} {o : Obj} (h : Below W.heap.size W X) {Y : World} (g : Below (X.alloc o).heap.size (X.alloc o) Y) : Below W.heap.size W Y := by
  have h2 : Below W.heap.size W (X.alloc o) := h.alloc h.size o
  exact h2.trans (g.mono h2.size)

set_option maxRecDepth 100000 in
set_option maxHeartbeats 4000000 in
theorem Field_core {w : World} (x1 x2 x3 y1 y2 y3 z1 z2 z3 : Int) (he : Env w) (A B C : Rat) (U : Bool) (sQ : Bool) (aQ bQ : ByteArray)
    (mA : ∀ w, Calls Tryz.prog 28 #[.agg #[.int .i64 x1, .int .i64 x2, .int .i64 x3]] w fun e w' => e = .returned (rv A) ∧ Below w.heap.size w w')
    (mB : ∀ w, Calls Tryz.prog 28 #[.agg #[.int .i64 y1, .int .i64 y2, .int .i64 y3]] w fun e w' => e = .returned (rv B) ∧ Below w.heap.size w w')
    (mC : ∀ w, Calls Tryz.prog 28 #[.agg #[.int .i64 z1, .int .i64 z2, .int .i64 z3]] w fun e w' => e = .returned (rv C) ∧ Below w.heap.size w w')
    (zA : Sz 16 A) (zB : Sz 16 B) (zC : Sz 16 C)
    (kq : ∀ w, Calls Tryz.prog 41 #[rv A, rv B] w fun e w' => e = .returned (.tuple #[RV sQ aQ bQ, .bool U]) ∧ Below w.heap.size w w')
    (hU : (U = false ∧ B = 0) ∨ (U = true ∧ B ≠ 0 ∧ ∀ w, Calls Tryz.prog 39 #[RV sQ aQ bQ, rv B] w fun e w' => e = .returned (rv A) ∧ Below w.heap.size w w')) :
    Calls Tryz.prog 8 #[.agg #[.int .i64 x1, .int .i64 x2, .int .i64 x3], .agg #[.int .i64 y1, .int .i64 y2, .int .i64 y3], .agg #[.int .i64 z1, .int .i64 z2, .int .i64 z3]] w fun e w' => e = .returned (.bool true) ∧ Below w.heap.size w w' := by
  have z0 : Sz 16 (0 : Rat) := Sz.zero.mono (by decide)
  have zo : Sz 16 (1 : Rat) := ⟨by decide, by decide⟩
  have k1 := fun w => Add_q (A) (B) w (zA.mono (by decide)) (zB.mono (by decide))
  have k2 := fun w => Add_q (B) (A) w (zB.mono (by decide)) (zA.mono (by decide))
  have k6 := fun w => Add_q (A + B) (C) w ((zA.add zB).mono (by decide)) (zC.mono (by decide))
  have k7 := fun w => Add_q (B) (C) w (zB.mono (by decide)) (zC.mono (by decide))
  have k8 := fun w => Add_q (A) (B + C) w (zA.mono (by decide)) ((zB.add zC).mono (by decide))
  have k15 := fun w => Add_q (A * B) (A * C) w ((zA.mul zB).mono (by decide)) ((zA.mul zC).mono (by decide))
  have k16 := fun w => Add_q (A) (0) w (zA.mono (by decide)) (z0.mono (by decide))
  have k19 := fun w => Add_q (A) (-A) w (zA.mono (by decide)) (zA.neg.mono (by decide))
  have k23 := fun w => Add_q (A) (-B) w (zA.mono (by decide)) (zB.neg.mono (by decide))
  have k3 := fun w => Mul_q (A) (B) w (zA.mono (by decide)) (zB.mono (by decide))
  have k4 := fun w => Mul_q (B) (A) w (zB.mono (by decide)) (zA.mono (by decide))
  have k10 := fun w => Mul_q (A * B) (C) w ((zA.mul zB).mono (by decide)) (zC.mono (by decide))
  have k11 := fun w => Mul_q (B) (C) w (zB.mono (by decide)) (zC.mono (by decide))
  have k12 := fun w => Mul_q (A) (B * C) w (zA.mono (by decide)) ((zB.mul zC).mono (by decide))
  have k13 := fun w => Mul_q (A) (B + C) w (zA.mono (by decide)) ((zB.add zC).mono (by decide))
  have k14 := fun w => Mul_q (A) (C) w (zA.mono (by decide)) (zC.mono (by decide))
  have k17 := fun w => Mul_q (A) (1) w (zA.mono (by decide)) (zo.mono (by decide))
  have k18 := fun w => Neg_q A w (zA.mono (by decide))
  have k22 := fun w => Neg_q B w (zB.mono (by decide))
  have k21 := fun w => Sub_q A B w (zA.mono (by decide)) (zB.mono (by decide))
  rw [Rat.add_comm B A] at k2
  rw [Rat.mul_comm B A] at k4
  rw [← Rat.add_assoc] at k8
  rw [← Rat.mul_assoc] at k12
  rw [Rat.mul_add] at k13
  rw [Rat.add_zero] at k16
  rw [Rat.mul_one] at k17
  rw [Rat.add_neg_cancel] at k19
  rw [← Rat.sub_eq_add_neg] at k23
  have k24 : ∀ (w' : World) (v : Value), SlR w' v [A, B, C] → _ := fun w' v h => Sum_q h (fun q hq => by
    simp only [List.mem_cons, List.not_mem_nil, or_false] at hq
    rcases hq with rfl | rfl | rfl
    · exact zA.mono (by decide)
    · exact zB.mono (by decide)
    · exact zC.mono (by decide))
    (fun j => by
      match j with
      | 0 => exact z0.mono (by decide)
      | 1 => exact (z0.add zA).mono (by decide)
      | 2 => exact ((z0.add zA).add zB).mono (by decide)
      | (j + 3) =>
        have e : [A, B, C].take (j + 3) = [A, B, C] := List.take_of_length_le (by simp)
        rw [e]; exact (((z0.add zA).add zB).add zC).mono (by decide))
  rw [show sumR [A, B, C] = A + B + C by show 0 + A + B + C = _; rw [Rat.zero_add]] at k24
  have kz := fun w => ROf_any 0 w (by omega) (by omega)
  have ko := fun w => ROf_any 1 w (by omega) (by omega)
  rw [show ((0 : Int) : Rat) = 0 from rfl] at kz
  rw [show ((1 : Int) : Rat) = 1 from rfl] at ko
  have e0 : rv 0 = RV false ⟨#[]⟩ ⟨#[1]⟩ := by unfold rv; rw [show ((0 : Rat).num).natAbs = 0 from rfl, Enc_zero, show (0 : Rat).den = 1 from rfl, Enc_one]; rfl
  have hB0 : B ≠ 0 → ∀ s a b, rv B = RV s a b → ¬ a.toList = [] := fun h s a b e => by
    obtain ⟨-, rfl, -⟩ := RV_inj e
    exact not_nil (fun e => h (Rat.num_eq_zero.1 (Int.natAbs_eq_zero.1 (Enc_inj (e.trans Enc_zero.symm)))))
  have kS := fun w' (h : Env w') => sanity2_any w' h
  obtain ⟨sA, aA, bA, hA⟩ : ∃ s a b, rv (A) = RV s a b := ⟨_, _, _, rfl⟩
  obtain ⟨sB, aB, bB, hB⟩ : ∃ s a b, rv (B) = RV s a b := ⟨_, _, _, rfl⟩
  obtain ⟨sC, aC, bC, hC⟩ : ∃ s a b, rv (C) = RV s a b := ⟨_, _, _, rfl⟩
  obtain ⟨s1, a1, b1, h1⟩ : ∃ s a b, rv ((1 : Rat)) = RV s a b := ⟨_, _, _, rfl⟩
  obtain ⟨sS, aS, bS, hS⟩ : ∃ s a b, rv (A + B) = RV s a b := ⟨_, _, _, rfl⟩
  obtain ⟨sT, aT, bT, hT⟩ : ∃ s a b, rv (A + B + C) = RV s a b := ⟨_, _, _, rfl⟩
  obtain ⟨sV, aV, bV, hV⟩ : ∃ s a b, rv (B + C) = RV s a b := ⟨_, _, _, rfl⟩
  obtain ⟨sM, aM, bM, hM⟩ : ∃ s a b, rv (A * B) = RV s a b := ⟨_, _, _, rfl⟩
  obtain ⟨sN, aN, bN, hN⟩ : ∃ s a b, rv (A * B * C) = RV s a b := ⟨_, _, _, rfl⟩
  obtain ⟨sP, aP, bP, hP⟩ : ∃ s a b, rv (B * C) = RV s a b := ⟨_, _, _, rfl⟩
  obtain ⟨sR, aR, bR, hR⟩ : ∃ s a b, rv (A * C) = RV s a b := ⟨_, _, _, rfl⟩
  obtain ⟨sD, aD, bD, hD⟩ : ∃ s a b, rv (A * B + A * C) = RV s a b := ⟨_, _, _, rfl⟩
  obtain ⟨sE, aE, bE, hE⟩ : ∃ s a b, rv (-A) = RV s a b := ⟨_, _, _, rfl⟩
  obtain ⟨sF, aF, bF, hF⟩ : ∃ s a b, rv (A - B) = RV s a b := ⟨_, _, _, rfl⟩
  obtain ⟨sG, aG, bG, hG⟩ : ∃ s a b, rv (-B) = RV s a b := ⟨_, _, _, rfl⟩
  have hcl := fun h => hB0 h _ _ _ hB
  have hbz : B = 0 → sB = false ∧ aB = ⟨#[]⟩ ∧ bB = ⟨#[1]⟩ := fun h => by
    rw [h, e0] at hB
    exact ⟨(RV_inj hB).1.symm, (RV_inj hB).2.1.symm, (RV_inj hB).2.2.symm⟩
  have HS3 := Lib.hid (fun w => slr3 w _ _ _ _ _ _ _ _ _ _ _ _ hA hB hC)
  rw [hA, hB, hS] at k1
  rw [hB, hA, hS] at k2
  rw [hS, hC, hT] at k6
  rw [hB, hC, hV] at k7
  rw [hA, hV, hT] at k8
  rw [hM, hR, hD] at k15
  rw [hA, e0] at k16
  rw [hA, hE, e0] at k19
  rw [hA, hG, hF] at k23
  rw [hA, hB, hM] at k3
  rw [hB, hA, hM] at k4
  rw [hM, hC, hN] at k10
  rw [hB, hC, hP] at k11
  rw [hA, hP, hN] at k12
  rw [hA, hV, hD] at k13
  rw [hA, hC, hR] at k14
  rw [hA, h1] at k17
  rw [hA, hE] at k18
  rw [hB, hG] at k22
  rw [hA, hB, hF] at k21
  rw [hT] at k24
  rw [e0] at kz
  rw [h1] at ko
  rw [hA, hB] at kq
  rw [hA] at mA
  rw [hB] at mB
  rw [hC] at mC
  rw [hA, hB] at hU
  have K1X := Lib.hid k1
  have K2X := Lib.hid k2
  have K6X := Lib.hid k6
  have K7X := Lib.hid k7
  have K8X := Lib.hid k8
  have K15X := Lib.hid k15
  have K16X := Lib.hid k16
  have K19X := Lib.hid k19
  have K23X := Lib.hid k23
  have K3X := Lib.hid k3
  have K4X := Lib.hid k4
  have K10X := Lib.hid k10
  have K11X := Lib.hid k11
  have K12X := Lib.hid k12
  have K13X := Lib.hid k13
  have K14X := Lib.hid k14
  have K17X := Lib.hid k17
  have K18X := Lib.hid k18
  have K22X := Lib.hid k22
  have K21X := Lib.hid k21
  have K24X := Lib.hid k24
  have KZX := Lib.hid kz
  have KOX := Lib.hid ko
  have KQX := Lib.hid kq
  have MAX := Lib.hid mA
  have MBX := Lib.hid mB
  have MCX := Lib.hid mC
  have KSX2 := Lib.hid kS
  have HU := Lib.hid hU; have HCL := Lib.hid hcl; have HBZ := Lib.hid hbz
  clear k1 k2 k6 k7 k8 k15 k16 k19 k23 k3 k4 k10 k11 k12 k13 k14 k17 k18 k22 k21 k24 kz ko kq mA mB mC kS hU hcl hbz hB0 e0 zA zB zC z0 zo hA hB hC h1 hS hT hV hM hN hP hR hD hE hF hG
  have hx := Blk.new w 46 [.int .i64 x1, .int .i64 x2, .int .i64 x3]
  have hX := Lib.hid ((hx.alloc (.cells #[.int .i64 y1, .int .i64 y2, .int .i64 y3] 46)).alloc (.cells #[.int .i64 z1, .int .i64 z2, .int .i64 z3] 46))
  have hy := Blk.new (w.alloc (.cells #[.int .i64 x1, .int .i64 x2, .int .i64 x3] 46)) 46 [.int .i64 y1, .int .i64 y2, .int .i64 y3]
  rw [World.size_alloc] at hy
  have hY := Lib.hid (hy.alloc (.cells #[.int .i64 z1, .int .i64 z2, .int .i64 z3] 46))
  have hz := Blk.new ((w.alloc (.cells #[.int .i64 x1, .int .i64 x2, .int .i64 x3] 46)).alloc (.cells #[.int .i64 y1, .int .i64 y2, .int .i64 y3] 46)) 46 [.int .i64 z1, .int .i64 z2, .int .i64 z3]
  rw [World.size_alloc, World.size_alloc] at hz
  have hZ := Lib.hid hz
  have HB := Lib.hid ((((Below.refl w.heap.size w).alloc (Nat.le_refl _) (.cells #[.int .i64 x1, .int .i64 x2, .int .i64 x3] 46)).alloc (by simp) (.cells #[.int .i64 y1, .int .i64 y2, .int .i64 y3] 46)).alloc (by simp; omega) (.cells #[.int .i64 z1, .int .i64 z2, .int .i64 z3] 46))
  have HE := Lib.hid he
  clear hx hy hz he
  go_enter Tryz.func8, Tryz.ntmps8
  go_upto_region 1 with fail
  generalize ((w.alloc (.cells #[.int .i64 x1, .int .i64 x2, .int .i64 x3] 46)).alloc (.cells #[.int .i64 y1, .int .i64 y2, .int .i64 y3] 46)).alloc (.cells #[.int .i64 z1, .int .i64 z2, .int .i64 z3] 46) = W0 at *
  go_wp2_with fail
  refine (KSX2.out _ (HE.out.below HB.out)).mono ?_
  rintro _ v0 ⟨rfl, g⟩
  replace hX := Lib.hid (hX.out.on g)
  replace hY := Lib.hid (hY.out.on g)
  replace hZ := Lib.hid (hZ.out.on g)
  replace HB := Lib.hid (HB.out.trans (g.mono HB.out.size)); clear g
  have q0 : v0.cell? ⟨w.heap.size, 0, none⟩ = some (.int .i64 x1) := hX.out.cell 0
  have q1 : v0.cell? ⟨w.heap.size, 1, none⟩ = some (.int .i64 x2) := hX.out.cell 1
  have q2 : v0.cell? ⟨w.heap.size, 2, none⟩ = some (.int .i64 x3) := hX.out.cell 2
  go_wp2_with fail
  refine (MAX.out _).mono ?_
  rintro _ v1 ⟨rfl, g⟩
  clear q0 q1 q2
  replace hX := Lib.hid (hX.out.on g)
  replace hY := Lib.hid (hY.out.on g)
  replace hZ := Lib.hid (hZ.out.on g)
  replace HB := Lib.hid (HB.out.trans (g.mono HB.out.size)); clear g
  go_upto_region 3 with fail
  have g : Below v1.heap.size v1 (v1.alloc (.cells #[.bool sA, .string aA, .string bA] 39)) := (Below.refl _ _).alloc (Nat.le_refl _) _
  have JA := Lib.hid (Blk.new v1 39 [.bool sA, .string aA, .string bA])
  replace hX := Lib.hid (hX.out.on g)
  replace hY := Lib.hid (hY.out.on g)
  replace hZ := Lib.hid (hZ.out.on g)
  replace HB := Lib.hid (HB.out.trans (g.mono HB.out.size)); clear g
  obtain ⟨BJA, hBJA⟩ : ∃ B, v1.heap.size = B := ⟨_, rfl⟩
  rw [hBJA] at JA ⊢
  generalize v1.alloc (.cells #[.bool sA, .string aA, .string bA] 39) = wbJA at *
  clear hBJA
  have q0 : wbJA.cell? ⟨w.heap.size + 1, 0, none⟩ = some (.int .i64 y1) := hY.out.cell 0
  have q1 : wbJA.cell? ⟨w.heap.size + 1, 1, none⟩ = some (.int .i64 y2) := hY.out.cell 1
  have q2 : wbJA.cell? ⟨w.heap.size + 1, 2, none⟩ = some (.int .i64 y3) := hY.out.cell 2
  go_wp2_with fail
  refine (MBX.out _).mono ?_
  rintro _ v2 ⟨rfl, g⟩
  clear q0 q1 q2
  replace hX := Lib.hid (hX.out.on g)
  replace hY := Lib.hid (hY.out.on g)
  replace hZ := Lib.hid (hZ.out.on g)
  replace JA := Lib.hid (JA.out.on g)
  replace HB := Lib.hid (HB.out.trans (g.mono HB.out.size)); clear g
  go_upto_region 4 with fail
  have g : Below v2.heap.size v2 (v2.alloc (.cells #[.bool sB, .string aB, .string bB] 39)) := (Below.refl _ _).alloc (Nat.le_refl _) _
  have JB := Lib.hid (Blk.new v2 39 [.bool sB, .string aB, .string bB])
  replace hX := Lib.hid (hX.out.on g)
  replace hY := Lib.hid (hY.out.on g)
  replace hZ := Lib.hid (hZ.out.on g)
  replace JA := Lib.hid (JA.out.on g)
  replace HB := Lib.hid (HB.out.trans (g.mono HB.out.size)); clear g
  obtain ⟨BJB, hBJB⟩ : ∃ B, v2.heap.size = B := ⟨_, rfl⟩
  rw [hBJB] at JB ⊢
  generalize v2.alloc (.cells #[.bool sB, .string aB, .string bB] 39) = wbJB at *
  clear hBJB
  have q0 : wbJB.cell? ⟨w.heap.size + 2, 0, none⟩ = some (.int .i64 z1) := hZ.out.cell 0
  have q1 : wbJB.cell? ⟨w.heap.size + 2, 1, none⟩ = some (.int .i64 z2) := hZ.out.cell 1
  have q2 : wbJB.cell? ⟨w.heap.size + 2, 2, none⟩ = some (.int .i64 z3) := hZ.out.cell 2
  go_wp2_with fail
  refine (MCX.out _).mono ?_
  rintro _ v3 ⟨rfl, g⟩
  clear q0 q1 q2
  replace hX := Lib.hid (hX.out.on g)
  replace hY := Lib.hid (hY.out.on g)
  replace hZ := Lib.hid (hZ.out.on g)
  replace JA := Lib.hid (JA.out.on g)
  replace JB := Lib.hid (JB.out.on g)
  replace HB := Lib.hid (HB.out.trans (g.mono HB.out.size)); clear g
  go_upto_region 5 with fail
  have g : Below v3.heap.size v3 (v3.alloc (.cells #[.bool sC, .string aC, .string bC] 39)) := (Below.refl _ _).alloc (Nat.le_refl _) _
  have JC := Lib.hid (Blk.new v3 39 [.bool sC, .string aC, .string bC])
  replace hX := Lib.hid (hX.out.on g)
  replace hY := Lib.hid (hY.out.on g)
  replace hZ := Lib.hid (hZ.out.on g)
  replace JA := Lib.hid (JA.out.on g)
  replace JB := Lib.hid (JB.out.on g)
  replace HB := Lib.hid (HB.out.trans (g.mono HB.out.size)); clear g
  obtain ⟨BJC, hBJC⟩ : ∃ B, v3.heap.size = B := ⟨_, rfl⟩
  rw [hBJC] at JC ⊢
  generalize v3.alloc (.cells #[.bool sC, .string aC, .string bC] 39) = wbJC at *
  clear hBJC
  clear hX hY hZ
  go_wp2_with fail
  refine (KZX.out _).mono ?_
  rintro _ v4 ⟨rfl, g⟩
  replace JA := Lib.hid (JA.out.on g)
  replace JB := Lib.hid (JB.out.on g)
  replace JC := Lib.hid (JC.out.on g)
  replace HB := Lib.hid (HB.out.trans (g.mono HB.out.size)); clear g
  go_upto_region 6 with fail
  have g : Below v4.heap.size v4 (v4.alloc (.cells #[.bool false, .string ⟨#[]⟩, .string ⟨#[1]⟩] 39)) := (Below.refl _ _).alloc (Nat.le_refl _) _
  have JZ := Lib.hid (Blk.new v4 39 [.bool false, .string ⟨#[]⟩, .string ⟨#[1]⟩])
  replace JA := Lib.hid (JA.out.on g)
  replace JB := Lib.hid (JB.out.on g)
  replace JC := Lib.hid (JC.out.on g)
  replace HB := Lib.hid (HB.out.trans (g.mono HB.out.size)); clear g
  obtain ⟨BJZ, hBJZ⟩ : ∃ B, v4.heap.size = B := ⟨_, rfl⟩
  rw [hBJZ] at JZ ⊢
  generalize v4.alloc (.cells #[.bool false, .string ⟨#[]⟩, .string ⟨#[1]⟩] 39) = wbJZ at *
  clear hBJZ
  go_wp2_with fail
  refine (KOX.out _).mono ?_
  rintro _ v5 ⟨rfl, g⟩
  replace JA := Lib.hid (JA.out.on g)
  replace JB := Lib.hid (JB.out.on g)
  replace JC := Lib.hid (JC.out.on g)
  replace JZ := Lib.hid (JZ.out.on g)
  replace HB := Lib.hid (HB.out.trans (g.mono HB.out.size)); clear g
  go_upto_region 7 with fail
  have g : Below v5.heap.size v5 (v5.alloc (.cells #[.bool s1, .string a1, .string b1] 39)) := (Below.refl _ _).alloc (Nat.le_refl _) _
  have J1 := Lib.hid (Blk.new v5 39 [.bool s1, .string a1, .string b1])
  replace JA := Lib.hid (JA.out.on g)
  replace JB := Lib.hid (JB.out.on g)
  replace JC := Lib.hid (JC.out.on g)
  replace JZ := Lib.hid (JZ.out.on g)
  replace HB := Lib.hid (HB.out.trans (g.mono HB.out.size)); clear g
  obtain ⟨BJ1, hBJ1⟩ : ∃ B, v5.heap.size = B := ⟨_, rfl⟩
  rw [hBJ1] at J1 ⊢
  generalize v5.alloc (.cells #[.bool s1, .string a1, .string b1] 39) = wbJ1 at *
  clear hBJ1
  obtain ⟨r00, r01, r02⟩ := JA.out.rc; obtain ⟨r10, r11, r12⟩ := JB.out.rc; obtain ⟨r20, r21, r22⟩ := JC.out.rc
  go_region_held3 (fun w' => (w'.cell? ⟨BJA, 0, none⟩ = some (.bool sA) ∧ w'.cell? ⟨BJA, 1, none⟩ = some (.string aA) ∧ w'.cell? ⟨BJA, 2, none⟩ = some (.string bA)) ∧ (w'.cell? ⟨BJB, 0, none⟩ = some (.bool sB) ∧ w'.cell? ⟨BJB, 1, none⟩ = some (.string aB) ∧ w'.cell? ⟨BJB, 2, none⟩ = some (.string bB)) ∧ (w'.cell? ⟨BJC, 0, none⟩ = some (.bool sC) ∧ w'.cell? ⟨BJC, 1, none⟩ = some (.string aC) ∧ w'.cell? ⟨BJC, 2, none⟩ = some (.string bC)))
    (first | exact ⟨e12x0.rc, e12x1.rc, e12x2.rc⟩ | exact ⟨e11x0.rc, e11x1.rc, e11x2.rc⟩ | exact ⟨e10x0.rc, e10x1.rc, e10x2.rc⟩ | exact ⟨e9x0.rc, e9x1.rc, e9x2.rc⟩ | exact ⟨e8x0.rc, e8x1.rc, e8x2.rc⟩ | exact ⟨e7x0.rc, e7x1.rc, e7x2.rc⟩ | exact ⟨e6x0.rc, e6x1.rc, e6x2.rc⟩ | exact ⟨e5x0.rc, e5x1.rc, e5x2.rc⟩ | exact ⟨e4x0.rc, e4x1.rc, e4x2.rc⟩ | exact ⟨e3x0.rc, e3x1.rc, e3x2.rc⟩ | exact ⟨e2x0.rc, e2x1.rc, e2x2.rc⟩ | exact ⟨e1x0.rc, e1x1.rc, e1x2.rc⟩ | go_keep)
    ((first
      | (go_at_call 37; with_reducible refine (K1X.out _).mono ?_; rintro _ u1 ⟨rfl, h1⟩; have g1 : Below wbJ1.heap.size wbJ1 u1 := undr3 h1; have e1x0 := JA.out.on g1; have e1x1 := JB.out.on g1; have e1x2 := JC.out.on g1)
      | (go_at_call 37; with_reducible refine (K2X.out _).mono ?_; rintro _ u2 ⟨rfl, h2⟩; have g2 : Below wbJ1.heap.size wbJ1 u2 := (by first | exact g1.trans (h2.mono g1.size) | exact alloc3 g1 h2); have e2x0 := JA.out.on g2; have e2x1 := JB.out.on g2; have e2x2 := JC.out.on g2)
      | (go_at_call 39; with_reducible refine (K3X.out _).mono ?_; rintro _ u3 ⟨rfl, h3⟩; have g3 : Below wbJ1.heap.size wbJ1 u3 := (by first | exact g2.trans (h3.mono g2.size) | exact alloc3 g2 h3); have e3x0 := JA.out.on g3; have e3x1 := JB.out.on g3; have e3x2 := JC.out.on g3)
      | (go_at_call 39; with_reducible refine (K4X.out _).mono ?_; rintro _ u4 ⟨rfl, h4⟩; have g4 : Below wbJ1.heap.size wbJ1 u4 := (by first | exact g3.trans (h4.mono g3.size) | exact alloc3 g3 h4); have e4x0 := JA.out.on g4; have e4x1 := JB.out.on g4; have e4x2 := JC.out.on g4)
      | (go_at_call 37; with_reducible refine (K1X.out _).mono ?_; rintro _ u5 ⟨rfl, h5⟩; have g5 : Below wbJ1.heap.size wbJ1 u5 := (by first | exact g4.trans (h5.mono g4.size) | exact alloc3 g4 h5); have e5x0 := JA.out.on g5; have e5x1 := JB.out.on g5; have e5x2 := JC.out.on g5)
      | (go_at_call 37; with_reducible refine (K6X.out _).mono ?_; rintro _ u6 ⟨rfl, h6⟩; have g6 : Below wbJ1.heap.size wbJ1 u6 := (by first | exact g5.trans (h6.mono g5.size) | exact alloc3 g5 h6); have e6x0 := JA.out.on g6; have e6x1 := JB.out.on g6; have e6x2 := JC.out.on g6)
      | (go_at_call 37; with_reducible refine (K7X.out _).mono ?_; rintro _ u7 ⟨rfl, h7⟩; have g7 : Below wbJ1.heap.size wbJ1 u7 := (by first | exact g6.trans (h7.mono g6.size) | exact alloc3 g6 h7); have e7x0 := JA.out.on g7; have e7x1 := JB.out.on g7; have e7x2 := JC.out.on g7)
      | (go_at_call 37; with_reducible refine (K8X.out _).mono ?_; rintro _ u8 ⟨rfl, h8⟩; have g8 : Below wbJ1.heap.size wbJ1 u8 := (by first | exact g7.trans (h8.mono g7.size) | exact alloc3 g7 h8); have e8x0 := JA.out.on g8; have e8x1 := JB.out.on g8; have e8x2 := JC.out.on g8)
      | (go_at_call 39; with_reducible refine (K3X.out _).mono ?_; rintro _ u9 ⟨rfl, h9⟩; have g9 : Below wbJ1.heap.size wbJ1 u9 := (by first | exact g8.trans (h9.mono g8.size) | exact alloc3 g8 h9); have e9x0 := JA.out.on g9; have e9x1 := JB.out.on g9; have e9x2 := JC.out.on g9)
      | (go_at_call 39; with_reducible refine (K10X.out _).mono ?_; rintro _ u10 ⟨rfl, h10⟩; have g10 : Below wbJ1.heap.size wbJ1 u10 := (by first | exact g9.trans (h10.mono g9.size) | exact alloc3 g9 h10); have e10x0 := JA.out.on g10; have e10x1 := JB.out.on g10; have e10x2 := JC.out.on g10)
      | (go_at_call 39; with_reducible refine (K11X.out _).mono ?_; rintro _ u11 ⟨rfl, h11⟩; have g11 : Below wbJ1.heap.size wbJ1 u11 := (by first | exact g10.trans (h11.mono g10.size) | exact alloc3 g10 h11); have e11x0 := JA.out.on g11; have e11x1 := JB.out.on g11; have e11x2 := JC.out.on g11)
      | (go_at_call 39; with_reducible refine (K12X.out _).mono ?_; rintro _ u12 ⟨rfl, h12⟩; have g12 : Below wbJ1.heap.size wbJ1 u12 := (by first | exact g11.trans (h12.mono g11.size) | exact alloc3 g11 h12); have e12x0 := JA.out.on g12; have e12x1 := JB.out.on g12; have e12x2 := JC.out.on g12)
      | fail))
  have g := g12
  clear e1x0 e1x1 e1x2 e2x0 e2x1 e2x2 e3x0 e3x1 e3x2 e4x0 e4x1 e4x2 e5x0 e5x1 e5x2 e6x0 e6x1 e6x2 e7x0 e7x1 e7x2 e8x0 e8x1 e8x2 e9x0 e9x1 e9x2 e10x0 e10x1 e10x2 e11x0 e11x1 e11x2 e12x0 e12x1 e12x2 g1 h1 g2 h2 g3 h3 g4 h4 g5 h5 g6 h6 g7 h7 g8 h8 g9 h9 g10 h10 g11 h11 g12 h12 r00 r01 r02 r10 r11 r12 r20 r21 r22
  replace JA := Lib.hid (JA.out.on g)
  replace JB := Lib.hid (JB.out.on g)
  replace JC := Lib.hid (JC.out.on g)
  replace JZ := Lib.hid (JZ.out.on g)
  replace J1 := Lib.hid (J1.out.on g)
  replace HB := Lib.hid (HB.out.trans (g.mono HB.out.size)); clear g
  go_wp2_with fail
  obtain ⟨r00, r01, r02⟩ := JA.out.rc; obtain ⟨r10, r11, r12⟩ := JB.out.rc; obtain ⟨r20, r21, r22⟩ := JC.out.rc; obtain ⟨r30, r31, r32⟩ := JZ.out.rc; obtain ⟨r40, r41, r42⟩ := J1.out.rc
  go_region_held3 (fun w' => (w'.cell? ⟨BJA, 0, none⟩ = some (.bool sA) ∧ w'.cell? ⟨BJA, 1, none⟩ = some (.string aA) ∧ w'.cell? ⟨BJA, 2, none⟩ = some (.string bA)) ∧ (w'.cell? ⟨BJB, 0, none⟩ = some (.bool sB) ∧ w'.cell? ⟨BJB, 1, none⟩ = some (.string aB) ∧ w'.cell? ⟨BJB, 2, none⟩ = some (.string bB)) ∧ (w'.cell? ⟨BJC, 0, none⟩ = some (.bool sC) ∧ w'.cell? ⟨BJC, 1, none⟩ = some (.string aC) ∧ w'.cell? ⟨BJC, 2, none⟩ = some (.string bC)) ∧ (w'.cell? ⟨BJZ, 0, none⟩ = some (.bool false) ∧ w'.cell? ⟨BJZ, 1, none⟩ = some (.string ⟨#[]⟩) ∧ w'.cell? ⟨BJZ, 2, none⟩ = some (.string ⟨#[1]⟩)) ∧ (w'.cell? ⟨BJ1, 0, none⟩ = some (.bool s1) ∧ w'.cell? ⟨BJ1, 1, none⟩ = some (.string a1) ∧ w'.cell? ⟨BJ1, 2, none⟩ = some (.string b1)))
    (first | exact ⟨e9x0.rc, e9x1.rc, e9x2.rc, e9x3.rc, e9x4.rc⟩ | exact ⟨e8x0.rc, e8x1.rc, e8x2.rc, e8x3.rc, e8x4.rc⟩ | exact ⟨e7x0.rc, e7x1.rc, e7x2.rc, e7x3.rc, e7x4.rc⟩ | exact ⟨e6x0.rc, e6x1.rc, e6x2.rc, e6x3.rc, e6x4.rc⟩ | exact ⟨e5x0.rc, e5x1.rc, e5x2.rc, e5x3.rc, e5x4.rc⟩ | exact ⟨e4x0.rc, e4x1.rc, e4x2.rc, e4x3.rc, e4x4.rc⟩ | exact ⟨e3x0.rc, e3x1.rc, e3x2.rc, e3x3.rc, e3x4.rc⟩ | exact ⟨e2x0.rc, e2x1.rc, e2x2.rc, e2x3.rc, e2x4.rc⟩ | exact ⟨e1x0.rc, e1x1.rc, e1x2.rc, e1x3.rc, e1x4.rc⟩ | go_keep)
    ((first
      | (go_at_call 37; with_reducible refine (K7X.out _).mono ?_; rintro _ v1 ⟨rfl, h1⟩; have g1 : Below u12.heap.size u12 v1 := undr3 h1; have e1x0 := JA.out.on g1; have e1x1 := JB.out.on g1; have e1x2 := JC.out.on g1; have e1x3 := JZ.out.on g1; have e1x4 := J1.out.on g1)
      | (go_at_call 39; with_reducible refine (K13X.out _).mono ?_; rintro _ v2 ⟨rfl, h2⟩; have g2 : Below u12.heap.size u12 v2 := (by first | exact g1.trans (h2.mono g1.size) | exact alloc3 g1 h2); have e2x0 := JA.out.on g2; have e2x1 := JB.out.on g2; have e2x2 := JC.out.on g2; have e2x3 := JZ.out.on g2; have e2x4 := J1.out.on g2)
      | (go_at_call 39; with_reducible refine (K3X.out _).mono ?_; rintro _ v3 ⟨rfl, h3⟩; have g3 : Below u12.heap.size u12 v3 := (by first | exact g2.trans (h3.mono g2.size) | exact alloc3 g2 h3); have e3x0 := JA.out.on g3; have e3x1 := JB.out.on g3; have e3x2 := JC.out.on g3; have e3x3 := JZ.out.on g3; have e3x4 := J1.out.on g3)
      | (go_at_call 39; with_reducible refine (K14X.out _).mono ?_; rintro _ v4 ⟨rfl, h4⟩; have g4 : Below u12.heap.size u12 v4 := (by first | exact g3.trans (h4.mono g3.size) | exact alloc3 g3 h4); have e4x0 := JA.out.on g4; have e4x1 := JB.out.on g4; have e4x2 := JC.out.on g4; have e4x3 := JZ.out.on g4; have e4x4 := J1.out.on g4)
      | (go_at_call 37; with_reducible refine (K15X.out _).mono ?_; rintro _ v5 ⟨rfl, h5⟩; have g5 : Below u12.heap.size u12 v5 := (by first | exact g4.trans (h5.mono g4.size) | exact alloc3 g4 h5); have e5x0 := JA.out.on g5; have e5x1 := JB.out.on g5; have e5x2 := JC.out.on g5; have e5x3 := JZ.out.on g5; have e5x4 := J1.out.on g5)
      | (go_at_call 37; with_reducible refine (K16X.out _).mono ?_; rintro _ v6 ⟨rfl, h6⟩; have g6 : Below u12.heap.size u12 v6 := (by first | exact g5.trans (h6.mono g5.size) | exact alloc3 g5 h6); have e6x0 := JA.out.on g6; have e6x1 := JB.out.on g6; have e6x2 := JC.out.on g6; have e6x3 := JZ.out.on g6; have e6x4 := J1.out.on g6)
      | (go_at_call 39; with_reducible refine (K17X.out _).mono ?_; rintro _ v7 ⟨rfl, h7⟩; have g7 : Below u12.heap.size u12 v7 := (by first | exact g6.trans (h7.mono g6.size) | exact alloc3 g6 h7); have e7x0 := JA.out.on g7; have e7x1 := JB.out.on g7; have e7x2 := JC.out.on g7; have e7x3 := JZ.out.on g7; have e7x4 := J1.out.on g7)
      | (go_at_call 40; with_reducible refine (K18X.out _).mono ?_; rintro _ v8 ⟨rfl, h8⟩; have g8 : Below u12.heap.size u12 v8 := (by first | exact g7.trans (h8.mono g7.size) | exact alloc3 g7 h8); have e8x0 := JA.out.on g8; have e8x1 := JB.out.on g8; have e8x2 := JC.out.on g8; have e8x3 := JZ.out.on g8; have e8x4 := J1.out.on g8)
      | (go_at_call 37; with_reducible refine (K19X.out _).mono ?_; rintro _ v9 ⟨rfl, h9⟩; have g9 : Below u12.heap.size u12 v9 := (by first | exact g8.trans (h9.mono g8.size) | exact alloc3 g8 h9); have e9x0 := JA.out.on g9; have e9x1 := JB.out.on g9; have e9x2 := JC.out.on g9; have e9x3 := JZ.out.on g9; have e9x4 := J1.out.on g9)
      | fail))
  have g := g9
  clear e1x0 e1x1 e1x2 e1x3 e1x4 e2x0 e2x1 e2x2 e2x3 e2x4 e3x0 e3x1 e3x2 e3x3 e3x4 e4x0 e4x1 e4x2 e4x3 e4x4 e5x0 e5x1 e5x2 e5x3 e5x4 e6x0 e6x1 e6x2 e6x3 e6x4 e7x0 e7x1 e7x2 e7x3 e7x4 e8x0 e8x1 e8x2 e8x3 e8x4 e9x0 e9x1 e9x2 e9x3 e9x4 g1 h1 g2 h2 g3 h3 g4 h4 g5 h5 g6 h6 g7 h7 g8 h8 g9 h9 r00 r01 r02 r10 r11 r12 r20 r21 r22 r30 r31 r32 r40 r41 r42
  replace JA := Lib.hid (JA.out.on g)
  replace JB := Lib.hid (JB.out.on g)
  replace JC := Lib.hid (JC.out.on g)
  replace JZ := Lib.hid (JZ.out.on g)
  replace J1 := Lib.hid (J1.out.on g)
  replace HB := Lib.hid (HB.out.trans (g.mono HB.out.size)); clear g
  clear J1
  obtain ⟨c0, c1, c2⟩ := JA.out.rc
  obtain ⟨d0, d1, d2⟩ := JB.out.rc
  go_wp2_with fail
  refine (KQX.out _).mono ?_
  rintro _ v6 ⟨rfl, g⟩
  clear c0 c1 c2 d0 d1 d2
  replace JA := Lib.hid (JA.out.on g)
  replace JB := Lib.hid (JB.out.on g)
  replace JC := Lib.hid (JC.out.on g)
  replace JZ := Lib.hid (JZ.out.on g)
  replace HB := Lib.hid (HB.out.trans (g.mono HB.out.size)); clear g
  go_upto_region 10 with fail
  have g : Below v6.heap.size v6 (v6.alloc (.cells #[.bool sQ, .string aQ, .string bQ] 39)) := (Below.refl _ _).alloc (Nat.le_refl _) _
  have JQ := Lib.hid (Blk.new v6 39 [.bool sQ, .string aQ, .string bQ])
  replace JA := Lib.hid (JA.out.on g)
  replace JB := Lib.hid (JB.out.on g)
  replace JC := Lib.hid (JC.out.on g)
  replace JZ := Lib.hid (JZ.out.on g)
  replace HB := Lib.hid (HB.out.trans (g.mono HB.out.size)); clear g
  obtain ⟨BJQ, hBJQ⟩ : ∃ B, v6.heap.size = B := ⟨_, rfl⟩
  rw [hBJQ] at JQ ⊢
  generalize v6.alloc (.cells #[.bool sQ, .string aQ, .string bQ] 39) = W7 at *
  clear hBJQ
  go_cut [17] from 110 (fun v wc => v = .bool true ∧ Below W7.heap.size W7 wc)
  case first =>
    obtain ⟨c0, c1, c2⟩ := JA.out.rc
    obtain ⟨d0, d1, d2⟩ := JB.out.rc
    obtain ⟨e0, e1, e2⟩ := JZ.out.rc
    obtain ⟨f0, f1, f2⟩ := JQ.out.rc
    rcases HU.out with ⟨rfl, hb0⟩ | ⟨rfl, hb0, hm⟩
    · obtain ⟨rfl, rfl, rfl⟩ := HBZ.out hb0
      clear hb0
      go_wp2_with fail
      go_quiet (fail)
      go_wp2_with fail
      go_meet
      case rel => exact ⟨rfl, belowDrewN (Below.refl _ _) _⟩
    · have hn := HCL.out hb0
      have KM := Lib.hid hm
      clear hm hb0
      go_region_held3 (fun w' => (w'.cell? ⟨BJA, 0, none⟩ = some (.bool sA) ∧ w'.cell? ⟨BJA, 1, none⟩ = some (.string aA) ∧ w'.cell? ⟨BJA, 2, none⟩ = some (.string bA)) ∧ (w'.cell? ⟨BJB, 0, none⟩ = some (.bool sB) ∧ w'.cell? ⟨BJB, 1, none⟩ = some (.string aB) ∧ w'.cell? ⟨BJB, 2, none⟩ = some (.string bB)) ∧ (w'.cell? ⟨BJZ, 0, none⟩ = some (.bool false) ∧ w'.cell? ⟨BJZ, 1, none⟩ = some (.string ⟨#[]⟩) ∧ w'.cell? ⟨BJZ, 2, none⟩ = some (.string ⟨#[1]⟩)) ∧ (w'.cell? ⟨BJQ, 0, none⟩ = some (.bool sQ) ∧ w'.cell? ⟨BJQ, 1, none⟩ = some (.string aQ) ∧ w'.cell? ⟨BJQ, 2, none⟩ = some (.string bQ)))
        (first | exact ⟨m1.rc, m2.rc, m3.rc, m4.rc⟩ | go_keep)
        ((first
          | (go_at_call 39; with_reducible refine (KM.out _).mono ?_; rintro _ u ⟨rfl, h1⟩; have gm : Below W7.heap.size W7 u := undr3 h1; have m1 := JA.out.on gm; have m2 := JB.out.on gm; have m3 := JZ.out.on gm; have m4 := JQ.out.on gm)
          | fail))
      go_wp2_with fail
      go_meet
      case rel => exact ⟨rfl, gm⟩
  case rest =>
    obtain ⟨rfl, g⟩ := hcut
    clear JQ
    replace JA := Lib.hid (JA.out.on g)
    replace JB := Lib.hid (JB.out.on g)
    replace JC := Lib.hid (JC.out.on g)
    replace JZ := Lib.hid (JZ.out.on g)
    replace HB := Lib.hid (HB.out.trans (g.mono HB.out.size)); clear g
    go_upto_region 11 with fail
    obtain ⟨r00, r01, r02⟩ := JA.out.rc; obtain ⟨r10, r11, r12⟩ := JB.out.rc; obtain ⟨r20, r21, r22⟩ := JC.out.rc
    go_region_held3 (fun w' => (w'.cell? ⟨BJA, 0, none⟩ = some (.bool sA) ∧ w'.cell? ⟨BJA, 1, none⟩ = some (.string aA) ∧ w'.cell? ⟨BJA, 2, none⟩ = some (.string bA)) ∧ (w'.cell? ⟨BJB, 0, none⟩ = some (.bool sB) ∧ w'.cell? ⟨BJB, 1, none⟩ = some (.string aB) ∧ w'.cell? ⟨BJB, 2, none⟩ = some (.string bB)) ∧ (w'.cell? ⟨BJC, 0, none⟩ = some (.bool sC) ∧ w'.cell? ⟨BJC, 1, none⟩ = some (.string aC) ∧ w'.cell? ⟨BJC, 2, none⟩ = some (.string bC)))
      (first | exact ⟨e6x0.rc, e6x1.rc, e6x2.rc⟩ | exact ⟨e5x0.rc, e5x1.rc, e5x2.rc⟩ | exact ⟨e4x0.rc, e4x1.rc, e4x2.rc⟩ | exact ⟨e3x0.rc, e3x1.rc, e3x2.rc⟩ | exact ⟨e2x0.rc, e2x1.rc, e2x2.rc⟩ | exact ⟨e1x0.rc, e1x1.rc, e1x2.rc⟩ | go_keep)
      ((first
        | (go_at_call 42; with_reducible refine (K21X.out _).mono ?_; rintro _ y1 ⟨rfl, h1⟩; have g1 : Below wc.heap.size wc y1 := undr3 h1; have e1x0 := JA.out.on g1; have e1x1 := JB.out.on g1; have e1x2 := JC.out.on g1)
        | (go_at_call 40; with_reducible refine (K22X.out _).mono ?_; rintro _ y2 ⟨rfl, h2⟩; have g2 : Below wc.heap.size wc y2 := g1.trans (h2.mono g1.size); have e2x0 := JA.out.on g2; have e2x1 := JB.out.on g2; have e2x2 := JC.out.on g2)
        | (go_at_call 37; with_reducible refine (K23X.out _).mono ?_; rintro _ y3 ⟨rfl, h3⟩; have g3 : Below wc.heap.size wc y3 := g2.trans (h3.mono g2.size); have e3x0 := JA.out.on g3; have e3x1 := JB.out.on g3; have e3x2 := JC.out.on g3)
        | (go_at_call 38; with_reducible refine (K24X.out _ _ (HS3.out _)).mono ?_; rintro _ y4 ⟨rfl, h4⟩; have g4 : Below wc.heap.size wc y4 := alloc3 g3 h4; have e4x0 := JA.out.on g4; have e4x1 := JB.out.on g4; have e4x2 := JC.out.on g4)
        | (go_at_call 37; with_reducible refine (K1X.out _).mono ?_; rintro _ y5 ⟨rfl, h5⟩; have g5 : Below wc.heap.size wc y5 := g4.trans (h5.mono g4.size); have e5x0 := JA.out.on g5; have e5x1 := JB.out.on g5; have e5x2 := JC.out.on g5)
        | (go_at_call 37; with_reducible refine (K6X.out _).mono ?_; rintro _ y6 ⟨rfl, h6⟩; have g6 : Below wc.heap.size wc y6 := g5.trans (h6.mono g5.size); have e6x0 := JA.out.on g6; have e6x1 := JB.out.on g6; have e6x2 := JC.out.on g6)
        | fail))
    go_wp2_with fail
    go_ret
    exact ⟨rfl, HB.out.trans (g6.mono HB.out.size)⟩

theorem Field_walk {w : World} (x1 x2 x3 y1 y2 y3 z1 z2 z3 : Int) (hx1 : -9223372036854775808 ≤ x1 ∧ x1 ≤ 9223372036854775807) (hx2 : -9223372036854775808 ≤ x2 ∧ x2 ≤ 9223372036854775807) (hx3 : -9223372036854775808 ≤ x3 ∧ x3 ≤ 9223372036854775807) (hy1 : -9223372036854775808 ≤ y1 ∧ y1 ≤ 9223372036854775807) (hy2 : -9223372036854775808 ≤ y2 ∧ y2 ≤ 9223372036854775807) (hy3 : -9223372036854775808 ≤ y3 ∧ y3 ≤ 9223372036854775807) (hz1 : -9223372036854775808 ≤ z1 ∧ z1 ≤ 9223372036854775807) (hz2 : -9223372036854775808 ≤ z2 ∧ z2 ≤ 9223372036854775807) (hz3 : -9223372036854775808 ≤ z3 ∧ z3 ≤ 9223372036854775807) (he : Env w) :
    Calls Tryz.prog 8 #[.agg #[.int .i64 x1, .int .i64 x2, .int .i64 x3], .agg #[.int .i64 y1, .int .i64 y2, .int .i64 y3], .agg #[.int .i64 z1, .int .i64 z2, .int .i64 z3]] w fun e w' => e = .returned (.bool true) ∧ Below w.heap.size w w' := by
  have mA := fun w => Made3_any x1 x2 x3 w hx1 hx2 hx3
  have mB := fun w => Made3_any y1 y2 y3 w hy1 hy2 hy3
  have mC := fun w => Made3_any z1 z2 z3 w hz1 hz2 hz3
  have zA := madeR_sz x1 x2 x3
  have zB := madeR_sz y1 y2 y3
  have zC := madeR_sz z1 z2 z3
  generalize madeR x1 x2 x3 = A at *
  generalize madeR y1 y2 y3 = B at *
  generalize madeR z1 z2 z3 = C at *
  by_cases h0 : B = 0
  · subst h0
    exact Field_core x1 x2 x3 y1 y2 y3 z1 z2 z3 he A 0 C _ _ _ _ mA mB mC zA zB zC (fun w => Quo_z A w (zA.mono (by decide))) (.inl ⟨rfl, rfl⟩)
  · refine Field_core x1 x2 x3 y1 y2 y3 z1 z2 z3 he A B C _ _ _ _ mA mB mC zA zB zC (fun w => Quo_q A B w (zA.mono (by decide)) (zB.mono (by decide)) h0) (.inr ⟨rfl, h0, fun w => ?_⟩)
    have h := Mul_q (A / B) B w ((zA.quo zB h0).mono (by decide)) (zB.mono (by decide))
    rw [Rat.div_mul_cancel h0] at h
    exact h

#print axioms Field_walk
end Go.Proofs.YtolmjeglaolhlaaGreatDoor
