/- sorteslaw02.RatioSums: the walk. -/
import Derived.Test.YtolmjeglaolhlaaGreatDoorRatioQ
import Derived.Test.YtolmjeglaolhlaaGreatDoorRatioS
import Derived.Test.YtolmjeglaolhlaaGreatDoorRatioJ
namespace Go.Proofs.YtolmjeglaolhlaaGreatDoor
open Go.RowKit Num

set_option maxRecDepth 100000 in
set_option maxHeartbeats 2000000 in
/-- **sortesref02.Quo** by nought. -/
theorem rQuo_z (p : Rat) (w : World) (hp : Sz 600000 p) :
    Calls Tryz.prog 43 #[rv p, rv 0] w fun e w' => e = .returned (.tuple #[RV false ⟨#[]⟩ ⟨#[]⟩, .bool false]) ∧ Below w.heap.size w w' := by
  have v1 := fun w => rvalue_q p w (hp.mono (by decide))
  have v2 := fun w => rvalue_q 0 w (Sz.zero.mono (by decide))
  have e0 : rv 0 = RV false ⟨#[]⟩ ⟨#[1]⟩ := by unfold rv; rw [show ((0 : Rat).num).natAbs = 0 from rfl, Enc_zero, show (0 : Rat).den = 1 from rfl, Enc_one]; rfl
  rw [e0] at v2 ⊢
  unfold rv at *
  obtain ⟨t, ht⟩ : ∃ t, false = t := ⟨_, rfl⟩
  obtain ⟨c, hc⟩ : ∃ c, (⟨#[]⟩ : ByteArray) = c := ⟨_, rfl⟩
  obtain ⟨d, hd⟩ : ∃ d, (⟨#[1]⟩ : ByteArray) = d := ⟨_, rfl⟩
  have v2' : ∀ w, Calls Tryz.prog 82 #[RV t c d] w fun e w' => e = .returned (RV t c d) ∧ Below w.heap.size w w' := by rw [← ht, ← hc, ← hd]; exact v2
  have HT := Lib.hid ht; have HC := Lib.hid hc; have HD := Lib.hid hd
  have hgoal : ∀ t c d, (false = t) → ((⟨#[]⟩ : ByteArray) = c) → ((⟨#[1]⟩ : ByteArray) = d) → RV false ⟨#[]⟩ ⟨#[1]⟩ = RV t c d := by intro t c d h1 h2 h3; rw [h1, h2, h3]
  rw [hgoal t c d ht hc hd]
  clear v2 ht hc hd hgoal e0
  generalize decide (p.num < 0) = s at *
  generalize Enc p.num.natAbs = a at *
  generalize Enc p.den = b at *
  have R := Lib.hid (RB3.start w s a b t c d)
  have V1 := Lib.hid v1; have V2 := Lib.hid v2'
  clear v1 v2' hp
  go_enter Tryz.func43, Tryz.ntmps43
  go_upto_region 1 with fail
  generalize ((w.alloc (.cells #[.bool s, .string a, .string b] 39)).alloc (.cells #[.bool t, .string c, .string d] 39)).alloc (.cells #[.bool false, .string ⟨#[]⟩, .string ⟨#[]⟩] 39) = W at *
  obtain ⟨⟨c0, c1, c2⟩, ⟨e0, e1, e2⟩, ⟨i0, i1, i2⟩, ⟨k0, k1, k2⟩, ⟨l0, l1, l2⟩, f0, f1, f2⟩ := R.out.see
  go_wp2_with fail
  refine (V1.out _).mono ?_
  rintro _ w1 ⟨rfl, g1⟩
  replace R := Lib.hid (R.out.on g1)
  clear g1
  clear c0 c1 c2 e0 e1 e2 i0 i1 i2 k0 k1 k2 l0 l1 l2 f0 f1 f2
  obtain ⟨⟨c0, c1, c2⟩, ⟨e0, e1, e2⟩, ⟨i0, i1, i2⟩, ⟨k0, k1, k2⟩, ⟨l0, l1, l2⟩, f0, f1, f2⟩ := R.out.see
  go_upto_region 2 with fail
  replace R := Lib.hid R.out.same1
  clear c0 c1 c2 e0 e1 e2 i0 i1 i2 k0 k1 k2 l0 l1 l2 f0 f1 f2
  generalize ((w1.setCell ⟨w.heap.size, 0, none⟩ (.bool s)).setCell ⟨w.heap.size, 1, none⟩ (.string a)).setCell ⟨w.heap.size, 2, none⟩ (.string b) = X1 at *
  obtain ⟨⟨c0, c1, c2⟩, ⟨e0, e1, e2⟩, ⟨i0, i1, i2⟩, ⟨k0, k1, k2⟩, ⟨l0, l1, l2⟩, f0, f1, f2⟩ := R.out.see
  go_wp2_with fail
  refine (V2.out _).mono ?_
  rintro _ w2 ⟨rfl, g1⟩
  replace R := Lib.hid (R.out.on g1)
  clear g1
  clear c0 c1 c2 e0 e1 e2 i0 i1 i2 k0 k1 k2 l0 l1 l2 f0 f1 f2
  obtain ⟨⟨c0, c1, c2⟩, ⟨e0, e1, e2⟩, ⟨i0, i1, i2⟩, ⟨k0, k1, k2⟩, ⟨l0, l1, l2⟩, f0, f1, f2⟩ := R.out.see
  go_upto_region 3 with fail
  replace R := Lib.hid R.out.same2
  clear c0 c1 c2 e0 e1 e2 i0 i1 i2 k0 k1 k2 l0 l1 l2 f0 f1 f2
  generalize ((w2.setCell ⟨w.heap.size + 1, 0, none⟩ (.bool t)).setCell ⟨w.heap.size + 1, 1, none⟩ (.string c)).setCell ⟨w.heap.size + 1, 2, none⟩ (.string d) = X2 at *
  obtain ⟨⟨c0, c1, c2⟩, ⟨e0, e1, e2⟩, ⟨i0, i1, i2⟩, ⟨k0, k1, k2⟩, ⟨l0, l1, l2⟩, f0, f1, f2⟩ := R.out.see
  obtain rfl := HC.out
  go_wp2_with fail
  exact ret_rat2 rfl rfl (R.out.fin false ⟨#[]⟩ ⟨#[]⟩).1 rfl ⟨rfl, (R.out.fin false ⟨#[]⟩ ⟨#[]⟩).2⟩


theorem undr2 {W X : World} (h : Below W.drew.heap.size W.drew X) : Below W.heap.size W X := (Below.refl W.heap.size W).drew.trans h

set_option maxRecDepth 100000 in
set_option maxHeartbeats 4000000 in
theorem Sums2_core {w : World} (x1 x2 x3 y1 y2 y3 : Int) (he : Env w) (A B : Rat) (U : Bool) (sq : Bool) (aq bq : ByteArray)
    (mA : ∀ w, Calls Tryz.prog 28 #[.agg #[.int .i64 x1, .int .i64 x2, .int .i64 x3]] w fun e w' => e = .returned (rv A) ∧ Below w.heap.size w w')
    (mB : ∀ w, Calls Tryz.prog 28 #[.agg #[.int .i64 y1, .int .i64 y2, .int .i64 y3]] w fun e w' => e = .returned (rv B) ∧ Below w.heap.size w w')
    (zA : Sz 16 A) (zB : Sz 16 B)
    (kq : ∀ w, Calls Tryz.prog 41 #[rv A, rv B] w fun e w' => e = .returned (.tuple #[RV sq aq bq, .bool U]) ∧ Below w.heap.size w w')
    (kr : ∀ w, Calls Tryz.prog 43 #[rv A, rv B] w fun e w' => e = .returned (.tuple #[RV sq aq bq, .bool U]) ∧ Below w.heap.size w w') :
    Calls Tryz.prog 9 #[.agg #[.int .i64 x1, .int .i64 x2, .int .i64 x3], .agg #[.int .i64 y1, .int .i64 y2, .int .i64 y3]] w fun e w' => e = .returned (.bool true) ∧ Below w.heap.size w w' := by
  have ka := fun w => Add_q A B w (zA.mono (by decide)) (zB.mono (by decide))
  have la := fun w => rAdd_q A B w (zA.mono (by decide)) (zB.mono (by decide))
  have ks := fun w => Sub_q A B w (zA.mono (by decide)) (zB.mono (by decide))
  have ls := fun w => rSub_q A B w (zA.mono (by decide)) (zB.mono (by decide))
  have km := fun w => Mul_q A B w (zA.mono (by decide)) (zB.mono (by decide))
  have lm := fun w => rMul_q A B w (zA.mono (by decide)) (zB.mono (by decide))
  have kc := fun w => Cmp_q A B w (zA.mono (by decide)) (zB.mono (by decide))
  have lc := fun w => rCmp_q A B w (zA.mono (by decide)) (zB.mono (by decide))
  have kg := fun w => Sign_q A w (zA.mono (by decide))
  have lg := fun w => rSign_q A w (zA.mono (by decide))
  have kn := fun w => Neg_q A w (zA.mono (by decide))
  have ln := fun w => rNeg_q A w (zA.mono (by decide))
  have kS := fun w' (h : Env w') => sanity2_any w' h
  generalize cmpR A B = zc at *
  generalize signZ A = zg at *
  obtain ⟨sS, aS, bS, hS⟩ : ∃ s a b, rv (A + B) = RV s a b := ⟨_, _, _, rfl⟩
  obtain ⟨sD, aD, bD, hD⟩ : ∃ s a b, rv (A - B) = RV s a b := ⟨_, _, _, rfl⟩
  obtain ⟨sM, aM, bM, hM⟩ : ∃ s a b, rv (A * B) = RV s a b := ⟨_, _, _, rfl⟩
  obtain ⟨sN, aN, bN, hN⟩ : ∃ s a b, rv (-A) = RV s a b := ⟨_, _, _, rfl⟩
  obtain ⟨sA, aA, bA, hA⟩ : ∃ s a b, rv (A) = RV s a b := ⟨_, _, _, rfl⟩
  obtain ⟨sB, aB, bB, hB⟩ : ∃ s a b, rv (B) = RV s a b := ⟨_, _, _, rfl⟩
  rw [hA, hB] at ka la ks ls km lm kc lc kq kr
  rw [hA] at kg lg kn ln mA
  rw [hB] at mB
  rw [hS] at ka la
  rw [hD] at ks ls
  rw [hM] at km lm
  rw [hN] at kn ln
  have KAX := Lib.hid ka
  have LAX := Lib.hid la
  have KSX := Lib.hid ks
  have LSX := Lib.hid ls
  have KMX := Lib.hid km
  have LMX := Lib.hid lm
  have KCX := Lib.hid kc
  have LCX := Lib.hid lc
  have KGX := Lib.hid kg
  have LGX := Lib.hid lg
  have KNX := Lib.hid kn
  have LNX := Lib.hid ln
  have KQX := Lib.hid kq
  have KRX := Lib.hid kr
  have MAX := Lib.hid mA
  have MBX := Lib.hid mB
  have KSX2 := Lib.hid kS
  clear ka la ks ls km lm kc lc kg lg kn ln kq kr mA mB kS hA hB hS hD hM hN zA zB
  have hx := Blk.new w 46 [.int .i64 x1, .int .i64 x2, .int .i64 x3]
  have hX := Lib.hid (hx.alloc (.cells #[.int .i64 y1, .int .i64 y2, .int .i64 y3] 46))
  have hy := Blk.new (w.alloc (.cells #[.int .i64 x1, .int .i64 x2, .int .i64 x3] 46)) 46 [.int .i64 y1, .int .i64 y2, .int .i64 y3]
  rw [World.size_alloc] at hy
  have hY := Lib.hid hy
  have HB := Lib.hid (((Below.refl w.heap.size w).alloc (Nat.le_refl _) (.cells #[.int .i64 x1, .int .i64 x2, .int .i64 x3] 46)).alloc (by simp) (.cells #[.int .i64 y1, .int .i64 y2, .int .i64 y3] 46))
  have HE := Lib.hid he
  clear hx hy he
  go_enter Tryz.func9, Tryz.ntmps9
  go_upto_region 1 with fail
  generalize (w.alloc (.cells #[.int .i64 x1, .int .i64 x2, .int .i64 x3] 46)).alloc (.cells #[.int .i64 y1, .int .i64 y2, .int .i64 y3] 46) = W0 at *
  go_wp2_with fail
  refine (KSX2.out _ (HE.out.below HB.out)).mono ?_
  rintro _ wn ⟨rfl, g⟩
  replace hX := Lib.hid (hX.out.on g)
  replace hY := Lib.hid (hY.out.on g)
  replace HB := Lib.hid (HB.out.trans (g.mono HB.out.size)); clear g
  have q0 : wn.cell? ⟨w.heap.size, 0, none⟩ = some (.int .i64 x1) := hX.out.cell 0
  have q1 : wn.cell? ⟨w.heap.size, 1, none⟩ = some (.int .i64 x2) := hX.out.cell 1
  have q2 : wn.cell? ⟨w.heap.size, 2, none⟩ = some (.int .i64 x3) := hX.out.cell 2
  go_wp2_with fail
  refine (MAX.out _).mono ?_
  rintro _ wn' ⟨rfl, g⟩
  clear q0 q1 q2
  replace hX := Lib.hid (hX.out.on g)
  replace hY := Lib.hid (hY.out.on g)
  replace HB := Lib.hid (HB.out.trans (g.mono HB.out.size)); clear g
  go_upto_region 3 with fail
  have g : Below wn'.heap.size wn' (wn'.alloc (.cells #[.bool sA, .string aA, .string bA] 39)) := (Below.refl _ _).alloc (Nat.le_refl _) _
  have A6 := Lib.hid (Blk.new wn' 39 [.bool sA, .string aA, .string bA])
  replace hX := Lib.hid (hX.out.on g)
  replace hY := Lib.hid (hY.out.on g)
  replace HB := Lib.hid (HB.out.trans (g.mono HB.out.size)); clear g
  obtain ⟨BA6, hBA6⟩ : ∃ B, wn'.heap.size = B := ⟨_, rfl⟩
  rw [hBA6] at A6 ⊢
  generalize wn'.alloc (.cells #[.bool sA, .string aA, .string bA] 39) = wb at *
  clear hBA6
  have q0 : wb.cell? ⟨w.heap.size + 1, 0, none⟩ = some (.int .i64 y1) := hY.out.cell 0
  have q1 : wb.cell? ⟨w.heap.size + 1, 1, none⟩ = some (.int .i64 y2) := hY.out.cell 1
  have q2 : wb.cell? ⟨w.heap.size + 1, 2, none⟩ = some (.int .i64 y3) := hY.out.cell 2
  go_wp2_with fail
  refine (MBX.out _).mono ?_
  rintro _ wn2 ⟨rfl, g⟩
  clear q0 q1 q2
  replace hX := Lib.hid (hX.out.on g)
  replace hY := Lib.hid (hY.out.on g)
  replace A6 := Lib.hid (A6.out.on g)
  replace HB := Lib.hid (HB.out.trans (g.mono HB.out.size)); clear g
  clear hX hY
  go_upto_region 4 with fail
  have g : Below wn2.heap.size wn2 (wn2.alloc (.cells #[.bool sB, .string aB, .string bB] 39)) := (Below.refl _ _).alloc (Nat.le_refl _) _
  have A7 := Lib.hid (Blk.new wn2 39 [.bool sB, .string aB, .string bB])
  replace A6 := Lib.hid (A6.out.on g)
  replace HB := Lib.hid (HB.out.trans (g.mono HB.out.size)); clear g
  obtain ⟨BA7, hBA7⟩ : ∃ B, wn2.heap.size = B := ⟨_, rfl⟩
  rw [hBA7] at A7 ⊢
  generalize wn2.alloc (.cells #[.bool sB, .string aB, .string bB] 39) = wb at *
  clear hBA7
  obtain ⟨c0, c1, c2⟩ := A6.out.rc
  obtain ⟨e0, e1, e2⟩ := A7.out.rc
  go_wp2_with fail
  refine (KQX.out _).mono ?_
  rintro _ wn3 ⟨rfl, g⟩
  clear c0 c1 c2 e0 e1 e2
  replace A6 := Lib.hid (A6.out.on g)
  replace A7 := Lib.hid (A7.out.on g)
  replace HB := Lib.hid (HB.out.trans (g.mono HB.out.size)); clear g
  go_upto_region 5 with fail
  have g : Below wn3.heap.size wn3 (wn3.alloc (.cells #[.bool sq, .string aq, .string bq] 39)) := (Below.refl _ _).alloc (Nat.le_refl _) _
  have A8 := Lib.hid (Blk.new wn3 39 [.bool sq, .string aq, .string bq])
  replace A6 := Lib.hid (A6.out.on g)
  replace A7 := Lib.hid (A7.out.on g)
  replace HB := Lib.hid (HB.out.trans (g.mono HB.out.size)); clear g
  obtain ⟨BA8, hBA8⟩ : ∃ B, wn3.heap.size = B := ⟨_, rfl⟩
  rw [hBA8] at A8 ⊢
  generalize wn3.alloc (.cells #[.bool sq, .string aq, .string bq] 39) = wb at *
  clear hBA8
  obtain ⟨c0, c1, c2⟩ := A6.out.rc
  obtain ⟨e0, e1, e2⟩ := A7.out.rc
  go_wp2_with fail
  refine (KRX.out _).mono ?_
  rintro _ wn4 ⟨rfl, g⟩
  clear c0 c1 c2 e0 e1 e2
  replace A6 := Lib.hid (A6.out.on g)
  replace A7 := Lib.hid (A7.out.on g)
  replace A8 := Lib.hid (A8.out.on g)
  replace HB := Lib.hid (HB.out.trans (g.mono HB.out.size)); clear g
  go_upto_region 6 with fail
  have g : Below wn4.heap.size wn4 (wn4.alloc (.cells #[.bool sq, .string aq, .string bq] 39)) := (Below.refl _ _).alloc (Nat.le_refl _) _
  have A10 := Lib.hid (Blk.new wn4 39 [.bool sq, .string aq, .string bq])
  replace A6 := Lib.hid (A6.out.on g)
  replace A7 := Lib.hid (A7.out.on g)
  replace A8 := Lib.hid (A8.out.on g)
  replace HB := Lib.hid (HB.out.trans (g.mono HB.out.size)); clear g
  obtain ⟨BA10, hBA10⟩ : ∃ B, wn4.heap.size = B := ⟨_, rfl⟩
  rw [hBA10] at A10 ⊢
  generalize wn4.alloc (.cells #[.bool sq, .string aq, .string bq] 39) = wb at *
  clear hBA10
  obtain ⟨r00, r01, r02⟩ := A6.out.rc; obtain ⟨r10, r11, r12⟩ := A7.out.rc; obtain ⟨r20, r21, r22⟩ := A8.out.rc; obtain ⟨r30, r31, r32⟩ := A10.out.rc
  go_region_held3 (fun w' => (w'.cell? ⟨BA6, 0, none⟩ = some (.bool sA) ∧ w'.cell? ⟨BA6, 1, none⟩ = some (.string aA) ∧ w'.cell? ⟨BA6, 2, none⟩ = some (.string bA)) ∧ (w'.cell? ⟨BA7, 0, none⟩ = some (.bool sB) ∧ w'.cell? ⟨BA7, 1, none⟩ = some (.string aB) ∧ w'.cell? ⟨BA7, 2, none⟩ = some (.string bB)) ∧ (w'.cell? ⟨BA8, 0, none⟩ = some (.bool sq) ∧ w'.cell? ⟨BA8, 1, none⟩ = some (.string aq) ∧ w'.cell? ⟨BA8, 2, none⟩ = some (.string bq)) ∧ (w'.cell? ⟨BA10, 0, none⟩ = some (.bool sq) ∧ w'.cell? ⟨BA10, 1, none⟩ = some (.string aq) ∧ w'.cell? ⟨BA10, 2, none⟩ = some (.string bq)))
    (first | exact ⟨x60.rc, x61.rc, x62.rc, x63.rc⟩ | exact ⟨x50.rc, x51.rc, x52.rc, x53.rc⟩ | exact ⟨x40.rc, x41.rc, x42.rc, x43.rc⟩ | exact ⟨x30.rc, x31.rc, x32.rc, x33.rc⟩ | exact ⟨x20.rc, x21.rc, x22.rc, x23.rc⟩ | exact ⟨x10.rc, x11.rc, x12.rc, x13.rc⟩ | go_keep)
    ((first
      | (go_at_call 37; with_reducible refine (KAX.out _).mono ?_; rintro _ u1 ⟨rfl, h1⟩; have g1 : Below wb.heap.size wb u1 := undr2 h1; have x10 := A6.out.on g1; have x11 := A7.out.on g1; have x12 := A8.out.on g1; have x13 := A10.out.on g1)
      | (go_at_call 44; with_reducible refine (LAX.out _).mono ?_; rintro _ u2 ⟨rfl, h2⟩; have g2 : Below wb.heap.size wb u2 := g1.trans (h2.mono g1.size); have x20 := A6.out.on g2; have x21 := A7.out.on g2; have x22 := A8.out.on g2; have x23 := A10.out.on g2)
      | (go_at_call 42; with_reducible refine (KSX.out _).mono ?_; rintro _ u3 ⟨rfl, h3⟩; have g3 : Below wb.heap.size wb u3 := g2.trans (h3.mono g2.size); have x30 := A6.out.on g3; have x31 := A7.out.on g3; have x32 := A8.out.on g3; have x33 := A10.out.on g3)
      | (go_at_call 45; with_reducible refine (LSX.out _).mono ?_; rintro _ u4 ⟨rfl, h4⟩; have g4 : Below wb.heap.size wb u4 := g3.trans (h4.mono g3.size); have x40 := A6.out.on g4; have x41 := A7.out.on g4; have x42 := A8.out.on g4; have x43 := A10.out.on g4)
      | (go_at_call 39; with_reducible refine (KMX.out _).mono ?_; rintro _ u5 ⟨rfl, h5⟩; have g5 : Below wb.heap.size wb u5 := g4.trans (h5.mono g4.size); have x50 := A6.out.on g5; have x51 := A7.out.on g5; have x52 := A8.out.on g5; have x53 := A10.out.on g5)
      | (go_at_call 46; with_reducible refine (LMX.out _).mono ?_; rintro _ u6 ⟨rfl, h6⟩; have g6 : Below wb.heap.size wb u6 := g5.trans (h6.mono g5.size); have x60 := A6.out.on g6; have x61 := A7.out.on g6; have x62 := A8.out.on g6; have x63 := A10.out.on g6)
      | fail))
  have g := g6
  clear x10 x11 x12 x13 x20 x21 x22 x23 x30 x31 x32 x33 x40 x41 x42 x43 x50 x51 x52 x53 x60 x61 x62 x63 g1 h1 g2 h2 g3 h3 g4 h4 g5 h5 g6 h6 r00 r01 r02 r10 r11 r12 r20 r21 r22 r30 r31 r32
  clear A8 A10
  replace A6 := Lib.hid (A6.out.on g)
  replace A7 := Lib.hid (A7.out.on g)
  replace HB := Lib.hid (HB.out.trans (g.mono HB.out.size)); clear g
  go_wp2_with fail
  obtain ⟨r00, r01, r02⟩ := A6.out.rc; obtain ⟨r10, r11, r12⟩ := A7.out.rc
  go_region_held3 (fun w' => (w'.cell? ⟨BA6, 0, none⟩ = some (.bool sA) ∧ w'.cell? ⟨BA6, 1, none⟩ = some (.string aA) ∧ w'.cell? ⟨BA6, 2, none⟩ = some (.string bA)) ∧ (w'.cell? ⟨BA7, 0, none⟩ = some (.bool sB) ∧ w'.cell? ⟨BA7, 1, none⟩ = some (.string aB) ∧ w'.cell? ⟨BA7, 2, none⟩ = some (.string bB)))
    (first | exact ⟨x60.rc, x61.rc⟩ | exact ⟨x50.rc, x51.rc⟩ | exact ⟨x40.rc, x41.rc⟩ | exact ⟨x30.rc, x31.rc⟩ | exact ⟨x20.rc, x21.rc⟩ | exact ⟨x10.rc, x11.rc⟩ | go_keep)
    ((first
      | (go_at_call 47; with_reducible refine (KCX.out _).mono ?_; rintro _ t1 ⟨rfl, h1⟩; have g1 : Below u6.heap.size u6 t1 := undr2 h1; have x10 := A6.out.on g1; have x11 := A7.out.on g1)
      | (go_at_call 48; with_reducible refine (LCX.out _).mono ?_; rintro _ t2 ⟨rfl, h2⟩; have g2 : Below u6.heap.size u6 t2 := g1.trans (h2.mono g1.size); have x20 := A6.out.on g2; have x21 := A7.out.on g2)
      | (go_at_call 49; with_reducible refine (KGX.out _).mono ?_; rintro _ t3 ⟨rfl, h3⟩; have g3 : Below u6.heap.size u6 t3 := g2.trans (h3.mono g2.size); have x30 := A6.out.on g3; have x31 := A7.out.on g3)
      | (go_at_call 50; with_reducible refine (LGX.out _).mono ?_; rintro _ t4 ⟨rfl, h4⟩; have g4 : Below u6.heap.size u6 t4 := g3.trans (h4.mono g3.size); have x40 := A6.out.on g4; have x41 := A7.out.on g4)
      | (go_at_call 40; with_reducible refine (KNX.out _).mono ?_; rintro _ t5 ⟨rfl, h5⟩; have g5 : Below u6.heap.size u6 t5 := g4.trans (h5.mono g4.size); have x50 := A6.out.on g5; have x51 := A7.out.on g5)
      | (go_at_call 51; with_reducible refine (LNX.out _).mono ?_; rintro _ t6 ⟨rfl, h6⟩; have g6 : Below u6.heap.size u6 t6 := g5.trans (h6.mono g5.size); have x60 := A6.out.on g6; have x61 := A7.out.on g6)
      | fail))
  have g := g6
  clear x10 x11 x20 x21 x30 x31 x40 x41 x50 x51 x60 x61 g1 h1 g2 h2 g3 h3 g4 h4 g5 h5 g6 h6 r00 r01 r02 r10 r11 r12
  go_wp2_with fail
  go_ret
  exact ⟨rfl, HB.out.trans (g.mono HB.out.size)⟩

theorem Sums2_walk {w : World} (x1 x2 x3 y1 y2 y3 : Int) (hx1 : -9223372036854775808 ≤ x1 ∧ x1 ≤ 9223372036854775807) (hx2 : -9223372036854775808 ≤ x2 ∧ x2 ≤ 9223372036854775807) (hx3 : -9223372036854775808 ≤ x3 ∧ x3 ≤ 9223372036854775807)
    (hy1 : -9223372036854775808 ≤ y1 ∧ y1 ≤ 9223372036854775807) (hy2 : -9223372036854775808 ≤ y2 ∧ y2 ≤ 9223372036854775807) (hy3 : -9223372036854775808 ≤ y3 ∧ y3 ≤ 9223372036854775807) (he : Env w) :
    Calls Tryz.prog 9 #[.agg #[.int .i64 x1, .int .i64 x2, .int .i64 x3], .agg #[.int .i64 y1, .int .i64 y2, .int .i64 y3]] w fun e w' => e = .returned (.bool true) ∧ Below w.heap.size w w' := by
  have mA := fun w => Made3_any x1 x2 x3 w hx1 hx2 hx3
  have mB := fun w => Made3_any y1 y2 y3 w hy1 hy2 hy3
  have zA := madeR_sz x1 x2 x3
  have zB := madeR_sz y1 y2 y3
  generalize madeR x1 x2 x3 = A at *
  generalize madeR y1 y2 y3 = B at *
  by_cases h0 : B = 0
  · subst h0
    exact Sums2_core x1 x2 x3 y1 y2 y3 he A 0 _ _ _ _ mA mB zA zB (fun w => Quo_z A w (zA.mono (by decide))) (fun w => rQuo_z A w (zA.mono (by decide)))
  · exact Sums2_core x1 x2 x3 y1 y2 y3 he A B _ _ _ _ mA mB zA zB (fun w => Quo_q A B w (zA.mono (by decide)) (zB.mono (by decide)) h0) (fun w => rQuo_q A B w (zA.mono (by decide)) (zB.mono (by decide)) h0)

#print axioms Sums2_walk
end Go.Proofs.YtolmjeglaolhlaaGreatDoor
