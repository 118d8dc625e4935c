/- sortesref02: Neg, Sign, Sub, Cmp, Mul, Add of numbers. -/
import Derived.Test.YtolmjeglaolhlaaGreatDoorRatioI
import Derived.Test.YtolmjeglaolhlaaGreatDoorRatioF
namespace Go.Proofs.YtolmjeglaolhlaaGreatDoor
open Go.RowKit Num

set_option maxRecDepth 100000 in
set_option maxHeartbeats 1000000 in
/-- **sortesref02.Neg** of a number. -/
theorem rNeg_q (q : Rat) (w : World) (hq : Sz 2000000 q) :
    Calls Tryz.prog 51 #[rv q] w fun e w' => e = .returned (rv (-q)) ∧ Below w.heap.size w w' := by
  have d1 := fun w => rvalue_q q w hq
  rw [rv_neg]
  unfold rv at d1 ⊢
  have hz : (decide (q.num.natAbs ≠ 0) = false ∧ Enc q.num.natAbs = ⟨#[]⟩) ∨ (decide (q.num.natAbs ≠ 0) = true ∧ ¬ (Enc q.num.natAbs).toList = []) := by
    by_cases h : q.num.natAbs = 0
    · left; rw [h]; exact ⟨rfl, Enc_zero⟩
    · right; exact ⟨decide_eq_true h, not_nil (fun e => h (Enc_inj (e.trans Enc_zero.symm)))⟩
  have hsz : decide (q.num.natAbs ≠ 0) = false → decide (q.num < 0) = false := by
    intro h
    have h1 := of_decide_eq_false h
    exact decide_eq_false (by omega)
  generalize decide (q.num.natAbs ≠ 0) = f at *
  generalize decide (q.num < 0) = s at *
  generalize Enc q.num.natAbs = a at *
  generalize Enc q.den = b at *
  have HS := Lib.hid hsz
  clear hsz
  have R := Lib.hid (RB2.start w s a b)
  have D1 := Lib.hid d1
  clear d1
  go_enter Tryz.func51, Tryz.ntmps51
  go_wp2_with fail
  refine (D1.out _).mono ?_
  rintro _ w1 ⟨rfl, g1⟩
  replace R := Lib.hid (R.out.on g1)
  clear g1
  obtain ⟨⟨c0, c1, c2⟩, -, ⟨k0, k1, k2⟩, -⟩ := R.out.see
  go_upto_region 2 with fail
  replace R := Lib.hid R.out.same
  clear c0 c1 c2 k0 k1 k2
  generalize ((w1.setCell ⟨w.heap.size, 0, none⟩ (.bool s)).setCell ⟨w.heap.size, 1, none⟩ (.string a)).setCell ⟨w.heap.size, 2, none⟩ (.string b) = X at *
  obtain ⟨⟨c0, c1, c2⟩, ⟨e0, e1, e2⟩, ⟨k0, k1, k2⟩, f0, f1, f2⟩ := R.out.see
  rcases hz with ⟨rfl, rfl⟩ | ⟨rfl, hn⟩
  · have hs' : s = false := HS.out rfl
    subst hs'
    go_wp2_with fail
    exact ret_rat rfl rfl (R.out.fin _ _ b).1 rfl ⟨rfl, (R.out.fin _ _ b).2⟩
  · have hn2 : a.toList.isEmpty = false := by simp [hn]
    cases s with
    | false =>
      go_wp2_with fail
      exact ret_rat rfl rfl ((R.out.flip _).fin _ a b).1 rfl ⟨rfl, ((R.out.flip _).fin _ a b).2⟩
    | true =>
      go_wp2_with fail
      exact ret_rat rfl rfl ((R.out.flip _).fin _ a b).1 rfl ⟨rfl, ((R.out.flip _).fin _ a b).2⟩

set_option maxRecDepth 100000 in
set_option maxHeartbeats 1000000 in
/-- **sortesref02.Sign** of a number. -/
theorem rSign_q (q : Rat) (w : World) (hq : Sz 2000000 q) :
    Calls Tryz.prog 50 #[rv q] w fun e w' => e = .returned (.int .i64 (signZ q)) ∧ Below w.heap.size w w' := by
  have d1 := fun w => rvalue_q q w hq
  have hz : (Enc q.num.natAbs = ⟨#[]⟩ ∧ signZ q = 0) ∨ (¬ (Enc q.num.natAbs).toList = [] ∧ signZ q = if decide (q.num < 0) then -1 else 1) := by
    by_cases h : q = 0
    · left; subst h; exact ⟨Enc_zero, rfl⟩
    · right
      refine ⟨not_nil (fun e => h (Rat.num_eq_zero.1 (Int.natAbs_eq_zero.1 (Enc_inj (e.trans Enc_zero.symm))))), ?_⟩
      unfold signZ
      rw [if_neg h]
      by_cases h2 : q.num < 0 <;> simp [h2]
  unfold rv at d1 ⊢
  generalize signZ q = z at *
  generalize decide (q.num < 0) = s at *
  generalize Enc q.num.natAbs = a at *
  generalize Enc q.den = b at *
  have hbk := Blk.new w 39 [.bool s, .string a, .string b]
  have R := Lib.hid hbk
  have HB := Lib.hid ((Below.refl w.heap.size w).alloc (Nat.le_refl _) (.cells #[.bool s, .string a, .string b] 39))
  have D1 := Lib.hid d1
  have HZ := Lib.hid hz
  clear d1 hbk hz hq
  go_enter Tryz.func50, Tryz.ntmps50
  go_wp2_with fail
  refine (D1.out _).mono ?_
  rintro _ w1 ⟨rfl, g1⟩
  replace R := Lib.hid (R.out.on g1)
  replace HB := Lib.hid (HB.out.trans (g1.mono HB.out.size))
  clear g1
  obtain ⟨c0, c1, c2⟩ := R.out.rc
  have f0 := R.out.free 0; have f1 := R.out.free 1; have f2 := R.out.free 2
  go_upto_region 2 with fail
  have r' := set3 R.out (.bool s) (.string a) (.string b)
  have hb' := bel3 HB.out (Nat.le_refl _) (.bool s) (.string a) (.string b)
  replace R := Lib.hid r'
  replace HB := Lib.hid hb'
  clear c0 c1 c2 f0 f1 f2 r' hb'
  generalize ((w1.setCell ⟨w.heap.size, 0, none⟩ (.bool s)).setCell ⟨w.heap.size, 1, none⟩ (.string a)).setCell ⟨w.heap.size, 2, none⟩ (.string b) = X at *
  obtain ⟨c0, c1, c2⟩ := R.out.rc
  rcases HZ.out with ⟨rfl, rfl⟩ | ⟨hn, rfl⟩
  · go_wp2_with fail
    go_ret
    exact ⟨rfl, HB.out⟩
  · have hn2 : a.toList.isEmpty = false := by simp [hn]
    cases s with
    | false =>
      go_wp2_with fail
      go_ret
      exact ⟨rfl, HB.out⟩
    | true =>
      go_wp2_with fail
      go_ret
      exact ⟨rfl, HB.out⟩

set_option maxRecDepth 100000 in
set_option maxHeartbeats 1000000 in
/-- **sortesref02.Cmp**, from the contracts of Sub and Sign. -/
theorem rCmp_of (p q r : Rat) (z : Int) (d1 : ∀ w, Calls Tryz.prog 45 #[rv p, rv q] w fun e w' => e = .returned (rv r) ∧ Below w.heap.size w w')
    (d2 : ∀ w, Calls Tryz.prog 50 #[rv r] w fun e w' => e = .returned (.int .i64 z) ∧ Below w.heap.size w w') (w : World) :
    Calls Tryz.prog 48 #[rv p, rv q] w fun e w' => e = .returned (.int .i64 z) ∧ Below w.heap.size w w' := by
  unfold rv at *
  generalize decide (p.num < 0) = s at *
  generalize Enc p.num.natAbs = a at *
  generalize Enc p.den = b at *
  generalize decide (q.num < 0) = t at *
  generalize Enc q.num.natAbs = c at *
  generalize Enc q.den = d at *
  generalize decide (r.num < 0) = u at *
  generalize Enc r.num.natAbs = x at *
  generalize Enc r.den = y at *
  have HB := ((Below.refl w.heap.size w).alloc (Nat.le_refl _) (.cells #[.bool s, .string a, .string b] 39)).alloc (by simp) (.cells #[.bool t, .string c, .string d] 39)
  have D1 := Lib.hid d1; have D2 := Lib.hid d2
  clear d1 d2
  go_enter Tryz.func48, Tryz.ntmps48
  go_wp2_with fail
  refine (D1.out _).mono ?_
  rintro _ w1 ⟨rfl, g1⟩
  go_wp2_with fail
  refine (D2.out _).mono ?_
  rintro _ w2 ⟨rfl, g2⟩
  go_wp2_with fail
  go_ret
  have g3 := g1.trans (g2.mono g1.size)
  exact ⟨rfl, HB.trans (g3.mono HB.size)⟩

set_option maxRecDepth 100000 in
set_option maxHeartbeats 1000000 in
/-- **sortesref02.Sub**, from the contracts of Neg and Add. -/
theorem rSub_of (p q q' r : Rat) (d1 : ∀ w, Calls Tryz.prog 51 #[rv q] w fun e w' => e = .returned (rv q') ∧ Below w.heap.size w w')
    (d2 : ∀ w, Calls Tryz.prog 44 #[rv p, rv q'] w fun e w' => e = .returned (rv r) ∧ Below w.heap.size w w') (w : World) :
    Calls Tryz.prog 45 #[rv p, rv q] w fun e w' => e = .returned (rv r) ∧ Below w.heap.size w w' := by
  unfold rv at *
  generalize decide (p.num < 0) = s at *
  generalize Enc p.num.natAbs = a at *
  generalize Enc p.den = b at *
  generalize decide (q.num < 0) = t at *
  generalize Enc q.num.natAbs = c at *
  generalize Enc q.den = d at *
  generalize decide (q'.num < 0) = t' at *
  generalize Enc q'.num.natAbs = c' at *
  generalize Enc q'.den = d' at *
  generalize decide (r.num < 0) = u at *
  generalize Enc r.num.natAbs = x at *
  generalize Enc r.den = y at *
  have R := Lib.hid (RB3.start w s a b t c d)
  have D1 := Lib.hid d1; have D2 := Lib.hid d2
  clear d1 d2
  go_enter Tryz.func45, Tryz.ntmps45
  go_upto_region 1 with fail
  generalize ((w.alloc (.cells #[.bool s, .string a, .string b] 39)).alloc (.cells #[.bool t, .string c, .string d] 39)).alloc (.cells #[.bool false, .string ⟨#[]⟩, .string ⟨#[]⟩] 39) = W at *
  obtain ⟨⟨c0, c1, c2⟩, ⟨e0, e1, e2⟩, ⟨i0, i1, i2⟩, ⟨k0, k1, k2⟩, ⟨l0, l1, l2⟩, f0, f1, f2⟩ := R.out.see
  go_region_held3 (fun w' => (w'.cell? ⟨w.heap.size, 0, none⟩ = some (.bool s) ∧ w'.cell? ⟨w.heap.size, 1, none⟩ = some (.string a) ∧ w'.cell? ⟨w.heap.size, 2, none⟩ = some (.string b)) ∧ (w'.cell? ⟨w.heap.size + 1, 0, none⟩ = some (.bool t) ∧ w'.cell? ⟨w.heap.size + 1, 1, none⟩ = some (.string c) ∧ w'.cell? ⟨w.heap.size + 1, 2, none⟩ = some (.string d)))
    (first | exact ⟨r3.see.1, r3.see.2.1⟩ | exact ⟨r2.see.1, r2.see.2.1⟩ | exact r3.finSee u x y | go_keep)
    ((first
      | (go_at_call 51; refine (D1.out _).mono ?_; rintro _ w2 ⟨rfl, h2⟩; have r2 := R.out.drew.on h2)
      | (go_at_call 44; refine (D2.out _).mono ?_; rintro _ w3 ⟨rfl, h3⟩; have r3 := r2.on h3; obtain ⟨-, -, ⟨j0, j1, j2⟩, -, -, ⟨m0, m1, m2⟩⟩ := r3.see)))
  go_wp2_with fail
  exact ret_rat rfl rfl (r3.fin u x y).1 rfl ⟨rfl, (r3.fin u x y).2⟩

set_option maxRecDepth 100000 in
set_option maxHeartbeats 2000000 in
/-- **sortesref02.Mul** of numbers. -/
theorem rMul_q (p q : Rat) (w : World) (hp : Sz 600000 p) (hq : Sz 600000 q) :
    Calls Tryz.prog 46 #[rv p, rv q] w fun e w' => e = .returned (rv (p * q)) ∧ Below w.heap.size w w' := by
  have v1 := fun w => rvalue_q p w (hp.mono (by decide))
  have v2 := fun w => rvalue_q q w (hq.mono (by decide))
  have sp := sz_strs hp; have sq := sz_strs hq
  have d1 := fun w => RMul_is (Enc (p.num.natAbs * q.num.natAbs)) (Enc p.num.natAbs) (Enc q.num.natAbs) w (by omega) (by omega) (by rw [SN_Enc, SN_Enc])
  have d2 := fun w => RMul_is (Enc (p.den * q.den)) (Enc p.den) (Enc q.den) w (by omega) (by omega) (by rw [SN_Enc, SN_Enc])
  have d3 := fun w => rlowest_any (decide (p.num < 0) != decide (q.num < 0)) (p.num.natAbs * q.num.natAbs) (p.den * q.den) w (nat_mul_lt (n := 2000000) hp.1 hq.1 (by decide)) (nat_mul_lt (n := 2000000) hp.2 hq.2 (by decide)) (Nat.mul_ne_zero p.den_nz q.den_nz)
  rw [low_mul] at d3
  unfold rv at *
  generalize Enc (p.num.natAbs * q.num.natAbs) = pn at *
  generalize Enc (p.den * q.den) = pd at *
  generalize decide (p.num < 0) = s at *
  generalize Enc p.num.natAbs = a at *
  generalize Enc p.den = b at *
  generalize decide (q.num < 0) = t at *
  generalize Enc q.num.natAbs = c at *
  generalize Enc q.den = d at *
  generalize decide ((p * q).num < 0) = u at *
  generalize Enc (p * q).num.natAbs = x at *
  generalize Enc (p * q).den = y at *
  have R := Lib.hid (RB3.start w s a b t c d)
  have V1 := Lib.hid v1; have V2 := Lib.hid v2; have D1 := Lib.hid d1; have D2 := Lib.hid d2; have D3 := Lib.hid d3
  clear v1 v2 d1 d2 d3 sp sq hp hq
  go_enter Tryz.func46, Tryz.ntmps46
  go_upto_region 1 with fail
  generalize ((w.alloc (.cells #[.bool s, .string a, .string b] 39)).alloc (.cells #[.bool t, .string c, .string d] 39)).alloc (.cells #[.bool false, .string ⟨#[]⟩, .string ⟨#[]⟩] 39) = W at *
  obtain ⟨⟨c0, c1, c2⟩, ⟨e0, e1, e2⟩, ⟨i0, i1, i2⟩, ⟨k0, k1, k2⟩, ⟨l0, l1, l2⟩, f0, f1, f2⟩ := R.out.see
  go_wp2_with fail
  refine (V1.out _).mono ?_
  rintro _ w1 ⟨rfl, g1⟩
  replace R := Lib.hid (R.out.on g1)
  clear g1
  clear c0 c1 c2 e0 e1 e2 i0 i1 i2 k0 k1 k2 l0 l1 l2 f0 f1 f2
  obtain ⟨⟨c0, c1, c2⟩, ⟨e0, e1, e2⟩, ⟨i0, i1, i2⟩, ⟨k0, k1, k2⟩, ⟨l0, l1, l2⟩, f0, f1, f2⟩ := R.out.see
  go_upto_region 2 with fail
  replace R := Lib.hid R.out.same1
  clear c0 c1 c2 e0 e1 e2 i0 i1 i2 k0 k1 k2 l0 l1 l2 f0 f1 f2
  generalize ((w1.setCell ⟨w.heap.size, 0, none⟩ (.bool s)).setCell ⟨w.heap.size, 1, none⟩ (.string a)).setCell ⟨w.heap.size, 2, none⟩ (.string b) = X1 at *
  obtain ⟨⟨c0, c1, c2⟩, ⟨e0, e1, e2⟩, ⟨i0, i1, i2⟩, ⟨k0, k1, k2⟩, ⟨l0, l1, l2⟩, f0, f1, f2⟩ := R.out.see
  go_wp2_with fail
  refine (V2.out _).mono ?_
  rintro _ w2 ⟨rfl, g1⟩
  replace R := Lib.hid (R.out.on g1)
  clear g1
  clear c0 c1 c2 e0 e1 e2 i0 i1 i2 k0 k1 k2 l0 l1 l2 f0 f1 f2
  obtain ⟨⟨c0, c1, c2⟩, ⟨e0, e1, e2⟩, ⟨i0, i1, i2⟩, ⟨k0, k1, k2⟩, ⟨l0, l1, l2⟩, f0, f1, f2⟩ := R.out.see
  go_upto_region 3 with fail
  replace R := Lib.hid R.out.same2
  clear c0 c1 c2 e0 e1 e2 i0 i1 i2 k0 k1 k2 l0 l1 l2 f0 f1 f2
  generalize ((w2.setCell ⟨w.heap.size + 1, 0, none⟩ (.bool t)).setCell ⟨w.heap.size + 1, 1, none⟩ (.string c)).setCell ⟨w.heap.size + 1, 2, none⟩ (.string d) = X2 at *
  obtain ⟨⟨c0, c1, c2⟩, ⟨e0, e1, e2⟩, ⟨i0, i1, i2⟩, ⟨k0, k1, k2⟩, ⟨l0, l1, l2⟩, f0, f1, f2⟩ := R.out.see
  go_upto_region 3 with fail
  go_region_held3 (fun w' => (w'.cell? ⟨w.heap.size, 0, none⟩ = some (.bool s) ∧ w'.cell? ⟨w.heap.size, 1, none⟩ = some (.string a) ∧ w'.cell? ⟨w.heap.size, 2, none⟩ = some (.string b)) ∧ (w'.cell? ⟨w.heap.size + 1, 0, none⟩ = some (.bool t) ∧ w'.cell? ⟨w.heap.size + 1, 1, none⟩ = some (.string c) ∧ w'.cell? ⟨w.heap.size + 1, 2, none⟩ = some (.string d)))
    (first | with_reducible exact ⟨r4.see.1, r4.see.2.1⟩ | with_reducible exact ⟨r3.see.1, r3.see.2.1⟩ | with_reducible exact ⟨r2.see.1, r2.see.2.1⟩ | exact r4.finSee u x y | go_keep)
    ((first
      | (go_at_call 71; with_reducible refine (D1.out _).mono ?_; rintro _ w2 ⟨rfl, h2⟩; have r2 := R.out.drew.on h2)
      | (go_at_call 71; with_reducible refine (D2.out _).mono ?_; rintro _ w3 ⟨rfl, h3⟩; have r3 := r2.on h3)
      | (go_at_call 80; refine (D3.out _).mono ?_; rintro _ w4 ⟨rfl, h4⟩; have r4 := r3.on h4; obtain ⟨-, -, ⟨j0, j1, j2⟩, -, -, ⟨m0, m1, m2⟩⟩ := r4.see)))
  go_wp2_with fail
  exact ret_rat rfl rfl (r4.fin u x y).1 rfl ⟨rfl, (r4.fin u x y).2⟩

#print axioms rMul_q
end Go.Proofs.YtolmjeglaolhlaaGreatDoor
