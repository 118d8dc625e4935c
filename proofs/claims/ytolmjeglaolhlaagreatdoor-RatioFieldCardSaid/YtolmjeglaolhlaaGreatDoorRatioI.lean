/- sortesref02.Quo; sorteslaw02.frac. -/
import Derived.Test.YtolmjeglaolhlaaGreatDoorRatioH
namespace Go.Proofs.YtolmjeglaolhlaaGreatDoor
open Go.RowKit Num

set_option maxRecDepth 100000 in
set_option maxHeartbeats 2000000 in
/-- **sortesref02.Quo** of numbers, the second one not nought. -/
theorem rQuo_q (p q : Rat) (w : World) (hp : Sz 600000 p) (hq : Sz 600000 q) (h0 : q ≠ 0) :
    Calls Tryz.prog 43 #[rv p, rv q] w fun e w' => e = .returned (.tuple #[rv (p / q), .bool true]) ∧ Below w.heap.size w w' := by
  have hn0 : q.num.natAbs ≠ 0 := fun e => h0 (Rat.num_eq_zero.1 (Int.natAbs_eq_zero.1 e))
  have hcl : ¬ (Enc q.num.natAbs).toList = [] := not_nil (fun e => hn0 (Enc_inj (e.trans Enc_zero.symm)))
  have v1 := fun w => rvalue_q p w (hp.mono (by decide))
  have v2 := fun w => rvalue_q q w (hq.mono (by decide))
  have sp := sz_strs hp; have sq := sz_strs hq
  have d1 := fun w => RMul_is (Enc (p.num.natAbs * q.den)) (Enc p.num.natAbs) (Enc q.den) w (by omega) (by omega) (by rw [SN_Enc, SN_Enc])
  have d2 := fun w => RMul_is (Enc (p.den * q.num.natAbs)) (Enc p.den) (Enc q.num.natAbs) w (by omega) (by omega) (by rw [SN_Enc, SN_Enc])
  have d3 := fun w => rlowest_any (decide (p.num < 0) != decide (q.num < 0)) (p.num.natAbs * q.den) (p.den * q.num.natAbs) w (nat_mul_lt (n := 2000000) hp.1 hq.2 (by decide)) (nat_mul_lt (n := 2000000) hp.2 hq.1 (by decide)) (Nat.mul_ne_zero p.den_nz hn0)
  rw [low_quo h0] at d3
  unfold rv at *
  generalize Enc (p.num.natAbs * q.den) = pn at *
  generalize Enc (p.den * q.num.natAbs) = pd at *
  generalize decide (p.num < 0) = s at *
  generalize Enc p.num.natAbs = a at *
  generalize Enc p.den = b at *
  generalize decide (q.num < 0) = t at *
  generalize Enc q.num.natAbs = c at *
  generalize Enc q.den = d at *
  generalize decide ((p / q).num < 0) = u at *
  generalize Enc (p / q).num.natAbs = x at *
  generalize Enc (p / q).den = y at *
  have R := Lib.hid (RB3.start w s a b t c d)
  have V1 := Lib.hid v1; have V2 := Lib.hid v2; have D1 := Lib.hid d1; have D2 := Lib.hid d2; have D3 := Lib.hid d3
  clear v1 v2 d1 d2 d3 sp sq hp hq hn0 h0
  go_enter Tryz.func43, Tryz.ntmps43
  go_upto_region 1 with fail
  generalize ((w.alloc (.cells #[.bool s, .string a, .string b] 39)).alloc (.cells #[.bool t, .string c, .string d] 39)).alloc (.cells #[.bool false, .string ⟨#[]⟩, .string ⟨#[]⟩] 39) = W at *
  obtain ⟨⟨c0, c1, c2⟩, ⟨e0, e1, e2⟩, ⟨i0, i1, i2⟩, ⟨k0, k1, k2⟩, ⟨l0, l1, l2⟩, f0, f1, f2⟩ := R.out.see
  go_wp2_with fail
  refine (V1.out _).mono ?_
  rintro _ w1 ⟨rfl, g1⟩
  replace R := Lib.hid (R.out.on g1)
  clear g1
  clear c0 c1 c2 e0 e1 e2 i0 i1 i2 k0 k1 k2 l0 l1 l2 f0 f1 f2
  obtain ⟨⟨c0, c1, c2⟩, ⟨e0, e1, e2⟩, ⟨i0, i1, i2⟩, ⟨k0, k1, k2⟩, ⟨l0, l1, l2⟩, f0, f1, f2⟩ := R.out.see
  go_upto_region 2 with fail
  replace R := Lib.hid R.out.same1
  clear c0 c1 c2 e0 e1 e2 i0 i1 i2 k0 k1 k2 l0 l1 l2 f0 f1 f2
  generalize ((w1.setCell ⟨w.heap.size, 0, none⟩ (.bool s)).setCell ⟨w.heap.size, 1, none⟩ (.string a)).setCell ⟨w.heap.size, 2, none⟩ (.string b) = X1 at *
  obtain ⟨⟨c0, c1, c2⟩, ⟨e0, e1, e2⟩, ⟨i0, i1, i2⟩, ⟨k0, k1, k2⟩, ⟨l0, l1, l2⟩, f0, f1, f2⟩ := R.out.see
  go_wp2_with fail
  refine (V2.out _).mono ?_
  rintro _ w2 ⟨rfl, g1⟩
  replace R := Lib.hid (R.out.on g1)
  clear g1
  clear c0 c1 c2 e0 e1 e2 i0 i1 i2 k0 k1 k2 l0 l1 l2 f0 f1 f2
  obtain ⟨⟨c0, c1, c2⟩, ⟨e0, e1, e2⟩, ⟨i0, i1, i2⟩, ⟨k0, k1, k2⟩, ⟨l0, l1, l2⟩, f0, f1, f2⟩ := R.out.see
  go_upto_region 3 with fail
  replace R := Lib.hid R.out.same2
  clear c0 c1 c2 e0 e1 e2 i0 i1 i2 k0 k1 k2 l0 l1 l2 f0 f1 f2
  generalize ((w2.setCell ⟨w.heap.size + 1, 0, none⟩ (.bool t)).setCell ⟨w.heap.size + 1, 1, none⟩ (.string c)).setCell ⟨w.heap.size + 1, 2, none⟩ (.string d) = X2 at *
  obtain ⟨⟨c0, c1, c2⟩, ⟨e0, e1, e2⟩, ⟨i0, i1, i2⟩, ⟨k0, k1, k2⟩, ⟨l0, l1, l2⟩, f0, f1, f2⟩ := R.out.see
  have hce : c.toList.isEmpty = false := by simp [hcl]
  go_upto_region 5 with fail
  go_region_held3 (fun w' => (w'.cell? ⟨w.heap.size, 0, none⟩ = some (.bool s) ∧ w'.cell? ⟨w.heap.size, 1, none⟩ = some (.string a) ∧ w'.cell? ⟨w.heap.size, 2, none⟩ = some (.string b)) ∧ (w'.cell? ⟨w.heap.size + 1, 0, none⟩ = some (.bool t) ∧ w'.cell? ⟨w.heap.size + 1, 1, none⟩ = some (.string c) ∧ w'.cell? ⟨w.heap.size + 1, 2, none⟩ = some (.string d)))
    (first | with_reducible exact ⟨r4.see.1, r4.see.2.1⟩ | with_reducible exact ⟨r3.see.1, r3.see.2.1⟩ | with_reducible exact ⟨r2.see.1, r2.see.2.1⟩ | exact r4.finSee u x y | go_keep)
    ((first
      | (go_at_call 71; with_reducible refine (D1.out _).mono ?_; rintro _ w2 ⟨rfl, h2⟩; have r2 := R.out.drew.on h2)
      | (go_at_call 71; with_reducible refine (D2.out _).mono ?_; rintro _ w3 ⟨rfl, h3⟩; have r3 := r2.on h3)
      | (go_at_call 80; refine (D3.out _).mono ?_; rintro _ w4 ⟨rfl, h4⟩; have r4 := r3.on h4; obtain ⟨-, -, ⟨j0, j1, j2⟩, -, -, ⟨m0, m1, m2⟩⟩ := r4.see)))
  go_wp2_with fail
  exact ret_rat2 rfl rfl (r4.fin u x y).1 rfl ⟨rfl, (r4.fin u x y).2⟩


theorem Sz.int (z : Int) (h1 : -9223372036854775808 ≤ z) (h2 : z ≤ 9223372036854775807) : Sz 8 (z : Rat) := by
  refine ⟨?_, ?_⟩
  · show z.natAbs < 256 ^ 8
    omega
  · show 1 < 256 ^ 8
    decide

set_option maxRecDepth 100000 in
set_option maxHeartbeats 2000000 in
/-- **sorteslaw02.frac**. -/
theorem frac_any (m n : Int) (q : Rat) (w : World) (h1 : -9223372036854775808 ≤ m) (h2 : m ≤ 9223372036854775807) (h3 : -9223372036854775808 ≤ n) (h4 : n ≤ 9223372036854775807) (h0 : n ≠ 0) (hq : (m : Rat) / (n : Rat) = q) :
    Calls Tryz.prog 75 #[.int .i64 m, .int .i64 n] w fun e w' => e = .returned (rv q) ∧ Below w.heap.size w w' := by
  have d1 := fun w => rOf_any m w h1 h2
  have d2 := fun w => rOf_any n w h3 h4
  have d3 := fun w => rQuo_q (m : Rat) (n : Rat) w ((Sz.int m h1 h2).mono (by decide)) ((Sz.int n h3 h4).mono (by decide)) (by rw [Ne, Rat.intCast_eq_zero_iff]; exact h0)
  rw [hq] at d3
  have hbk := Blk.new w 39 [.bool false, .string ⟨#[]⟩, .string ⟨#[]⟩]
  have R := Lib.hid hbk
  have HB := Lib.hid ((Below.refl w.heap.size w).alloc (Nat.le_refl _) (.cells #[.bool false, .string ⟨#[]⟩, .string ⟨#[]⟩] 39))
  unfold rv at *
  generalize decide ((m : Rat).num < 0) = s1 at *
  generalize Enc (m : Rat).num.natAbs = a1 at *
  generalize Enc (m : Rat).den = b1 at *
  generalize decide ((n : Rat).num < 0) = s2 at *
  generalize Enc (n : Rat).num.natAbs = a2 at *
  generalize Enc (n : Rat).den = b2 at *
  generalize decide (q.num < 0) = u at *
  generalize Enc q.num.natAbs = x at *
  generalize Enc q.den = y at *
  have D1 := Lib.hid d1; have D2 := Lib.hid d2; have D3 := Lib.hid d3
  clear d1 d2 d3 hbk hq
  go_enter Tryz.func75, Tryz.ntmps75
  go_wp2_with fail
  refine (D1.out _).mono ?_
  rintro _ w1 ⟨rfl, g1⟩
  go_wp2_with fail
  refine (D2.out _).mono ?_
  rintro _ w2 ⟨rfl, g2⟩
  go_wp2_with fail
  refine (D3.out _).mono ?_
  rintro _ w3 ⟨rfl, g3⟩
  have g4 := g1.trans ((g2.trans (g3.mono g2.size)).mono g1.size)
  have g5 : Below w3.heap.size w3 (w3.alloc (.cells #[.bool u, .string x, .string y] 39)) := (Below.refl _ _).alloc (Nat.le_refl _) _
  replace R := Lib.hid ((R.out.on g4).on g5)
  replace HB := Lib.hid ((HB.out.trans (g4.mono HB.out.size)).trans (g5.mono (Nat.le_trans HB.out.size g4.size)))
  clear g1 g2 g3 g4 g5
  go_upto_region 2 with fail
  generalize hW : w3.alloc (.cells #[.bool u, .string x, .string y] 39) = W at *
  have hbk2 : Blk W w3.heap.size 39 [.bool u, .string x, .string y] := by rw [← hW]; exact Blk.new _ _ _
  obtain ⟨r0, r1, r2⟩ := hbk2.rc
  have c0 : W.cell? ⟨w.heap.size, 0, none⟩ = some (.bool false) := R.out.cell 0
  have c1 : W.cell? ⟨w.heap.size, 1, none⟩ = some (.string ⟨#[]⟩) := R.out.cell 1
  have c2 : W.cell? ⟨w.heap.size, 2, none⟩ = some (.string ⟨#[]⟩) := R.out.cell 2
  have f0 := R.out.free 0; have f1 := R.out.free 1; have f2 := R.out.free 2
  clear hW hbk2
  go_wp2_with fail
  exact ret_rat rfl rfl (set3 R.out _ _ _) rfl ⟨rfl, bel3 HB.out (Nat.le_refl _) _ _ _⟩

#print axioms frac_any
end Go.Proofs.YtolmjeglaolhlaaGreatDoor
