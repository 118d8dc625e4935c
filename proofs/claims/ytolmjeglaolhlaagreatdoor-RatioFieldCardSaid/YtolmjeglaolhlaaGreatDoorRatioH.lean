/- sortesref02: lowest, Of, Right, value of numbers. -/
import Derived.Test.YtolmjeglaolhlaaGreatDoorRatioE
import Derived.Test.YtolmjeglaolhlaaGreatDoorRQuo
import Derived.Test.YtolmjeglaolhlaaGreatDoorRRight
namespace Go.Proofs.YtolmjeglaolhlaaGreatDoor
open Go.RowKit Num

set_option maxRecDepth 100000 in
set_option maxHeartbeats 2000000 in
/-- **sortesref02.lowest**. -/
theorem rlowest_any (s : Bool) (n d : Nat) (w : World) (hn : n < 256 ^ 2000000) (hd : d < 256 ^ 2000000) (h0 : d ≠ 0) :
    Calls Tryz.prog 80 #[.bool s, .string (Enc n), .string (Enc d)] w fun e w' => e = .returned (rv (low s n d)) ∧ Below w.heap.size w w' := by
  have hbk := Blk.new w 39 [.bool false, .string ⟨#[]⟩, .string ⟨#[]⟩]
  have R := Lib.hid hbk
  have HB := Lib.hid ((Below.refl w.heap.size w).alloc (Nat.le_refl _) (.cells #[.bool false, .string ⟨#[]⟩, .string ⟨#[]⟩] 39))
  clear hbk
  rcases Nat.eq_zero_or_pos n with hz | hz
  · subst hz
    have d1 := fun w => ROfN_any 1 w (by omega)
    rw [show (1 : Int).toNat = 1 from rfl, Enc_one] at d1
    rw [low_zero, Enc_zero]
    have e0 : rv 0 = RV false ⟨#[]⟩ ⟨#[1]⟩ := by unfold rv; rw [show ((0 : Rat).num).natAbs = 0 from rfl, Enc_zero, show (0 : Rat).den = 1 from rfl, Enc_one]; rfl
    rw [e0]
    generalize Enc d = D at *
    have D1 := Lib.hid d1
    clear d1 e0 hn hd h0
    go_enter Tryz.func80, Tryz.ntmps80
    go_wp2_with fail
    refine (D1.out _).mono ?_
    rintro _ w2 ⟨rfl, g3⟩
    replace R := Lib.hid (R.out.on g3)
    replace HB := Lib.hid (HB.out.trans (g3.mono HB.out.size))
    have c0 : w2.cell? ⟨w.heap.size, 0, none⟩ = some (.bool false) := R.out.cell 0
    have c1 : w2.cell? ⟨w.heap.size, 1, none⟩ = some (.string ⟨#[]⟩) := R.out.cell 1
    have c2 : w2.cell? ⟨w.heap.size, 2, none⟩ = some (.string ⟨#[]⟩) := R.out.cell 2
    have f0 := R.out.free 0; have f1 := R.out.free 1; have f2 := R.out.free 2
    clear g3
    go_wp2_with fail
    exact ret_rat rfl rfl (set3 R.out _ _ _) rfl ⟨rfl, bel3 HB.out (Nat.le_refl _) _ _ _⟩
  · have hg0 : 0 < Nat.gcd n d := Nat.gcd_pos_of_pos_right _ (Nat.pos_of_ne_zero h0)
    have hgd : Nat.gcd n d ≤ d := Nat.le_of_dvd (Nat.pos_of_ne_zero h0) (Nat.gcd_dvd_right n d)
    have zn : (Enc n).size ≤ 2000000 := Enc_size_le hn
    have zd : (Enc d).size ≤ 2000000 := Enc_size_le hd
    have zg : (Enc (Nat.gcd n d)).size ≤ 2000000 := Enc_size_le (Nat.lt_of_le_of_lt hgd hd)
    have d1 := fun w => RGcd_any (Enc n) (Enc d) w (Nat.le_trans zn (by decide)) (Nat.le_trans zd (by decide))
    rw [SN_Enc, SN_Enc] at d1
    have d2 := fun w => RQuo_is (Enc (n / Nat.gcd n d)) (remS n (Nat.gcd n d)) true (Enc n) (Enc (Nat.gcd n d)) w (Nat.le_trans zn (by decide)) (Nat.le_trans zg (by decide)) (by rw [SN_Enc, SN_Enc]; unfold quoS; rw [if_neg (Nat.ne_of_gt hg0)]) (by rw [SN_Enc, SN_Enc]) (by rw [SN_Enc]; exact decide_eq_true (Nat.ne_of_gt hg0))
    have d3 := fun w => RQuo_is (Enc (d / Nat.gcd n d)) (remS d (Nat.gcd n d)) true (Enc d) (Enc (Nat.gcd n d)) w (Nat.le_trans zd (by decide)) (Nat.le_trans zg (by decide)) (by rw [SN_Enc, SN_Enc]; unfold quoS; rw [if_neg (Nat.ne_of_gt hg0)]) (by rw [SN_Enc, SN_Enc]) (by rw [SN_Enc]; exact decide_eq_true (Nat.ne_of_gt hg0))
    have hr : rv (low s n d) = RV s (Enc (n / Nat.gcd n d)) (Enc (d / Nat.gcd n d)) := by
      unfold rv
      rw [low_neg' _ _ h0, low_abs _ _ h0, low_den _ _ h0, decide_eq_true (Nat.ne_of_gt hz), Bool.and_true]
    rw [hr]
    have hnl : (Enc n).toList.isEmpty = false := by
      have := not_nil (t := Enc n) (fun e => Nat.ne_of_gt hz (Enc_inj (e.trans Enc_zero.symm)))
      simp [this]
    have hnl2 : ¬ (Enc n).toList = [] := by simpa using hnl
    generalize Enc (n / Nat.gcd n d) = q at *
    generalize Enc (d / Nat.gcd n d) = q' at *
    generalize remS n (Nat.gcd n d) = r at *
    generalize remS d (Nat.gcd n d) = r' at *
    generalize Enc (Nat.gcd n d) = g at *
    generalize Enc n = N at *
    generalize Enc d = D at *
    have D1 := Lib.hid d1; have D2 := Lib.hid d2; have D3 := Lib.hid d3
    clear d1 d2 d3 hr hn hd zn zd zg hgd hg0 h0 hz
    go_enter Tryz.func80, Tryz.ntmps80
    go_wp2_with fail
    refine (D1.out _).mono ?_
    rintro _ w1 ⟨rfl, h1⟩
    go_wp2_with fail
    refine (D2.out _).mono ?_
    rintro _ w2 ⟨rfl, h2⟩
    go_wp2_with fail
    refine (D3.out _).mono ?_
    rintro _ w3 ⟨rfl, h3⟩
    have g3 := h1.trans ((h2.trans (h3.mono h2.size)).mono h1.size)
    replace R := Lib.hid (R.out.on g3)
    replace HB := Lib.hid (HB.out.trans (g3.mono HB.out.size))
    have c0 : w3.cell? ⟨w.heap.size, 0, none⟩ = some (.bool false) := R.out.cell 0
    have c1 : w3.cell? ⟨w.heap.size, 1, none⟩ = some (.string ⟨#[]⟩) := R.out.cell 1
    have c2 : w3.cell? ⟨w.heap.size, 2, none⟩ = some (.string ⟨#[]⟩) := R.out.cell 2
    have f0 := R.out.free 0; have f1 := R.out.free 1; have f2 := R.out.free 2
    clear g3 h1 h2 h3
    go_wp2_with fail
    exact ret_rat rfl rfl (set3 R.out _ _ _) rfl ⟨rfl, bel3 HB.out (Nat.le_refl _) _ _ _⟩

set_option maxRecDepth 100000 in
set_option maxHeartbeats 1000000 in
/-- **sortesref02.Of**. -/
theorem rOf_any (z : Int) (w : World) (h1 : -9223372036854775808 ≤ z) (h2 : z ≤ 9223372036854775807) :
    Calls Tryz.prog 26 #[.int .i64 z] w fun e w' => e = .returned (rv (z : Rat)) ∧ Below w.heap.size w w' := by
  rw [rv_int]
  have d1 := fun w => ROfN_any 1 w (by omega)
  rw [show (1 : Int).toNat = 1 from rfl] at d1
  have hbk := Blk.new w 39 [.bool false, .string ⟨#[]⟩, .string ⟨#[]⟩]
  have HBK := Lib.hid hbk
  have HB := (Below.refl w.heap.size w).alloc (Nat.le_refl _) (.cells #[.bool false, .string ⟨#[]⟩, .string ⟨#[]⟩] 39)
  clear hbk
  by_cases hz : z < 0
  · have e1 : IntKind.i64.wrap (z + 1) = z + 1 := by rw [IntKind.wrap_i64]; omega
    have e2 : IntKind.i64.wrap (-(z + 1)) = -(z + 1) := by rw [IntKind.wrap_i64]; omega
    have d2 := fun w => ROfN_any (-(z + 1)) w (by omega)
    obtain ⟨x, hx⟩ : ∃ x, x = Enc (-(z + 1)).toNat := ⟨_, rfl⟩
    rw [← hx] at d2
    obtain ⟨o, ho⟩ : ∃ o, o = Enc 1 := ⟨_, rfl⟩
    rw [← ho] at d1 ⊢
    have d3 := fun w => RAdd_is (Enc z.natAbs) x o w (by rw [hx]; exact Nat.le_trans (Enc_size_le (k := 8) (by omega)) (by decide)) (by rw [ho]; decide) (by rw [hx, ho, SN_Enc, SN_Enc]; congr 1; omega)
    obtain ⟨y, hy⟩ : ∃ y, y = Enc z.natAbs := ⟨_, rfl⟩
    rw [← hy] at d3 ⊢
    rw [decide_eq_true hz]
    have D1 := Lib.hid d1; have D2 := Lib.hid d2; have D3 := Lib.hid d3
    clear d1 d2 d3 hx ho hy
    go_enter Tryz.func26, Tryz.ntmps26
    go_wp2_with fail
    refine (D2.out _).mono ?_
    rintro _ w1 ⟨rfl, g1⟩
    go_wp2_with fail
    refine (D1.out _).mono ?_
    rintro _ w2 ⟨rfl, g2⟩
    go_wp2_with fail
    refine (D3.out _).mono ?_
    rintro _ w3 ⟨rfl, g3⟩
    go_wp2_with fail
    refine (D1.out _).mono ?_
    rintro _ w4 ⟨rfl, g4⟩
    have k3 := g1.trans ((g2.trans ((g3.trans (g4.mono g3.size)).mono g2.size)).mono g1.size)
    have HX := Lib.hid (HBK.out.on k3)
    have c0 : w4.cell? ⟨w.heap.size, 0, none⟩ = some (.bool false) := HX.out.cell 0
    have c1 : w4.cell? ⟨w.heap.size, 1, none⟩ = some (.string ⟨#[]⟩) := HX.out.cell 1
    have c2 : w4.cell? ⟨w.heap.size, 2, none⟩ = some (.string ⟨#[]⟩) := HX.out.cell 2
    have f0 := HX.out.free 0; have f1 := HX.out.free 1; have f2 := HX.out.free 2
    have HBW := HB.trans (k3.mono HB.size)
    clear g1 g2 g3 g4 k3
    go_wp2_with fail
    exact ret_rat rfl rfl (set3 HX.out _ _ _) rfl ⟨rfl, bel3 HBW (Nat.le_refl _) _ _ _⟩
  · have d2 := fun w => ROfN_any z w h2
    obtain ⟨y, hy⟩ : ∃ y, y = Enc z.natAbs := ⟨_, rfl⟩
    rw [show z.toNat = z.natAbs by omega, ← hy] at d2
    obtain ⟨o, ho⟩ : ∃ o, o = Enc 1 := ⟨_, rfl⟩
    rw [← ho] at d1 ⊢
    rw [← hy, decide_eq_false hz]
    have hz2 : (0 : Int) ≤ z := by omega
    have D1 := Lib.hid d1; have D2 := Lib.hid d2
    clear d1 d2 ho hy hz
    go_enter Tryz.func26, Tryz.ntmps26
    go_wp2_with fail
    refine (D2.out _).mono ?_
    rintro _ w1 ⟨rfl, g1⟩
    go_wp2_with fail
    refine (D1.out _).mono ?_
    rintro _ w4 ⟨rfl, g4⟩
    have k3 := g1.trans (g4.mono g1.size)
    have HX := Lib.hid (HBK.out.on k3)
    have c0 : w4.cell? ⟨w.heap.size, 0, none⟩ = some (.bool false) := HX.out.cell 0
    have c1 : w4.cell? ⟨w.heap.size, 1, none⟩ = some (.string ⟨#[]⟩) := HX.out.cell 1
    have c2 : w4.cell? ⟨w.heap.size, 2, none⟩ = some (.string ⟨#[]⟩) := HX.out.cell 2
    have f0 := HX.out.free 0; have f1 := HX.out.free 1; have f2 := HX.out.free 2
    have HBW := HB.trans (k3.mono HB.size)
    clear g1 g4 k3
    go_wp2_with fail
    exact ret_rat rfl rfl (set3 HX.out _ _ _) rfl ⟨rfl, bel3 HBW (Nat.le_refl _) _ _ _⟩

set_option maxRecDepth 100000 in
set_option maxHeartbeats 1000000 in
/-- **sortesref02.Right** of a number. -/
theorem rRight_q (q : Rat) (w : World) (hq : Sz 2000000 q) :
    Calls Tryz.prog 52 #[rv q] w fun e w' => e = .returned (.bool true) ∧ Below w.heap.size w w' := by
  have ha := (sz_strs hq).1; have hb := (sz_strs hq).2
  have d1 := fun w => RRight_any (Enc q.num.natAbs) w
  have d2 := fun w => RRight_any (Enc q.den) w
  rw [rightB_Enc] at d1 d2
  have d4 := fun w => ROfN_any 1 w (by omega)
  rw [show (1 : Int).toNat = 1 from rfl] at d4
  have hd0 : (Enc q.den).toList.isEmpty = false := by
    have := not_nil (t := Enc q.den) (fun e => q.den_nz (Enc_inj (e.trans Enc_zero.symm)))
    simp [this]
  have hd1 : ¬ (Enc q.den).toList = [] := by simpa using hd0
  have hc1 : cmpZ 1 1 = 0 := by decide
  by_cases h0 : q = 0
  · subst h0
    have d5 := fun w => RCmp_is 0 (Enc 1) (Enc 1) w (by decide) (by decide) (by rw [SN_Enc]; exact hc1)
    unfold rv
    rw [show ((0 : Rat).num).natAbs = 0 from rfl, show (0 : Rat).den = 1 from rfl, Enc_zero, show decide ((0 : Rat).num < 0) = false from rfl]
    rw [show ((0 : Rat).num).natAbs = 0 from rfl, Enc_zero] at d1
    rw [show (0 : Rat).den = 1 from rfl] at d2 hd0 hd1
    generalize Enc 1 = b at *
    have hbk := Blk.new w 39 [.bool false, .string ⟨#[]⟩, .string b]
    have hrc := hbk.rc
    have hlt := hbk.lt
    have HB := (Below.refl w.heap.size w).alloc (Nat.le_refl _) (.cells #[.bool false, .string ⟨#[]⟩, .string b] 39)
    have D1 := Lib.hid d1; have D2 := Lib.hid d2; have D4 := Lib.hid d4; have D5 := Lib.hid d5
    clear d1 d2 d4 d5 hbk ha hb hq hc1
    go_enter Tryz.func52, Tryz.ntmps52
    go_upto_region 1 with fail
    generalize w.alloc (.cells #[.bool false, .string ⟨#[]⟩, .string b] 39) = W at *
    obtain ⟨c0, c1, c2⟩ := hrc
    go_wp2_with fail
    refine (D1.out _).mono ?_
    rintro _ _ ⟨rfl, rfl⟩
    go_wp2_with fail
    refine (D2.out _).mono ?_
    rintro _ _ ⟨rfl, rfl⟩
    go_wp2_with fail
    go_region_held3 (fun w' => w'.cell? ⟨w.heap.size, 0, none⟩ = some (.bool false) ∧ w'.cell? ⟨w.heap.size, 1, none⟩ = some (.string ⟨#[]⟩) ∧ w'.cell? ⟨w.heap.size, 2, none⟩ = some (.string b))
      (first | exact k3 | exact k2 | go_keep)
      ((first
        | (go_at_call 16; refine (D4.out _).mono ?_; rintro _ w2 ⟨rfl, h2⟩; have g2 : Below W.heap.size W w2 := (Below.refl _ _).drew.trans h2; have k2 := RC.below (W := W) (X := w2) ⟨c0, c1, c2⟩ g2 hlt)
        | (go_at_call 84; refine (D5.out _).mono ?_; rintro _ w3 ⟨rfl, h3⟩; have g3 : Below W.heap.size W w3 := (by first | exact h3 ▸ g2 | exact g2.trans (h3.mono g2.size)); have k3 := RC.below (W := W) (X := w3) ⟨c0, c1, c2⟩ g3 hlt)))
    go_wp2_with fail
    go_ret
    exact ⟨rfl, HB.trans (g3.mono HB.size)⟩
  · have hn0 : q.num.natAbs ≠ 0 := fun e => h0 (Rat.num_eq_zero.1 (Int.natAbs_eq_zero.1 e))
    have hn1 : (Enc q.num.natAbs).toList.isEmpty = false := by
      have := not_nil (t := Enc q.num.natAbs) (fun e => hn0 (Enc_inj (e.trans Enc_zero.symm)))
      simp [this]
    have hn2 : ¬ (Enc q.num.natAbs).toList = [] := by simpa using hn1
    have d5 := fun w => RGcd_any (Enc q.num.natAbs) (Enc q.den) w (Nat.le_trans ha (by decide)) (Nat.le_trans hb (by decide))
    rw [SN_Enc, SN_Enc, show Nat.gcd q.num.natAbs q.den = 1 from q.reduced] at d5
    have d6 := fun w => RCmp_is 0 (Enc 1) (Enc 1) w (by decide) (by decide) (by rw [SN_Enc]; exact hc1)
    unfold rv
    generalize decide (q.num < 0) = s at *
    generalize Enc q.num.natAbs = a at *
    generalize Enc q.den = b at *
    generalize Enc 1 = o at *
    have hbk := Blk.new w 39 [.bool s, .string a, .string b]
    have hrc := hbk.rc
    have hlt := hbk.lt
    have HB := (Below.refl w.heap.size w).alloc (Nat.le_refl _) (.cells #[.bool s, .string a, .string b] 39)
    have D1 := Lib.hid d1; have D2 := Lib.hid d2; have D4 := Lib.hid d4; have D5 := Lib.hid d5; have D6 := Lib.hid d6
    clear d1 d2 d4 d5 d6 hbk ha hb hq hc1 hn0 h0
    go_enter Tryz.func52, Tryz.ntmps52
    go_upto_region 1 with fail
    generalize w.alloc (.cells #[.bool s, .string a, .string b] 39) = W at *
    obtain ⟨c0, c1, c2⟩ := hrc
    go_wp2_with fail
    refine (D1.out _).mono ?_
    rintro _ _ ⟨rfl, rfl⟩
    go_wp2_with fail
    refine (D2.out _).mono ?_
    rintro _ _ ⟨rfl, rfl⟩
    go_wp2_with fail
    refine (D5.out _).mono ?_
    rintro _ w2 ⟨rfl, h2⟩
    go_wp2_with fail
    refine (D4.out _).mono ?_
    rintro _ w3 ⟨rfl, h3⟩
    go_wp2_with fail
    refine (D6.out _).mono ?_
    rintro _ w4 ⟨rfl, h4⟩
    go_wp2_with fail
    go_ret
    have g3 : Below W.heap.size W w3 := h2.trans (h3.mono h2.size)
    have g4 : Below W.heap.size W w4 := (by first | exact h4 ▸ g3 | exact g3.trans (h4.mono g3.size))
    exact ⟨rfl, HB.trans (g4.mono HB.size)⟩

set_option maxRecDepth 100000 in
set_option maxHeartbeats 1000000 in
/-- **sortesref02.value** of a number. -/
theorem rvalue_q (q : Rat) (w : World) (hq : Sz 2000000 q) :
    Calls Tryz.prog 82 #[rv q] w fun e w' => e = .returned (rv q) ∧ Below w.heap.size w w' := by
  have d1 := fun w => rRight_q q w hq
  unfold rv at d1 ⊢
  generalize decide (q.num < 0) = s at *
  generalize Enc q.num.natAbs = a at *
  generalize Enc q.den = b at *
  have R := Lib.hid (RB2.start w s a b)
  have D1 := Lib.hid d1
  clear d1 hq
  go_enter Tryz.func82, Tryz.ntmps82
  go_wp2_with fail
  refine (D1.out _).mono ?_
  rintro _ w1 ⟨rfl, g1⟩
  replace R := Lib.hid (R.out.on g1)
  clear g1
  obtain ⟨⟨c0, c1, c2⟩, ⟨e0, e1, e2⟩, -, f0, f1, f2⟩ := R.out.see
  go_wp2_with fail
  exact ret_rat rfl rfl (R.out.fin s a b).1 rfl ⟨rfl, (R.out.fin s a b).2⟩

#print axioms rRight_q
#print axioms rvalue_q
end Go.Proofs.YtolmjeglaolhlaaGreatDoor
