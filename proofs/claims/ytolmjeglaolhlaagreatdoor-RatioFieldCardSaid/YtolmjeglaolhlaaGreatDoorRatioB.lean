/- ratio: Of, Right, value, Make, Sign, Neg. -/
import Derived.Test.YtolmjeglaolhlaaGreatDoorRatioA
namespace Go.Proofs.YtolmjeglaolhlaaGreatDoor
open Go.RowKit Num

theorem rv_int (z : Int) : rv (z : Rat) = RV (decide (z < 0)) (Enc z.natAbs) (Enc 1) := rfl

set_option maxRecDepth 100000 in
set_option maxHeartbeats 1000000 in
/-- **ratio.Of**. -/
theorem ROf_any (z : Int) (w : World) (h1 : -9223372036854775808 ≤ z) (h2 : z ≤ 9223372036854775807) :
    Calls Tryz.prog 25 #[.int .i64 z] w fun e w' => e = .returned (rv (z : Rat)) ∧ Below w.heap.size w w' := by
  rw [rv_int]
  have d1 := fun w => Of_any 1 w (by omega)
  rw [show (1 : Int).toNat = 1 from rfl] at d1
  have hbk := Blk.new w 39 [.bool false, .string ⟨#[]⟩, .string ⟨#[]⟩]
  have HBK := Lib.hid hbk
  have HB := (Below.refl w.heap.size w).alloc (Nat.le_refl _) (.cells #[.bool false, .string ⟨#[]⟩, .string ⟨#[]⟩] 39)
  clear hbk
  by_cases hz : z < 0
  · have e1 : IntKind.i64.wrap (z + 1) = z + 1 := by rw [IntKind.wrap_i64]; omega
    have e2 : IntKind.i64.wrap (-(z + 1)) = -(z + 1) := by rw [IntKind.wrap_i64]; omega
    have d2 := fun w => Of_any (-(z + 1)) w (by omega)
    obtain ⟨x, hx⟩ : ∃ x, x = Enc (-(z + 1)).toNat := ⟨_, rfl⟩
    rw [← hx] at d2
    obtain ⟨o, ho⟩ : ∃ o, o = Enc 1 := ⟨_, rfl⟩
    rw [← ho] at d1 ⊢
    have d3 := fun w => Add_is (Enc z.natAbs) x o w (by rw [hx]; exact Nat.le_trans (Enc_size_le (k := 8) (by omega)) (by decide)) (by rw [ho]; decide) (by rw [hx, ho, SN_Enc, SN_Enc]; congr 1; omega)
    obtain ⟨y, hy⟩ : ∃ y, y = Enc z.natAbs := ⟨_, rfl⟩
    rw [← hy] at d3 ⊢
    rw [decide_eq_true hz]
    have D1 := Lib.hid d1; have D2 := Lib.hid d2; have D3 := Lib.hid d3
    clear d1 d2 d3 hx ho hy
    go_enter Tryz.func25, Tryz.ntmps25
    go_wp2_with fail
    refine (D2.out _).mono ?_
    rintro _ w1 ⟨rfl, g1⟩
    go_wp2_with fail
    refine (D1.out _).mono ?_
    rintro _ w2 ⟨rfl, g2⟩
    go_wp2_with fail
    refine (D3.out _).mono ?_
    rintro _ w3 ⟨rfl, g3⟩
    go_wp2_with fail
    refine (D1.out _).mono ?_
    rintro _ w4 ⟨rfl, g4⟩
    have k3 := g1.trans ((g2.trans ((g3.trans (g4.mono g3.size)).mono g2.size)).mono g1.size)
    have HX := Lib.hid (HBK.out.below HBK.out.lt k3)
    have c0 : w4.cell? ⟨w.heap.size, 0, none⟩ = some (.bool false) := HX.out.cell 0
    have c1 : w4.cell? ⟨w.heap.size, 1, none⟩ = some (.string ⟨#[]⟩) := HX.out.cell 1
    have c2 : w4.cell? ⟨w.heap.size, 2, none⟩ = some (.string ⟨#[]⟩) := HX.out.cell 2
    have f0 := HX.out.free 0; have f1 := HX.out.free 1; have f2 := HX.out.free 2
    have HBW := HB.trans (k3.mono HB.size)
    clear g1 g2 g3 g4 k3
    go_wp2_with fail
    exact ret_rat rfl rfl (set3 HX.out _ _ _) rfl ⟨rfl, bel3 HBW (Nat.le_refl _) _ _ _⟩
  · have d2 := fun w => Of_any z w h2
    obtain ⟨y, hy⟩ : ∃ y, y = Enc z.natAbs := ⟨_, rfl⟩
    rw [show z.toNat = z.natAbs by omega, ← hy] at d2
    obtain ⟨o, ho⟩ : ∃ o, o = Enc 1 := ⟨_, rfl⟩
    rw [← ho] at d1 ⊢
    rw [← hy, decide_eq_false hz]
    have D1 := Lib.hid d1; have D2 := Lib.hid d2
    clear d1 d2 ho hy
    go_enter Tryz.func25, Tryz.ntmps25
    go_wp2_with fail
    refine (D2.out _).mono ?_
    rintro _ w1 ⟨rfl, g1⟩
    go_wp2_with fail
    refine (D1.out _).mono ?_
    rintro _ w4 ⟨rfl, g4⟩
    have k3 := g1.trans (g4.mono g1.size)
    have HX := Lib.hid (HBK.out.below HBK.out.lt k3)
    have c0 : w4.cell? ⟨w.heap.size, 0, none⟩ = some (.bool false) := HX.out.cell 0
    have c1 : w4.cell? ⟨w.heap.size, 1, none⟩ = some (.string ⟨#[]⟩) := HX.out.cell 1
    have c2 : w4.cell? ⟨w.heap.size, 2, none⟩ = some (.string ⟨#[]⟩) := HX.out.cell 2
    have f0 := HX.out.free 0; have f1 := HX.out.free 1; have f2 := HX.out.free 2
    have HBW := HB.trans (k3.mono HB.size)
    clear g1 g4 k3
    go_wp2_with fail
    exact ret_rat rfl rfl (set3 HX.out _ _ _) rfl ⟨rfl, bel3 HBW (Nat.le_refl _) _ _ _⟩

/-- The cells of a box that holds a struct. -/
def RC (B : Nat) (s : Bool) (a b : ByteArray) (W : World) : Prop := W.cell? ⟨B, 0, none⟩ = some (.bool s) ∧ W.cell? ⟨B, 1, none⟩ = some (.string a) ∧ W.cell? ⟨B, 2, none⟩ = some (.string b)
theorem RC.below {B : Nat} {s : Bool} {a b : ByteArray} {W X : World} (h : RC B s a b W) (hb : Below W.heap.size W X) (hlt : B < W.heap.size) : RC B s a b X :=
  ⟨(hb.cell (p := ⟨B, 0, none⟩) hlt).trans h.1, (hb.cell (p := ⟨B, 1, none⟩) hlt).trans h.2.1, (hb.cell (p := ⟨B, 2, none⟩) hlt).trans h.2.2⟩
theorem Blk.rc {W : World} {B : Nat} {t : TypeId} {s : Bool} {a b : ByteArray} (h : Blk W B t [.bool s, .string a, .string b]) : RC B s a b W := ⟨h.cell 0, h.cell 1, h.cell 2⟩

theorem RV_inj {s t : Bool} {a b c d : ByteArray} (h : RV s a b = RV t c d) : s = t ∧ a = c ∧ b = d := by
  simp [RV] at h
  exact h
/-- The parts of a number, as strings. -/
theorem sz_strs {k : Nat} {q : Rat} (h : Sz k q) : (Enc q.num.natAbs).size ≤ k ∧ (Enc q.den).size ≤ k := ⟨Enc_size_le h.1, Enc_size_le h.2⟩

set_option maxRecDepth 100000 in
set_option maxHeartbeats 1000000 in
/-- **ratio.Right** of a number. -/
theorem RRat_q (q : Rat) (w : World) (hq : Sz 268435456 q) :
    Calls Tryz.prog 27 #[rv q] w fun e w' => e = .returned (.bool true) ∧ Below w.heap.size w w' := by
  have ha := (sz_strs hq).1; have hb := (sz_strs hq).2
  have hr : rightB (Enc q.num.natAbs).data.toList = true := rightB_Enc _
  have hp : (rightB (Enc q.den).data.toList && decide (SN (Enc q.den) ≠ 0)) = true := by
    rw [rightB_Enc, SN_Enc, Bool.true_and]; exact decide_eq_true q.den_nz
  have d3 := fun w => lowest_any (decide (q.num < 0)) q.num.natAbs q.den w hq.1 hq.2 q.den_nz
  rw [low_self] at d3
  unfold rv at d3 ⊢
  generalize decide (q.num < 0) = s at *
  generalize Enc q.num.natAbs = a at *
  generalize Enc q.den = b at *
  have hbk := Blk.new w 39 [.bool s, .string a, .string b]
  have hrc := hbk.rc
  have HB := (Below.refl w.heap.size w).alloc (Nat.le_refl _) (.cells #[.bool s, .string a, .string b] 39)
  have d1 := fun w => positive_any b w hb true hp
  have d2 := fun w => Right_is true a w hr
  have hlt := hbk.lt
  have D1 := Lib.hid d1; have D2 := Lib.hid d2; have D3 := Lib.hid d3
  clear d1 d2 d3 hbk hp hr hq ha hb
  go_enter Tryz.func27, Tryz.ntmps27
  go_upto_region 2 with fail
  generalize w.alloc (.cells #[.bool s, .string a, .string b] 39) = W at *
  obtain ⟨c0, c1, c2⟩ := hrc
  go_region_held3 (fun w' => w'.cell? ⟨w.heap.size, 0, none⟩ = some (.bool s) ∧ w'.cell? ⟨w.heap.size, 1, none⟩ = some (.string a) ∧ w'.cell? ⟨w.heap.size, 2, none⟩ = some (.string b))
    (first | exact k3 | exact k2 | go_keep)
    ((first
      | (go_at_call 76; refine (D1.out _).mono ?_; rintro _ w2 ⟨rfl, h2⟩; have g2 : Below W.heap.size W w2 := (Below.refl _ _).drew.trans h2; have k2 := RC.below (W := W) (X := w2) ⟨c0, c1, c2⟩ g2 hlt)
      | (go_at_call 77; refine (D2.out _).mono ?_; rintro _ _ ⟨rfl, rfl⟩)
      | (go_at_call 78; refine (D3.out _).mono ?_; rintro _ w3 ⟨rfl, h3⟩; have g3 : Below W.heap.size W w3 := g2.trans (h3.mono g2.size); have k3 := RC.below (W := W) (X := w3) ⟨c0, c1, c2⟩ g3 hlt)))
  go_wp2_with fail
  go_ret
  exact ⟨rfl, HB.trans (g3.mono HB.size)⟩

#print axioms RRat_q
end Go.Proofs.YtolmjeglaolhlaaGreatDoor
