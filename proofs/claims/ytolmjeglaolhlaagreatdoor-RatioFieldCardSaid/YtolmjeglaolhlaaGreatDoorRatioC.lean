/- ratio: value, Sign, Neg of numbers. -/
import Derived.Test.YtolmjeglaolhlaaGreatDoorRatioB
namespace Go.Proofs.YtolmjeglaolhlaaGreatDoor
open Go.RowKit Num

theorem Blk.on {X Y : World} {b : Nat} {E : TypeId} {vs : List Value} (h : Blk X b E vs) (g : Below X.heap.size X Y) : Blk Y b E vs := h.below h.lt g

/-- Two boxes of structs. -/
def RB2 (w : World) (s : Bool) (a b : ByteArray) (W : World) : Prop :=
  Blk W w.heap.size 39 [.bool s, .string a, .string b] ∧ Blk W (w.heap.size + 1) 39 [.bool false, .string ⟨#[]⟩, .string ⟨#[]⟩] ∧ Below w.heap.size w W
theorem RB2.start (w : World) (s : Bool) (a b : ByteArray) : RB2 w s a b ((w.alloc (.cells #[.bool s, .string a, .string b] 39)).alloc (.cells #[.bool false, .string ⟨#[]⟩, .string ⟨#[]⟩] 39)) := by
  refine ⟨(Blk.new w 39 [.bool s, .string a, .string b]).alloc _, ?_, ((Below.refl _ _).alloc (Nat.le_refl _) _).alloc (by simp) _⟩
  have h := Blk.new (w.alloc (.cells #[.bool s, .string a, .string b] 39)) 39 [.bool false, .string ⟨#[]⟩, .string ⟨#[]⟩]
  rwa [World.size_alloc] at h
theorem RB2.on {w X Y : World} {s : Bool} {a b : ByteArray} (h : RB2 w s a b X) (g : Below X.heap.size X Y) : RB2 w s a b Y := ⟨h.1.on g, h.2.1.on g, h.2.2.trans (g.mono h.2.2.size)⟩
/-- What the walk looks at. -/
theorem RB2.see {w X : World} {s : Bool} {a b : ByteArray} (h : RB2 w s a b X) :
    (X.cell? ⟨w.heap.size, 0, none⟩ = some (.bool s) ∧ X.cell? ⟨w.heap.size, 1, none⟩ = some (.string a) ∧ X.cell? ⟨w.heap.size, 2, none⟩ = some (.string b)) ∧
    (X.cell? ⟨w.heap.size + 1, 0, none⟩ = some (.bool false) ∧ X.cell? ⟨w.heap.size + 1, 1, none⟩ = some (.string ⟨#[]⟩) ∧ X.cell? ⟨w.heap.size + 1, 2, none⟩ = some (.string ⟨#[]⟩)) ∧
    (X.frozen? ⟨w.heap.size, 0, none⟩ = false ∧ X.frozen? ⟨w.heap.size, 1, none⟩ = false ∧ X.frozen? ⟨w.heap.size, 2, none⟩ = false) ∧
    (X.frozen? ⟨w.heap.size + 1, 0, none⟩ = false ∧ X.frozen? ⟨w.heap.size + 1, 1, none⟩ = false ∧ X.frozen? ⟨w.heap.size + 1, 2, none⟩ = false) :=
  ⟨⟨h.1.cell 0, h.1.cell 1, h.1.cell 2⟩, ⟨h.2.1.cell 0, h.2.1.cell 1, h.2.1.cell 2⟩, ⟨h.1.free 0, h.1.free 1, h.1.free 2⟩, ⟨h.2.1.free 0, h.2.1.free 1, h.2.1.free 2⟩⟩
/-- The result is stored. -/
theorem RB2.fin {w X : World} {s : Bool} {a b : ByteArray} (h : RB2 w s a b X) (t : Bool) (c d : ByteArray) :
    Blk (((X.setCell ⟨w.heap.size + 1, 0, none⟩ (.bool t)).setCell ⟨w.heap.size + 1, 1, none⟩ (.string c)).setCell ⟨w.heap.size + 1, 2, none⟩ (.string d)) (w.heap.size + 1) 39 [.bool t, .string c, .string d] ∧
    Below w.heap.size w (((X.setCell ⟨w.heap.size + 1, 0, none⟩ (.bool t)).setCell ⟨w.heap.size + 1, 1, none⟩ (.string c)).setCell ⟨w.heap.size + 1, 2, none⟩ (.string d)) :=
  ⟨set3 h.2.1 _ _ _, bel3 h.2.2 (by omega) _ _ _⟩

theorem RB2.flip {w X : World} {s : Bool} {a b : ByteArray} (h : RB2 w s a b X) (t : Bool) : RB2 w t a b (X.setCell ⟨w.heap.size, 0, none⟩ (.bool t)) :=
  ⟨h.1.put 0 _, h.2.1.other _ _ (Nat.succ_ne_self _), h.2.2.setCell (Nat.le_refl _) _⟩
theorem RB2.same {w X : World} {s : Bool} {a b : ByteArray} (h : RB2 w s a b X) : RB2 w s a b (((X.setCell ⟨w.heap.size, 0, none⟩ (.bool s)).setCell ⟨w.heap.size, 1, none⟩ (.string a)).setCell ⟨w.heap.size, 2, none⟩ (.string b)) :=
  ⟨set3 h.1 _ _ _, ((h.2.1.other _ _ (Nat.succ_ne_self _)).other _ _ (Nat.succ_ne_self _)).other _ _ (Nat.succ_ne_self _), bel3 h.2.2 (Nat.le_refl _) _ _ _⟩

set_option maxRecDepth 100000 in
set_option maxHeartbeats 1000000 in
/-- **ratio.value** of a number. -/
theorem value_q (q : Rat) (w : World) (hq : Sz 268435456 q) :
    Calls Tryz.prog 81 #[rv q] w fun e w' => e = .returned (rv q) ∧ Below w.heap.size w w' := by
  have d1 := fun w => RRat_q q w hq
  unfold rv at d1 ⊢
  generalize decide (q.num < 0) = s at *
  generalize Enc q.num.natAbs = a at *
  generalize Enc q.den = b at *
  have R := Lib.hid (RB2.start w s a b)
  have D1 := Lib.hid d1
  clear d1
  go_enter Tryz.func81, Tryz.ntmps81
  go_wp2_with fail
  refine (D1.out _).mono ?_
  rintro _ w1 ⟨rfl, g1⟩
  replace R := Lib.hid (R.out.on g1)
  clear g1
  obtain ⟨⟨c0, c1, c2⟩, ⟨e0, e1, e2⟩, -, f0, f1, f2⟩ := R.out.see
  go_wp2_with fail
  exact ret_rat rfl rfl (R.out.fin s a b).1 rfl ⟨rfl, (R.out.fin s a b).2⟩

theorem rv_neg (q : Rat) : rv (-q) = RV (!decide (q.num < 0) && decide (q.num.natAbs ≠ 0)) (Enc q.num.natAbs) (Enc q.den) := by
  unfold rv
  rw [neg_neg', (num_neg q).1, (num_neg q).2]

set_option maxRecDepth 100000 in
set_option maxHeartbeats 1000000 in
/-- **ratio.Neg** of a number. -/
theorem Neg_q (q : Rat) (w : World) (hq : Sz 268435456 q) :
    Calls Tryz.prog 40 #[rv q] w fun e w' => e = .returned (rv (-q)) ∧ Below w.heap.size w w' := by
  have d1 := fun w => value_q q w hq
  rw [rv_neg]
  unfold rv at d1 ⊢
  have hz : (decide (q.num.natAbs ≠ 0) = false ∧ Enc q.num.natAbs = ⟨#[]⟩) ∨ (decide (q.num.natAbs ≠ 0) = true ∧ ¬ (Enc q.num.natAbs).toList = []) := by
    by_cases h : q.num.natAbs = 0
    · left; rw [h]; exact ⟨rfl, Enc_zero⟩
    · right; exact ⟨decide_eq_true h, not_nil (fun e => h (Enc_inj (e.trans Enc_zero.symm)))⟩
  generalize decide (q.num.natAbs ≠ 0) = f at *
  generalize decide (q.num < 0) = s at *
  generalize Enc q.num.natAbs = a at *
  generalize Enc q.den = b at *
  have R := Lib.hid (RB2.start w s a b)
  have D1 := Lib.hid d1
  clear d1
  go_enter Tryz.func40, Tryz.ntmps40
  go_wp2_with fail
  refine (D1.out _).mono ?_
  rintro _ w1 ⟨rfl, g1⟩
  replace R := Lib.hid (R.out.on g1)
  clear g1
  obtain ⟨⟨c0, c1, c2⟩, -, ⟨k0, k1, k2⟩, -⟩ := R.out.see
  go_upto_region 2 with fail
  replace R := Lib.hid R.out.same
  clear c0 c1 c2 k0 k1 k2
  generalize ((w1.setCell ⟨w.heap.size, 0, none⟩ (.bool s)).setCell ⟨w.heap.size, 1, none⟩ (.string a)).setCell ⟨w.heap.size, 2, none⟩ (.string b) = X at *
  obtain ⟨⟨c0, c1, c2⟩, ⟨e0, e1, e2⟩, ⟨k0, k1, k2⟩, f0, f1, f2⟩ := R.out.see
  cases s with
  | false =>
    rcases hz with ⟨rfl, rfl⟩ | ⟨rfl, hq⟩
    · go_wp2_with fail
      exact ret_rat rfl rfl ((R.out.flip _).fin _ _ b).1 rfl ⟨rfl, ((R.out.flip _).fin _ _ b).2⟩
    · go_wp2_with fail
      refine ret_rat rfl rfl ((R.out.flip _).fin _ a b).1 rfl ⟨?_, ((R.out.flip _).fin _ a b).2⟩
      simp [hq]
  | true =>
    go_wp2_with fail
    exact ret_rat rfl rfl ((R.out.flip _).fin _ a b).1 rfl ⟨rfl, ((R.out.flip _).fin _ a b).2⟩

set_option maxRecDepth 100000 in
set_option maxHeartbeats 1000000 in
/-- **ratio.Sign** of a number. -/
theorem Sign_q (q : Rat) (w : World) (hq : Sz 268435456 q) :
    Calls Tryz.prog 49 #[rv q] w fun e w' => e = .returned (.int .i64 (signZ q)) ∧ Below w.heap.size w w' := by
  have d1 := fun w => RRat_q q w hq
  have d2 := fun w => ROf_any 0 w (by omega) (by omega)
  rw [rv_int] at d2
  have hz : (q = 0 ∧ Enc q.num.natAbs = ⟨#[]⟩ ∧ decide (q.num < 0) = false ∧ Enc q.den = ⟨#[1]⟩) ∨ (q ≠ 0 ∧ ¬ (Enc q.num.natAbs).toList = [] ∧ signZ q = if decide (q.num < 0) then -1 else 1) := by
    by_cases h : q = 0
    · left; subst h; exact ⟨rfl, Enc_zero, rfl, Enc_one⟩
    · right
      refine ⟨h, not_nil (fun e => h (Rat.num_eq_zero.1 (Int.natAbs_eq_zero.1 (Enc_inj (e.trans Enc_zero.symm))))), ?_⟩
      unfold signZ
      rw [if_neg h]
      by_cases h2 : q.num < 0 <;> simp [h2]
  rw [show decide ((0 : Int) < 0) = false from rfl, show (0 : Int).natAbs = 0 from rfl, Enc_zero, Enc_one] at d2
  unfold rv at d1 ⊢
  generalize decide (q.num < 0) = s at *
  generalize Enc q.num.natAbs = a at *
  generalize Enc q.den = b at *
  have hbk := Blk.new w 39 [.bool s, .string a, .string b]
  have hrc := hbk.rc
  have hlt := hbk.lt
  have HB := (Below.refl w.heap.size w).alloc (Nat.le_refl _) (.cells #[.bool s, .string a, .string b] 39)
  have D1 := Lib.hid d1; have D2 := Lib.hid d2
  have HZ := Lib.hid hz
  clear d1 d2 hbk hz
  rcases HZ.out with ⟨rfl, rfl, rfl, rfl⟩ | ⟨h0, hn, hs⟩
  · go_enter Tryz.func49, Tryz.ntmps49
    go_upto_region 1 with fail
    generalize w.alloc (.cells #[.bool false, .string ⟨#[]⟩, .string ⟨#[1]⟩] 39) = W at *
    obtain ⟨c0, c1, c2⟩ := hrc
    go_region_held3 (fun w' => w'.cell? ⟨w.heap.size, 0, none⟩ = some (.bool false) ∧ w'.cell? ⟨w.heap.size, 1, none⟩ = some (.string ⟨#[]⟩) ∧ w'.cell? ⟨w.heap.size, 2, none⟩ = some (.string ⟨#[1]⟩))
      (first | exact k3 | exact k2 | go_keep)
      ((first
        | (go_at_call 27; refine (D1.out _).mono ?_; rintro _ w2 ⟨rfl, h2⟩; have g2 : Below W.heap.size W w2 := (Below.refl _ _).drew.trans h2; have k2 := RC.below (W := W) (X := w2) ⟨c0, c1, c2⟩ g2 hlt)
        | (go_at_call 25; refine (D2.out _).mono ?_; rintro _ w3 ⟨rfl, h3⟩; have g3 : Below W.heap.size W w3 := g2.trans (h3.mono g2.size); have k3 := RC.below (W := W) (X := w3) ⟨c0, c1, c2⟩ g3 hlt)))
    go_wp2_with fail
    go_ret
    exact ⟨rfl, HB.trans (g3.mono HB.size)⟩
  · go_enter Tryz.func49, Tryz.ntmps49
    go_upto_region 1 with fail
    generalize w.alloc (.cells #[.bool s, .string a, .string b] 39) = W at *
    obtain ⟨c0, c1, c2⟩ := hrc
    go_region_held3 (fun w' => w'.cell? ⟨w.heap.size, 0, none⟩ = some (.bool s) ∧ w'.cell? ⟨w.heap.size, 1, none⟩ = some (.string a) ∧ w'.cell? ⟨w.heap.size, 2, none⟩ = some (.string b))
      (first | exact k3 | exact k2 | go_keep)
      ((first
        | (go_at_call 27; refine (D1.out _).mono ?_; rintro _ w2 ⟨rfl, h2⟩; have g2 : Below W.heap.size W w2 := (Below.refl _ _).drew.trans h2; have k2 := RC.below (W := W) (X := w2) ⟨c0, c1, c2⟩ g2 hlt)
        | (go_at_call 25; refine (D2.out _).mono ?_; rintro _ w3 ⟨rfl, h3⟩; have g3 : Below W.heap.size W w3 := g2.trans (h3.mono g2.size); have k3 := RC.below (W := W) (X := w3) ⟨c0, c1, c2⟩ g3 hlt)))
    obtain ⟨l0, l1, l2⟩ := k3
    cases s with
    | false =>
      go_wp2_with fail
      go_ret
      exact ⟨rfl, HB.trans (g3.mono HB.size)⟩
    | true =>
      go_wp2_with fail
      go_ret
      exact ⟨rfl, HB.trans (g3.mono HB.size)⟩

#print axioms Sign_q
end Go.Proofs.YtolmjeglaolhlaaGreatDoor
