/- ratio: two numbers in boxes, and a result; Sub, Cmp, Add, Mul, Quo. -/
import Derived.Test.YtolmjeglaolhlaaGreatDoorRatioC
import Derived.Deep.Cut
namespace Go.Proofs.YtolmjeglaolhlaaGreatDoor
open Go.RowKit Num

/-- Three boxes of structs: two numbers, and the result. -/
def RB3 (w : World) (s : Bool) (a b : ByteArray) (t : Bool) (c d : ByteArray) (W : World) : Prop :=
  Blk W w.heap.size 39 [.bool s, .string a, .string b] ∧ Blk W (w.heap.size + 1) 39 [.bool t, .string c, .string d] ∧ Blk W (w.heap.size + 2) 39 [.bool false, .string ⟨#[]⟩, .string ⟨#[]⟩] ∧ Below w.heap.size w W
section
variable {w X Y : World} {s t : Bool} {a b c d : ByteArray}
theorem RB3.start (w : World) (s : Bool) (a b : ByteArray) (t : Bool) (c d : ByteArray) :
    RB3 w s a b t c d (((w.alloc (.cells #[.bool s, .string a, .string b] 39)).alloc (.cells #[.bool t, .string c, .string d] 39)).alloc (.cells #[.bool false, .string ⟨#[]⟩, .string ⟨#[]⟩] 39)) := by
  refine ⟨((Blk.new w 39 [.bool s, .string a, .string b]).alloc _).alloc _, ?_, ?_, (((Below.refl _ _).alloc (Nat.le_refl _) _).alloc (by simp) _).alloc (by simp; omega) _⟩
  · have h := Blk.new (w.alloc (.cells #[.bool s, .string a, .string b] 39)) 39 [.bool t, .string c, .string d]
    rw [World.size_alloc] at h
    exact h.alloc _
  · have h := Blk.new ((w.alloc (.cells #[.bool s, .string a, .string b] 39)).alloc (.cells #[.bool t, .string c, .string d] 39)) 39 [.bool false, .string ⟨#[]⟩, .string ⟨#[]⟩]
    rw [World.size_alloc, World.size_alloc] at h
    exact h
theorem RB3.on (h : RB3 w s a b t c d X) (g : Below X.heap.size X Y) : RB3 w s a b t c d Y := ⟨h.1.on g, h.2.1.on g, h.2.2.1.on g, h.2.2.2.trans (g.mono h.2.2.2.size)⟩
theorem RB3.drew (h : RB3 w s a b t c d X) : RB3 w s a b t c d X.drew := h.on ((Below.refl _ _).drew)
/-- What the walk looks at. -/
theorem RB3.see (h : RB3 w s a b t c d X) :
    (X.cell? ⟨w.heap.size, 0, none⟩ = some (.bool s) ∧ X.cell? ⟨w.heap.size, 1, none⟩ = some (.string a) ∧ X.cell? ⟨w.heap.size, 2, none⟩ = some (.string b)) ∧
    (X.cell? ⟨w.heap.size + 1, 0, none⟩ = some (.bool t) ∧ X.cell? ⟨w.heap.size + 1, 1, none⟩ = some (.string c) ∧ X.cell? ⟨w.heap.size + 1, 2, none⟩ = some (.string d)) ∧
    (X.cell? ⟨w.heap.size + 2, 0, none⟩ = some (.bool false) ∧ X.cell? ⟨w.heap.size + 2, 1, none⟩ = some (.string ⟨#[]⟩) ∧ X.cell? ⟨w.heap.size + 2, 2, none⟩ = some (.string ⟨#[]⟩)) ∧
    (X.frozen? ⟨w.heap.size, 0, none⟩ = false ∧ X.frozen? ⟨w.heap.size, 1, none⟩ = false ∧ X.frozen? ⟨w.heap.size, 2, none⟩ = false) ∧ (X.frozen? ⟨w.heap.size + 1, 0, none⟩ = false ∧ X.frozen? ⟨w.heap.size + 1, 1, none⟩ = false ∧ X.frozen? ⟨w.heap.size + 1, 2, none⟩ = false) ∧ (X.frozen? ⟨w.heap.size + 2, 0, none⟩ = false ∧ X.frozen? ⟨w.heap.size + 2, 1, none⟩ = false ∧ X.frozen? ⟨w.heap.size + 2, 2, none⟩ = false) :=
  ⟨⟨h.1.cell 0, h.1.cell 1, h.1.cell 2⟩, ⟨h.2.1.cell 0, h.2.1.cell 1, h.2.1.cell 2⟩, ⟨h.2.2.1.cell 0, h.2.2.1.cell 1, h.2.2.1.cell 2⟩, ⟨h.1.free 0, h.1.free 1, h.1.free 2⟩, ⟨h.2.1.free 0, h.2.1.free 1, h.2.1.free 2⟩, ⟨h.2.2.1.free 0, h.2.2.1.free 1, h.2.2.1.free 2⟩⟩
theorem ne01 (n : Nat) : n ≠ n + 1 := by omega
theorem ne02 (n : Nat) : n ≠ n + 2 := by omega
theorem ne12 (n : Nat) : n + 1 ≠ n + 2 := by omega
theorem RB3.same1 (h : RB3 w s a b t c d X) : RB3 w s a b t c d (((X.setCell ⟨w.heap.size, 0, none⟩ (.bool s)).setCell ⟨w.heap.size, 1, none⟩ (.string a)).setCell ⟨w.heap.size, 2, none⟩ (.string b)) :=
  ⟨set3 h.1 _ _ _, ((h.2.1.other _ _ (ne01 _).symm).other _ _ (ne01 _).symm).other _ _ (ne01 _).symm, ((h.2.2.1.other _ _ (ne02 _).symm).other _ _ (ne02 _).symm).other _ _ (ne02 _).symm, bel3 h.2.2.2 (Nat.le_refl _) _ _ _⟩
theorem RB3.same2 (h : RB3 w s a b t c d X) : RB3 w s a b t c d (((X.setCell ⟨w.heap.size + 1, 0, none⟩ (.bool t)).setCell ⟨w.heap.size + 1, 1, none⟩ (.string c)).setCell ⟨w.heap.size + 1, 2, none⟩ (.string d)) :=
  ⟨((h.1.other _ _ (ne01 _)).other _ _ (ne01 _)).other _ _ (ne01 _), set3 h.2.1 _ _ _, ((h.2.2.1.other _ _ (ne12 _).symm).other _ _ (ne12 _).symm).other _ _ (ne12 _).symm, bel3 h.2.2.2 (Nat.le_succ _) _ _ _⟩
theorem RB3.finSee (h : RB3 w s a b t c d X) (u : Bool) (x y : ByteArray) :
    ((((X.setCell ⟨w.heap.size + 2, 0, none⟩ (.bool u)).setCell ⟨w.heap.size + 2, 1, none⟩ (.string x)).setCell ⟨w.heap.size + 2, 2, none⟩ (.string y)).cell? ⟨w.heap.size, 0, none⟩ = some (.bool s) ∧ (((X.setCell ⟨w.heap.size + 2, 0, none⟩ (.bool u)).setCell ⟨w.heap.size + 2, 1, none⟩ (.string x)).setCell ⟨w.heap.size + 2, 2, none⟩ (.string y)).cell? ⟨w.heap.size, 1, none⟩ = some (.string a) ∧ (((X.setCell ⟨w.heap.size + 2, 0, none⟩ (.bool u)).setCell ⟨w.heap.size + 2, 1, none⟩ (.string x)).setCell ⟨w.heap.size + 2, 2, none⟩ (.string y)).cell? ⟨w.heap.size, 2, none⟩ = some (.string b)) ∧
    ((((X.setCell ⟨w.heap.size + 2, 0, none⟩ (.bool u)).setCell ⟨w.heap.size + 2, 1, none⟩ (.string x)).setCell ⟨w.heap.size + 2, 2, none⟩ (.string y)).cell? ⟨w.heap.size + 1, 0, none⟩ = some (.bool t) ∧ (((X.setCell ⟨w.heap.size + 2, 0, none⟩ (.bool u)).setCell ⟨w.heap.size + 2, 1, none⟩ (.string x)).setCell ⟨w.heap.size + 2, 2, none⟩ (.string y)).cell? ⟨w.heap.size + 1, 1, none⟩ = some (.string c) ∧ (((X.setCell ⟨w.heap.size + 2, 0, none⟩ (.bool u)).setCell ⟨w.heap.size + 2, 1, none⟩ (.string x)).setCell ⟨w.heap.size + 2, 2, none⟩ (.string y)).cell? ⟨w.heap.size + 1, 2, none⟩ = some (.string d)) := by
  have h1 : Blk (((X.setCell ⟨w.heap.size + 2, 0, none⟩ (.bool u)).setCell ⟨w.heap.size + 2, 1, none⟩ (.string x)).setCell ⟨w.heap.size + 2, 2, none⟩ (.string y)) w.heap.size 39 [.bool s, .string a, .string b] := ((h.1.other _ _ (ne02 _)).other _ _ (ne02 _)).other _ _ (ne02 _)
  have h2 : Blk (((X.setCell ⟨w.heap.size + 2, 0, none⟩ (.bool u)).setCell ⟨w.heap.size + 2, 1, none⟩ (.string x)).setCell ⟨w.heap.size + 2, 2, none⟩ (.string y)) (w.heap.size + 1) 39 [.bool t, .string c, .string d] := ((h.2.1.other _ _ (ne12 _)).other _ _ (ne12 _)).other _ _ (ne12 _)
  exact ⟨⟨h1.cell 0, h1.cell 1, h1.cell 2⟩, ⟨h2.cell 0, h2.cell 1, h2.cell 2⟩⟩
/-- The result is stored. -/
theorem RB3.fin (h : RB3 w s a b t c d X) (u : Bool) (x y : ByteArray) :
    Blk (((X.setCell ⟨w.heap.size + 2, 0, none⟩ (.bool u)).setCell ⟨w.heap.size + 2, 1, none⟩ (.string x)).setCell ⟨w.heap.size + 2, 2, none⟩ (.string y)) (w.heap.size + 2) 39 [.bool u, .string x, .string y] ∧ Below w.heap.size w (((X.setCell ⟨w.heap.size + 2, 0, none⟩ (.bool u)).setCell ⟨w.heap.size + 2, 1, none⟩ (.string x)).setCell ⟨w.heap.size + 2, 2, none⟩ (.string y)) :=
  ⟨set3 h.2.2.1 _ _ _, bel3 h.2.2.2 (by omega) _ _ _⟩
end

set_option maxRecDepth 100000 in
set_option maxHeartbeats 1000000 in
/-- **ratio.Cmp**, from the contracts of Sub and Sign. -/
theorem Cmp_of (p q r : Rat) (z : Int) (d1 : ∀ w, Calls Tryz.prog 42 #[rv p, rv q] w fun e w' => e = .returned (rv r) ∧ Below w.heap.size w w')
    (d2 : ∀ w, Calls Tryz.prog 49 #[rv r] w fun e w' => e = .returned (.int .i64 z) ∧ Below w.heap.size w w') (w : World) :
    Calls Tryz.prog 47 #[rv p, rv q] w fun e w' => e = .returned (.int .i64 z) ∧ Below w.heap.size w w' := by
  unfold rv at *
  generalize decide (p.num < 0) = s at *
  generalize Enc p.num.natAbs = a at *
  generalize Enc p.den = b at *
  generalize decide (q.num < 0) = t at *
  generalize Enc q.num.natAbs = c at *
  generalize Enc q.den = d at *
  generalize decide (r.num < 0) = u at *
  generalize Enc r.num.natAbs = x at *
  generalize Enc r.den = y at *
  have HB := ((Below.refl w.heap.size w).alloc (Nat.le_refl _) (.cells #[.bool s, .string a, .string b] 39)).alloc (by simp) (.cells #[.bool t, .string c, .string d] 39)
  have D1 := Lib.hid d1; have D2 := Lib.hid d2
  clear d1 d2
  go_enter Tryz.func47, Tryz.ntmps47
  go_wp2_with fail
  refine (D1.out _).mono ?_
  rintro _ w1 ⟨rfl, g1⟩
  go_wp2_with fail
  refine (D2.out _).mono ?_
  rintro _ w2 ⟨rfl, g2⟩
  go_wp2_with fail
  go_ret
  have g3 := g1.trans (g2.mono g1.size)
  exact ⟨rfl, HB.trans (g3.mono HB.size)⟩

set_option maxRecDepth 100000 in
set_option maxHeartbeats 1000000 in
/-- **ratio.Sub**, from the contracts of Neg and Add. -/
theorem Sub_of (p q q' r : Rat) (d1 : ∀ w, Calls Tryz.prog 40 #[rv q] w fun e w' => e = .returned (rv q') ∧ Below w.heap.size w w')
    (d2 : ∀ w, Calls Tryz.prog 37 #[rv p, rv q'] w fun e w' => e = .returned (rv r) ∧ Below w.heap.size w w') (w : World) :
    Calls Tryz.prog 42 #[rv p, rv q] w fun e w' => e = .returned (rv r) ∧ Below w.heap.size w w' := by
  unfold rv at *
  generalize decide (p.num < 0) = s at *
  generalize Enc p.num.natAbs = a at *
  generalize Enc p.den = b at *
  generalize decide (q.num < 0) = t at *
  generalize Enc q.num.natAbs = c at *
  generalize Enc q.den = d at *
  generalize decide (q'.num < 0) = t' at *
  generalize Enc q'.num.natAbs = c' at *
  generalize Enc q'.den = d' at *
  generalize decide (r.num < 0) = u at *
  generalize Enc r.num.natAbs = x at *
  generalize Enc r.den = y at *
  have R := Lib.hid (RB3.start w s a b t c d)
  have D1 := Lib.hid d1; have D2 := Lib.hid d2
  clear d1 d2
  go_enter Tryz.func42, Tryz.ntmps42
  go_upto_region 1 with fail
  generalize ((w.alloc (.cells #[.bool s, .string a, .string b] 39)).alloc (.cells #[.bool t, .string c, .string d] 39)).alloc (.cells #[.bool false, .string ⟨#[]⟩, .string ⟨#[]⟩] 39) = W at *
  obtain ⟨⟨c0, c1, c2⟩, ⟨e0, e1, e2⟩, ⟨i0, i1, i2⟩, ⟨k0, k1, k2⟩, ⟨l0, l1, l2⟩, f0, f1, f2⟩ := R.out.see
  go_region_held3 (fun w' => (w'.cell? ⟨w.heap.size, 0, none⟩ = some (.bool s) ∧ w'.cell? ⟨w.heap.size, 1, none⟩ = some (.string a) ∧ w'.cell? ⟨w.heap.size, 2, none⟩ = some (.string b)) ∧ (w'.cell? ⟨w.heap.size + 1, 0, none⟩ = some (.bool t) ∧ w'.cell? ⟨w.heap.size + 1, 1, none⟩ = some (.string c) ∧ w'.cell? ⟨w.heap.size + 1, 2, none⟩ = some (.string d)))
    (first | exact ⟨r3.see.1, r3.see.2.1⟩ | exact ⟨r2.see.1, r2.see.2.1⟩ | exact r3.finSee u x y | go_keep)
    ((first
      | (go_at_call 40; refine (D1.out _).mono ?_; rintro _ w2 ⟨rfl, h2⟩; have r2 := R.out.drew.on h2)
      | (go_at_call 37; refine (D2.out _).mono ?_; rintro _ w3 ⟨rfl, h3⟩; have r3 := r2.on h3; obtain ⟨-, -, ⟨j0, j1, j2⟩, -, -, ⟨m0, m1, m2⟩⟩ := r3.see)))
  go_wp2_with fail
  exact ret_rat rfl rfl (r3.fin u x y).1 rfl ⟨rfl, (r3.fin u x y).2⟩

#print axioms Sub_of
end Go.Proofs.YtolmjeglaolhlaaGreatDoor
