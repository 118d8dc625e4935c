/- sortesref02: Add, Sub, Cmp of numbers. -/
import Derived.Test.YtolmjeglaolhlaaGreatDoorRatioR
namespace Go.Proofs.YtolmjeglaolhlaaGreatDoor
open Go.RowKit Num

theorem cmp_below {w w' : World} (h : w = w') : Below w.heap.size w w' := h ▸ Below.refl _ _

set_option maxRecDepth 100000 in
set_option maxHeartbeats 2000000 in
/-- Add, the signs the same. -/
theorem rAdd_same (s : Bool) (a b : ByteArray) (t : Bool) (c d : ByteArray) (X Y D : ByteArray) (u : Bool) (x y : ByteArray) (w : World)
    (v1 : ∀ w, Calls Tryz.prog 82 #[RV s a b] w fun e w' => e = .returned (RV s a b) ∧ Below w.heap.size w w')
    (v2 : ∀ w, Calls Tryz.prog 82 #[RV t c d] w fun e w' => e = .returned (RV t c d) ∧ Below w.heap.size w w')
    (d1 : ∀ w, Calls Tryz.prog 71 #[.string a, .string d] w fun e w' => e = .returned (.string X) ∧ Below w.heap.size w w')
    (d2 : ∀ w, Calls Tryz.prog 71 #[.string c, .string b] w fun e w' => e = .returned (.string Y) ∧ Below w.heap.size w w')
    (d3 : ∀ w, Calls Tryz.prog 71 #[.string b, .string d] w fun e w' => e = .returned (.string D) ∧ Below w.heap.size w w')
    (Z : ByteArray) (d4 : ∀ w, Calls Tryz.prog 13 #[.string X, .string Y] w fun e w' => e = .returned (.string Z) ∧ Below w.heap.size w w')
    (d5 : ∀ w, Calls Tryz.prog 80 #[.bool s, .string Z, .string D] w fun e w' => e = .returned (RV u x y) ∧ Below w.heap.size w w') (hst : s = t) :
    Calls Tryz.prog 44 #[RV s a b, RV t c d] w fun e w' => e = .returned (RV u x y) ∧ Below w.heap.size w w' := by
  obtain rfl := hst
  have R := Lib.hid (RB3.start w s a b s c d)
  have V1 := Lib.hid v1; have V2 := Lib.hid v2; have D1 := Lib.hid d1; have D2 := Lib.hid d2; have D3 := Lib.hid d3; have D4 := Lib.hid d4; have D5 := Lib.hid d5
  clear v1 v2 d1 d2 d3 d4 d5
  go_enter Tryz.func44, Tryz.ntmps44
  go_upto_region 1 with fail
  generalize ((w.alloc (.cells #[.bool s, .string a, .string b] 39)).alloc (.cells #[.bool s, .string c, .string d] 39)).alloc (.cells #[.bool false, .string ⟨#[]⟩, .string ⟨#[]⟩] 39) = W at *
  obtain ⟨⟨c0, c1, c2⟩, ⟨e0, e1, e2⟩, ⟨i0, i1, i2⟩, ⟨k0, k1, k2⟩, ⟨l0, l1, l2⟩, f0, f1, f2⟩ := R.out.see
  go_wp2_with fail
  refine (V1.out _).mono ?_
  rintro _ w1 ⟨rfl, g1⟩
  replace R := Lib.hid (R.out.on g1)
  clear g1
  clear c0 c1 c2 e0 e1 e2 i0 i1 i2 k0 k1 k2 l0 l1 l2 f0 f1 f2
  obtain ⟨⟨c0, c1, c2⟩, ⟨e0, e1, e2⟩, ⟨i0, i1, i2⟩, ⟨k0, k1, k2⟩, ⟨l0, l1, l2⟩, f0, f1, f2⟩ := R.out.see
  go_upto_region 2 with fail
  replace R := Lib.hid R.out.same1
  clear c0 c1 c2 e0 e1 e2 i0 i1 i2 k0 k1 k2 l0 l1 l2 f0 f1 f2
  generalize ((w1.setCell ⟨w.heap.size, 0, none⟩ (.bool s)).setCell ⟨w.heap.size, 1, none⟩ (.string a)).setCell ⟨w.heap.size, 2, none⟩ (.string b) = X1 at *
  obtain ⟨⟨c0, c1, c2⟩, ⟨e0, e1, e2⟩, ⟨i0, i1, i2⟩, ⟨k0, k1, k2⟩, ⟨l0, l1, l2⟩, f0, f1, f2⟩ := R.out.see
  go_wp2_with fail
  refine (V2.out _).mono ?_
  rintro _ w2 ⟨rfl, g1⟩
  replace R := Lib.hid (R.out.on g1)
  clear g1
  clear c0 c1 c2 e0 e1 e2 i0 i1 i2 k0 k1 k2 l0 l1 l2 f0 f1 f2
  obtain ⟨⟨c0, c1, c2⟩, ⟨e0, e1, e2⟩, ⟨i0, i1, i2⟩, ⟨k0, k1, k2⟩, ⟨l0, l1, l2⟩, f0, f1, f2⟩ := R.out.see
  go_upto_region 3 with fail
  replace R := Lib.hid R.out.same2
  clear c0 c1 c2 e0 e1 e2 i0 i1 i2 k0 k1 k2 l0 l1 l2 f0 f1 f2
  generalize ((w2.setCell ⟨w.heap.size + 1, 0, none⟩ (.bool s)).setCell ⟨w.heap.size + 1, 1, none⟩ (.string c)).setCell ⟨w.heap.size + 1, 2, none⟩ (.string d) = X2 at *
  obtain ⟨⟨c0, c1, c2⟩, ⟨e0, e1, e2⟩, ⟨i0, i1, i2⟩, ⟨k0, k1, k2⟩, ⟨l0, l1, l2⟩, f0, f1, f2⟩ := R.out.see
  go_wp2_with fail
  refine (D1.out _).mono ?_
  rintro _ wn ⟨rfl, hn⟩
  replace R := Lib.hid (R.out.on hn)
  clear hn
  clear c0 c1 c2 e0 e1 e2 i0 i1 i2 k0 k1 k2 l0 l1 l2 f0 f1 f2
  obtain ⟨⟨c0, c1, c2⟩, ⟨e0, e1, e2⟩, ⟨i0, i1, i2⟩, ⟨k0, k1, k2⟩, ⟨l0, l1, l2⟩, f0, f1, f2⟩ := R.out.see
  go_wp2_with fail
  refine (D2.out _).mono ?_
  rintro _ wn ⟨rfl, hn⟩
  replace R := Lib.hid (R.out.on hn)
  clear hn
  clear c0 c1 c2 e0 e1 e2 i0 i1 i2 k0 k1 k2 l0 l1 l2 f0 f1 f2
  obtain ⟨⟨c0, c1, c2⟩, ⟨e0, e1, e2⟩, ⟨i0, i1, i2⟩, ⟨k0, k1, k2⟩, ⟨l0, l1, l2⟩, f0, f1, f2⟩ := R.out.see
  go_wp2_with fail
  refine (D3.out _).mono ?_
  rintro _ wn ⟨rfl, hn⟩
  replace R := Lib.hid (R.out.on hn)
  clear hn
  clear c0 c1 c2 e0 e1 e2 i0 i1 i2 k0 k1 k2 l0 l1 l2 f0 f1 f2
  obtain ⟨⟨c0, c1, c2⟩, ⟨e0, e1, e2⟩, ⟨i0, i1, i2⟩, ⟨k0, k1, k2⟩, ⟨l0, l1, l2⟩, f0, f1, f2⟩ := R.out.see
  go_upto_region 7 with fail
  go_region_held3 (fun w' => (w'.cell? ⟨w.heap.size, 0, none⟩ = some (.bool s) ∧ w'.cell? ⟨w.heap.size, 1, none⟩ = some (.string a) ∧ w'.cell? ⟨w.heap.size, 2, none⟩ = some (.string b)) ∧ (w'.cell? ⟨w.heap.size + 1, 0, none⟩ = some (.bool s) ∧ w'.cell? ⟨w.heap.size + 1, 1, none⟩ = some (.string c) ∧ w'.cell? ⟨w.heap.size + 1, 2, none⟩ = some (.string d)))
    (first | with_reducible exact ⟨r3.see.1, r3.see.2.1⟩ | with_reducible exact ⟨r2.see.1, r2.see.2.1⟩ | exact r3.finSee u x y | go_keep)
    ((first
      | (go_at_call 13; with_reducible refine (D4.out _).mono ?_; rintro _ w2 ⟨rfl, h2⟩; have r2 := R.out.drew.on h2)
      | (go_at_call 80; with_reducible refine (D5.out _).mono ?_; rintro _ w3 ⟨rfl, h3⟩; have r3 := r2.on h3; obtain ⟨-, -, ⟨j0, j1, j2⟩, -, -, ⟨m0, m1, m2⟩⟩ := r3.see)
      | fail))
  go_wp2_with fail
  exact ret_rat rfl rfl (r3.fin u x y).1 rfl ⟨rfl, (r3.fin u x y).2⟩

set_option maxRecDepth 100000 in
set_option maxHeartbeats 2000000 in
/-- Add, the signs not the same, the first number the greater one. -/
theorem rAdd_ge (s : Bool) (a b : ByteArray) (t : Bool) (c d : ByteArray) (X Y D : ByteArray) (u : Bool) (x y : ByteArray) (w : World)
    (v1 : ∀ w, Calls Tryz.prog 82 #[RV s a b] w fun e w' => e = .returned (RV s a b) ∧ Below w.heap.size w w')
    (v2 : ∀ w, Calls Tryz.prog 82 #[RV t c d] w fun e w' => e = .returned (RV t c d) ∧ Below w.heap.size w w')
    (d1 : ∀ w, Calls Tryz.prog 71 #[.string a, .string d] w fun e w' => e = .returned (.string X) ∧ Below w.heap.size w w')
    (d2 : ∀ w, Calls Tryz.prog 71 #[.string c, .string b] w fun e w' => e = .returned (.string Y) ∧ Below w.heap.size w w')
    (d3 : ∀ w, Calls Tryz.prog 71 #[.string b, .string d] w fun e w' => e = .returned (.string D) ∧ Below w.heap.size w w')
    (z : Int) (hz : 0 ≤ z) (Z : ByteArray) (d6 : ∀ w, Calls Tryz.prog 84 #[.string X, .string Y] w fun e w' => e = .returned (.int .i64 z) ∧ Below w.heap.size w w')
    (d4 : ∀ w, Calls Tryz.prog 92 #[.string X, .string Y] w fun e w' => e = .returned (.tuple #[.string Z, .bool true]) ∧ Below w.heap.size w w')
    (d5 : ∀ w, Calls Tryz.prog 80 #[.bool s, .string Z, .string D] w fun e w' => e = .returned (RV u x y) ∧ Below w.heap.size w w') (hst : (s == t) = false) :
    Calls Tryz.prog 44 #[RV s a b, RV t c d] w fun e w' => e = .returned (RV u x y) ∧ Below w.heap.size w w' := by
  have hst' : ¬ s = t := by intro e; subst e; simp at hst
  have R := Lib.hid (RB3.start w s a b t c d)
  have V1 := Lib.hid v1; have V2 := Lib.hid v2; have D1 := Lib.hid d1; have D2 := Lib.hid d2; have D3 := Lib.hid d3; have D6 := Lib.hid d6; have D4 := Lib.hid d4; have D5 := Lib.hid d5
  clear v1 v2 d1 d2 d3 d6 d4 d5
  go_enter Tryz.func44, Tryz.ntmps44
  go_upto_region 1 with fail
  generalize ((w.alloc (.cells #[.bool s, .string a, .string b] 39)).alloc (.cells #[.bool t, .string c, .string d] 39)).alloc (.cells #[.bool false, .string ⟨#[]⟩, .string ⟨#[]⟩] 39) = W at *
  obtain ⟨⟨c0, c1, c2⟩, ⟨e0, e1, e2⟩, ⟨i0, i1, i2⟩, ⟨k0, k1, k2⟩, ⟨l0, l1, l2⟩, f0, f1, f2⟩ := R.out.see
  go_wp2_with fail
  refine (V1.out _).mono ?_
  rintro _ w1 ⟨rfl, g1⟩
  replace R := Lib.hid (R.out.on g1)
  clear g1
  clear c0 c1 c2 e0 e1 e2 i0 i1 i2 k0 k1 k2 l0 l1 l2 f0 f1 f2
  obtain ⟨⟨c0, c1, c2⟩, ⟨e0, e1, e2⟩, ⟨i0, i1, i2⟩, ⟨k0, k1, k2⟩, ⟨l0, l1, l2⟩, f0, f1, f2⟩ := R.out.see
  go_upto_region 2 with fail
  replace R := Lib.hid R.out.same1
  clear c0 c1 c2 e0 e1 e2 i0 i1 i2 k0 k1 k2 l0 l1 l2 f0 f1 f2
  generalize ((w1.setCell ⟨w.heap.size, 0, none⟩ (.bool s)).setCell ⟨w.heap.size, 1, none⟩ (.string a)).setCell ⟨w.heap.size, 2, none⟩ (.string b) = X1 at *
  obtain ⟨⟨c0, c1, c2⟩, ⟨e0, e1, e2⟩, ⟨i0, i1, i2⟩, ⟨k0, k1, k2⟩, ⟨l0, l1, l2⟩, f0, f1, f2⟩ := R.out.see
  go_wp2_with fail
  refine (V2.out _).mono ?_
  rintro _ w2 ⟨rfl, g1⟩
  replace R := Lib.hid (R.out.on g1)
  clear g1
  clear c0 c1 c2 e0 e1 e2 i0 i1 i2 k0 k1 k2 l0 l1 l2 f0 f1 f2
  obtain ⟨⟨c0, c1, c2⟩, ⟨e0, e1, e2⟩, ⟨i0, i1, i2⟩, ⟨k0, k1, k2⟩, ⟨l0, l1, l2⟩, f0, f1, f2⟩ := R.out.see
  go_upto_region 3 with fail
  replace R := Lib.hid R.out.same2
  clear c0 c1 c2 e0 e1 e2 i0 i1 i2 k0 k1 k2 l0 l1 l2 f0 f1 f2
  generalize ((w2.setCell ⟨w.heap.size + 1, 0, none⟩ (.bool t)).setCell ⟨w.heap.size + 1, 1, none⟩ (.string c)).setCell ⟨w.heap.size + 1, 2, none⟩ (.string d) = X2 at *
  obtain ⟨⟨c0, c1, c2⟩, ⟨e0, e1, e2⟩, ⟨i0, i1, i2⟩, ⟨k0, k1, k2⟩, ⟨l0, l1, l2⟩, f0, f1, f2⟩ := R.out.see
  go_wp2_with fail
  refine (D1.out _).mono ?_
  rintro _ wn ⟨rfl, hn⟩
  replace R := Lib.hid (R.out.on hn)
  clear hn
  clear c0 c1 c2 e0 e1 e2 i0 i1 i2 k0 k1 k2 l0 l1 l2 f0 f1 f2
  obtain ⟨⟨c0, c1, c2⟩, ⟨e0, e1, e2⟩, ⟨i0, i1, i2⟩, ⟨k0, k1, k2⟩, ⟨l0, l1, l2⟩, f0, f1, f2⟩ := R.out.see
  go_wp2_with fail
  refine (D2.out _).mono ?_
  rintro _ wn ⟨rfl, hn⟩
  replace R := Lib.hid (R.out.on hn)
  clear hn
  clear c0 c1 c2 e0 e1 e2 i0 i1 i2 k0 k1 k2 l0 l1 l2 f0 f1 f2
  obtain ⟨⟨c0, c1, c2⟩, ⟨e0, e1, e2⟩, ⟨i0, i1, i2⟩, ⟨k0, k1, k2⟩, ⟨l0, l1, l2⟩, f0, f1, f2⟩ := R.out.see
  go_wp2_with fail
  refine (D3.out _).mono ?_
  rintro _ wn ⟨rfl, hn⟩
  replace R := Lib.hid (R.out.on hn)
  clear hn
  clear c0 c1 c2 e0 e1 e2 i0 i1 i2 k0 k1 k2 l0 l1 l2 f0 f1 f2
  obtain ⟨⟨c0, c1, c2⟩, ⟨e0, e1, e2⟩, ⟨i0, i1, i2⟩, ⟨k0, k1, k2⟩, ⟨l0, l1, l2⟩, f0, f1, f2⟩ := R.out.see
  go_wp2_with fail
  refine (D6.out _).mono ?_
  rintro _ wn ⟨rfl, hn⟩
  replace R := Lib.hid (R.out.on hn)
  clear hn
  clear c0 c1 c2 e0 e1 e2 i0 i1 i2 k0 k1 k2 l0 l1 l2 f0 f1 f2
  obtain ⟨⟨c0, c1, c2⟩, ⟨e0, e1, e2⟩, ⟨i0, i1, i2⟩, ⟨k0, k1, k2⟩, ⟨l0, l1, l2⟩, f0, f1, f2⟩ := R.out.see
  go_wp2_with fail
  refine (D4.out _).mono ?_
  rintro _ wn ⟨rfl, hn⟩
  replace R := Lib.hid (R.out.on hn)
  clear hn
  clear c0 c1 c2 e0 e1 e2 i0 i1 i2 k0 k1 k2 l0 l1 l2 f0 f1 f2
  obtain ⟨⟨c0, c1, c2⟩, ⟨e0, e1, e2⟩, ⟨i0, i1, i2⟩, ⟨k0, k1, k2⟩, ⟨l0, l1, l2⟩, f0, f1, f2⟩ := R.out.see
  go_wp2_with fail
  refine (D5.out _).mono ?_
  rintro _ wn ⟨rfl, hn⟩
  replace R := Lib.hid (R.out.on hn)
  clear hn
  clear c0 c1 c2 e0 e1 e2 i0 i1 i2 k0 k1 k2 l0 l1 l2 f0 f1 f2
  obtain ⟨⟨c0, c1, c2⟩, ⟨e0, e1, e2⟩, ⟨i0, i1, i2⟩, ⟨k0, k1, k2⟩, ⟨l0, l1, l2⟩, f0, f1, f2⟩ := R.out.see
  go_wp2_with fail
  exact ret_rat rfl rfl (R.out.fin u x y).1 rfl ⟨rfl, (R.out.fin u x y).2⟩

set_option maxRecDepth 100000 in
set_option maxHeartbeats 2000000 in
/-- Add, the signs not the same, the second number the greater one. -/
theorem rAdd_lt (s : Bool) (a b : ByteArray) (t : Bool) (c d : ByteArray) (X Y D : ByteArray) (u : Bool) (x y : ByteArray) (w : World)
    (v1 : ∀ w, Calls Tryz.prog 82 #[RV s a b] w fun e w' => e = .returned (RV s a b) ∧ Below w.heap.size w w')
    (v2 : ∀ w, Calls Tryz.prog 82 #[RV t c d] w fun e w' => e = .returned (RV t c d) ∧ Below w.heap.size w w')
    (d1 : ∀ w, Calls Tryz.prog 71 #[.string a, .string d] w fun e w' => e = .returned (.string X) ∧ Below w.heap.size w w')
    (d2 : ∀ w, Calls Tryz.prog 71 #[.string c, .string b] w fun e w' => e = .returned (.string Y) ∧ Below w.heap.size w w')
    (d3 : ∀ w, Calls Tryz.prog 71 #[.string b, .string d] w fun e w' => e = .returned (.string D) ∧ Below w.heap.size w w')
    (z : Int) (hz : z < 0) (Z : ByteArray) (d6 : ∀ w, Calls Tryz.prog 84 #[.string X, .string Y] w fun e w' => e = .returned (.int .i64 z) ∧ Below w.heap.size w w')
    (d4 : ∀ w, Calls Tryz.prog 92 #[.string Y, .string X] w fun e w' => e = .returned (.tuple #[.string Z, .bool true]) ∧ Below w.heap.size w w')
    (d5 : ∀ w, Calls Tryz.prog 80 #[.bool t, .string Z, .string D] w fun e w' => e = .returned (RV u x y) ∧ Below w.heap.size w w') (hst : (s == t) = false) :
    Calls Tryz.prog 44 #[RV s a b, RV t c d] w fun e w' => e = .returned (RV u x y) ∧ Below w.heap.size w w' := by
  have hst' : ¬ s = t := by intro e; subst e; simp at hst
  have R := Lib.hid (RB3.start w s a b t c d)
  have V1 := Lib.hid v1; have V2 := Lib.hid v2; have D1 := Lib.hid d1; have D2 := Lib.hid d2; have D3 := Lib.hid d3; have D6 := Lib.hid d6; have D4 := Lib.hid d4; have D5 := Lib.hid d5
  clear v1 v2 d1 d2 d3 d6 d4 d5
  go_enter Tryz.func44, Tryz.ntmps44
  go_upto_region 1 with fail
  generalize ((w.alloc (.cells #[.bool s, .string a, .string b] 39)).alloc (.cells #[.bool t, .string c, .string d] 39)).alloc (.cells #[.bool false, .string ⟨#[]⟩, .string ⟨#[]⟩] 39) = W at *
  obtain ⟨⟨c0, c1, c2⟩, ⟨e0, e1, e2⟩, ⟨i0, i1, i2⟩, ⟨k0, k1, k2⟩, ⟨l0, l1, l2⟩, f0, f1, f2⟩ := R.out.see
  go_wp2_with fail
  refine (V1.out _).mono ?_
  rintro _ w1 ⟨rfl, g1⟩
  replace R := Lib.hid (R.out.on g1)
  clear g1
  clear c0 c1 c2 e0 e1 e2 i0 i1 i2 k0 k1 k2 l0 l1 l2 f0 f1 f2
  obtain ⟨⟨c0, c1, c2⟩, ⟨e0, e1, e2⟩, ⟨i0, i1, i2⟩, ⟨k0, k1, k2⟩, ⟨l0, l1, l2⟩, f0, f1, f2⟩ := R.out.see
  go_upto_region 2 with fail
  replace R := Lib.hid R.out.same1
  clear c0 c1 c2 e0 e1 e2 i0 i1 i2 k0 k1 k2 l0 l1 l2 f0 f1 f2
  generalize ((w1.setCell ⟨w.heap.size, 0, none⟩ (.bool s)).setCell ⟨w.heap.size, 1, none⟩ (.string a)).setCell ⟨w.heap.size, 2, none⟩ (.string b) = X1 at *
  obtain ⟨⟨c0, c1, c2⟩, ⟨e0, e1, e2⟩, ⟨i0, i1, i2⟩, ⟨k0, k1, k2⟩, ⟨l0, l1, l2⟩, f0, f1, f2⟩ := R.out.see
  go_wp2_with fail
  refine (V2.out _).mono ?_
  rintro _ w2 ⟨rfl, g1⟩
  replace R := Lib.hid (R.out.on g1)
  clear g1
  clear c0 c1 c2 e0 e1 e2 i0 i1 i2 k0 k1 k2 l0 l1 l2 f0 f1 f2
  obtain ⟨⟨c0, c1, c2⟩, ⟨e0, e1, e2⟩, ⟨i0, i1, i2⟩, ⟨k0, k1, k2⟩, ⟨l0, l1, l2⟩, f0, f1, f2⟩ := R.out.see
  go_upto_region 3 with fail
  replace R := Lib.hid R.out.same2
  clear c0 c1 c2 e0 e1 e2 i0 i1 i2 k0 k1 k2 l0 l1 l2 f0 f1 f2
  generalize ((w2.setCell ⟨w.heap.size + 1, 0, none⟩ (.bool t)).setCell ⟨w.heap.size + 1, 1, none⟩ (.string c)).setCell ⟨w.heap.size + 1, 2, none⟩ (.string d) = X2 at *
  obtain ⟨⟨c0, c1, c2⟩, ⟨e0, e1, e2⟩, ⟨i0, i1, i2⟩, ⟨k0, k1, k2⟩, ⟨l0, l1, l2⟩, f0, f1, f2⟩ := R.out.see
  go_wp2_with fail
  refine (D1.out _).mono ?_
  rintro _ wn ⟨rfl, hn⟩
  replace R := Lib.hid (R.out.on hn)
  clear hn
  clear c0 c1 c2 e0 e1 e2 i0 i1 i2 k0 k1 k2 l0 l1 l2 f0 f1 f2
  obtain ⟨⟨c0, c1, c2⟩, ⟨e0, e1, e2⟩, ⟨i0, i1, i2⟩, ⟨k0, k1, k2⟩, ⟨l0, l1, l2⟩, f0, f1, f2⟩ := R.out.see
  go_wp2_with fail
  refine (D2.out _).mono ?_
  rintro _ wn ⟨rfl, hn⟩
  replace R := Lib.hid (R.out.on hn)
  clear hn
  clear c0 c1 c2 e0 e1 e2 i0 i1 i2 k0 k1 k2 l0 l1 l2 f0 f1 f2
  obtain ⟨⟨c0, c1, c2⟩, ⟨e0, e1, e2⟩, ⟨i0, i1, i2⟩, ⟨k0, k1, k2⟩, ⟨l0, l1, l2⟩, f0, f1, f2⟩ := R.out.see
  go_wp2_with fail
  refine (D3.out _).mono ?_
  rintro _ wn ⟨rfl, hn⟩
  replace R := Lib.hid (R.out.on hn)
  clear hn
  clear c0 c1 c2 e0 e1 e2 i0 i1 i2 k0 k1 k2 l0 l1 l2 f0 f1 f2
  obtain ⟨⟨c0, c1, c2⟩, ⟨e0, e1, e2⟩, ⟨i0, i1, i2⟩, ⟨k0, k1, k2⟩, ⟨l0, l1, l2⟩, f0, f1, f2⟩ := R.out.see
  go_wp2_with fail
  refine (D6.out _).mono ?_
  rintro _ wn ⟨rfl, hn⟩
  replace R := Lib.hid (R.out.on hn)
  clear hn
  clear c0 c1 c2 e0 e1 e2 i0 i1 i2 k0 k1 k2 l0 l1 l2 f0 f1 f2
  obtain ⟨⟨c0, c1, c2⟩, ⟨e0, e1, e2⟩, ⟨i0, i1, i2⟩, ⟨k0, k1, k2⟩, ⟨l0, l1, l2⟩, f0, f1, f2⟩ := R.out.see
  go_wp2_with fail
  refine (D4.out _).mono ?_
  rintro _ wn ⟨rfl, hn⟩
  replace R := Lib.hid (R.out.on hn)
  clear hn
  clear c0 c1 c2 e0 e1 e2 i0 i1 i2 k0 k1 k2 l0 l1 l2 f0 f1 f2
  obtain ⟨⟨c0, c1, c2⟩, ⟨e0, e1, e2⟩, ⟨i0, i1, i2⟩, ⟨k0, k1, k2⟩, ⟨l0, l1, l2⟩, f0, f1, f2⟩ := R.out.see
  go_wp2_with fail
  refine (D5.out _).mono ?_
  rintro _ wn ⟨rfl, hn⟩
  replace R := Lib.hid (R.out.on hn)
  clear hn
  clear c0 c1 c2 e0 e1 e2 i0 i1 i2 k0 k1 k2 l0 l1 l2 f0 f1 f2
  obtain ⟨⟨c0, c1, c2⟩, ⟨e0, e1, e2⟩, ⟨i0, i1, i2⟩, ⟨k0, k1, k2⟩, ⟨l0, l1, l2⟩, f0, f1, f2⟩ := R.out.see
  go_wp2_with fail
  exact ret_rat rfl rfl (R.out.fin u x y).1 rfl ⟨rfl, (R.out.fin u x y).2⟩

/-- **sortesref02.Add** of numbers. -/
theorem rAdd_q (p q : Rat) (w : World) (hp : Sz 600000 p) (hq : Sz 600000 q) :
    Calls Tryz.prog 44 #[rv p, rv q] w fun e w' => e = .returned (rv (p + q)) ∧ Below w.heap.size w w' := by
  have sp := sz_strs hp; have sq := sz_strs hq
  have hD : p.den * q.den ≠ 0 := Nat.mul_ne_zero p.den_nz q.den_nz
  have hX : p.num.natAbs * q.den < 256 ^ 1200000 := nat_mul_lt (n := 1200000) hp.1 hq.2 (by decide)
  have hY : q.num.natAbs * p.den < 256 ^ 1200000 := nat_mul_lt (n := 1200000) hq.1 hp.2 (by decide)
  have zX := Enc_size_le hX
  have zY := Enc_size_le hY
  have v1 := fun w => rvalue_q p w (hp.mono (by decide))
  have v2 := fun w => rvalue_q q w (hq.mono (by decide))
  have d1 := fun w => RMul_is (Enc (p.num.natAbs * q.den)) (Enc p.num.natAbs) (Enc q.den) w (by omega) (by omega) (by rw [SN_Enc, SN_Enc])
  have d2 := fun w => RMul_is (Enc (q.num.natAbs * p.den)) (Enc q.num.natAbs) (Enc p.den) w (by omega) (by omega) (by rw [SN_Enc, SN_Enc])
  have d3 := fun w => RMul_is (Enc (p.den * q.den)) (Enc p.den) (Enc q.den) w (by omega) (by omega) (by rw [SN_Enc, SN_Enc])
  have lD := nat_mul_lt (n := 2000000) hp.2 hq.2 (by decide)
  by_cases hs : decide (p.num < 0) = decide (q.num < 0)
  · have d4 := fun w => RAdd_is (Enc (p.num.natAbs * q.den + q.num.natAbs * p.den)) (Enc (p.num.natAbs * q.den)) (Enc (q.num.natAbs * p.den)) w (by omega) (by omega) (by rw [SN_Enc, SN_Enc])
    have d5 := fun w => rlowest_any (decide (p.num < 0)) (p.num.natAbs * q.den + q.num.natAbs * p.den) (p.den * q.den) w (add_mul_lt (n := 2000000) hp.1 hq.2 hq.1 hp.2 (by decide)) lD hD
    rw [low_add hs] at d5
    exact rAdd_same _ _ _ _ _ _ _ _ _ _ _ _ w v1 v2 d1 d2 d3 _ d4 d5 hs
  · have hs' : (decide (p.num < 0) == decide (q.num < 0)) = false := by simpa using hs
    rcases Nat.lt_or_ge (p.num.natAbs * q.den) (q.num.natAbs * p.den) with h2 | h
    · have hc : cmpZ (p.num.natAbs * q.den) (q.num.natAbs * p.den) < 0 := by unfold cmpZ; rw [if_pos h2]; decide
      have d6 := fun w => RCmp_is _ (Enc (p.num.natAbs * q.den)) (Enc (q.num.natAbs * p.den)) w (by omega) (by omega) rfl
      rw [SN_Enc, SN_Enc] at d6
      have d6' := fun w => (d6 w).mono (fun e w' (h : _ ∧ _) => And.intro h.1 (cmp_below h.2))
      have h := Nat.le_of_lt h2
      have d4 := fun w => RSub_is (Enc (q.num.natAbs * p.den - p.num.natAbs * q.den)) true (Enc (q.num.natAbs * p.den)) (Enc (p.num.natAbs * q.den)) w (by omega) (by omega) (by rw [SN_Enc, SN_Enc]; unfold subStr; rw [if_pos h]) (by rw [SN_Enc, SN_Enc]; exact decide_eq_true h)
      have d5 := fun w => rlowest_any (decide (q.num < 0)) (q.num.natAbs * p.den - p.num.natAbs * q.den) (p.den * q.den) w (Nat.lt_of_le_of_lt (Nat.sub_le _ _) (nat_mul_lt (n := 2000000) hq.1 hp.2 (by decide))) lD hD
      rw [low_sub' hs h] at d5
      exact rAdd_lt _ _ _ _ _ _ _ _ _ _ _ _ w v1 v2 d1 d2 d3 _ hc _ d6' d4 d5 hs'
    · have hc : 0 ≤ cmpZ (p.num.natAbs * q.den) (q.num.natAbs * p.den) := by unfold cmpZ; rw [if_neg (Nat.not_lt.2 h)]; split <;> decide
      have d6 := fun w => RCmp_is _ (Enc (p.num.natAbs * q.den)) (Enc (q.num.natAbs * p.den)) w (by omega) (by omega) rfl
      rw [SN_Enc, SN_Enc] at d6
      have d6' := fun w => (d6 w).mono (fun e w' (h : _ ∧ _) => And.intro h.1 (cmp_below h.2))
      have d4 := fun w => RSub_is (Enc (p.num.natAbs * q.den - q.num.natAbs * p.den)) true (Enc (p.num.natAbs * q.den)) (Enc (q.num.natAbs * p.den)) w (by omega) (by omega) (by rw [SN_Enc, SN_Enc]; unfold subStr; rw [if_pos h]) (by rw [SN_Enc, SN_Enc]; exact decide_eq_true h)
      have d5 := fun w => rlowest_any (decide (p.num < 0)) (p.num.natAbs * q.den - q.num.natAbs * p.den) (p.den * q.den) w (Nat.lt_of_le_of_lt (Nat.sub_le _ _) (nat_mul_lt (n := 2000000) hp.1 hq.2 (by decide))) lD hD
      rw [low_sub hs h] at d5
      exact rAdd_ge _ _ _ _ _ _ _ _ _ _ _ _ w v1 v2 d1 d2 d3 _ hc _ d6' d4 d5 hs'

/-- **sortesref02.Sub** of numbers. -/
theorem rSub_q (p q : Rat) (w : World) (hp : Sz 600000 p) (hq : Sz 600000 q) :
    Calls Tryz.prog 45 #[rv p, rv q] w fun e w' => e = .returned (rv (p - q)) ∧ Below w.heap.size w w' := by
  rw [Rat.sub_eq_add_neg]
  exact rSub_of p q (-q) _ (fun w => rNeg_q q w (hq.mono (by decide))) (fun w => rAdd_q p (-q) w hp hq.neg) w

/-- **sortesref02.Cmp** of numbers. -/
theorem rCmp_q (p q : Rat) (w : World) (hp : Sz 600000 p) (hq : Sz 600000 q) :
    Calls Tryz.prog 48 #[rv p, rv q] w fun e w' => e = .returned (.int .i64 (cmpR p q)) ∧ Below w.heap.size w w' :=
  rCmp_of p q (p - q) _ (fun w => rSub_q p q w hp hq) (fun w => rSign_q (p - q) w ((hp.sub hq).mono (by decide))) w

#print axioms rCmp_q
end Go.Proofs.YtolmjeglaolhlaaGreatDoor
