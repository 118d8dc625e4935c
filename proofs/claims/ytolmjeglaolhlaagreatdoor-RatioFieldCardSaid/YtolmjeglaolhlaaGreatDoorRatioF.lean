/- ratio: Add, Sub, Cmp of numbers. -/
import Derived.Test.YtolmjeglaolhlaaGreatDoorRatioE
namespace Go.Proofs.YtolmjeglaolhlaaGreatDoor
open Go.RowKit Num

set_option maxRecDepth 100000 in
set_option maxHeartbeats 2000000 in
/-- Add, the signs the same. -/
theorem Add_same (s : Bool) (a b : ByteArray) (t : Bool) (c d : ByteArray) (X Y D : ByteArray) (u : Bool) (x y : ByteArray) (w : World)
    (v1 : ∀ w, Calls Tryz.prog 81 #[RV s a b] w fun e w' => e = .returned (RV s a b) ∧ Below w.heap.size w w')
    (v2 : ∀ w, Calls Tryz.prog 81 #[RV t c d] w fun e w' => e = .returned (RV t c d) ∧ Below w.heap.size w w')
    (d1 : ∀ w, Calls Tryz.prog 20 #[.string a, .string d] w fun e w' => e = .returned (.string X) ∧ Below w.heap.size w w')
    (d2 : ∀ w, Calls Tryz.prog 20 #[.string c, .string b] w fun e w' => e = .returned (.string Y) ∧ Below w.heap.size w w')
    (d3 : ∀ w, Calls Tryz.prog 20 #[.string b, .string d] w fun e w' => e = .returned (.string D) ∧ Below w.heap.size w w')
    (Z : ByteArray) (d4 : ∀ w, Calls Tryz.prog 17 #[.string X, .string Y] w fun e w' => e = .returned (.string Z) ∧ Below w.heap.size w w')
    (d5 : ∀ w, Calls Tryz.prog 78 #[.bool s, .string Z, .string D] w fun e w' => e = .returned (RV u x y) ∧ Below w.heap.size w w') (hst : s = t) :
    Calls Tryz.prog 37 #[RV s a b, RV t c d] w fun e w' => e = .returned (RV u x y) ∧ Below w.heap.size w w' := by
  obtain rfl := hst
  have R := Lib.hid (RB3.start w s a b s c d)
  have V1 := Lib.hid v1; have V2 := Lib.hid v2; have D1 := Lib.hid d1; have D2 := Lib.hid d2; have D3 := Lib.hid d3; have D4 := Lib.hid d4; have D5 := Lib.hid d5
  clear v1 v2 d1 d2 d3 d4 d5
  go_enter Tryz.func37, Tryz.ntmps37
  go_upto_region 1 with fail
  generalize ((w.alloc (.cells #[.bool s, .string a, .string b] 39)).alloc (.cells #[.bool s, .string c, .string d] 39)).alloc (.cells #[.bool false, .string ⟨#[]⟩, .string ⟨#[]⟩] 39) = W at *
  go_cut [] from 12 (fun wc => RB3 w s a b s c d wc)
  case first =>
    obtain ⟨⟨c0, c1, c2⟩, ⟨e0, e1, e2⟩, ⟨i0, i1, i2⟩, ⟨k0, k1, k2⟩, ⟨l0, l1, l2⟩, f0, f1, f2⟩ := R.out.see
    go_region_held3 (fun w' => (w'.cell? ⟨w.heap.size, 0, none⟩ = some (.bool s) ∧ w'.cell? ⟨w.heap.size, 1, none⟩ = some (.string a) ∧ w'.cell? ⟨w.heap.size, 2, none⟩ = some (.string b)) ∧ (w'.cell? ⟨w.heap.size + 1, 0, none⟩ = some (.bool s) ∧ w'.cell? ⟨w.heap.size + 1, 1, none⟩ = some (.string c) ∧ w'.cell? ⟨w.heap.size + 1, 2, none⟩ = some (.string d)))
      (first | with_reducible exact ⟨(r3).see.1, (r3).see.2.1⟩ | with_reducible exact ⟨(r3.same1).see.1, (r3.same1).see.2.1⟩ | with_reducible exact ⟨(r3.same2).see.1, (r3.same2).see.2.1⟩ | with_reducible exact ⟨(r3.same1.same2).see.1, (r3.same1.same2).see.2.1⟩ | with_reducible exact ⟨(r3.same2.same1).see.1, (r3.same2.same1).see.2.1⟩ | with_reducible exact ⟨(r2).see.1, (r2).see.2.1⟩ | with_reducible exact ⟨(r2.same1).see.1, (r2.same1).see.2.1⟩ | go_keep)
      ((first
        | (go_at_call 81; with_reducible refine (V1.out _).mono ?_; rintro _ w2 ⟨rfl, h2⟩; have r2 := R.out.drew.on h2; obtain ⟨⟨o0, o1, o2⟩, ⟨q0, q1, q2⟩, -, ⟨m0, m1, m2⟩, ⟨n0, n1, n2⟩, -⟩ := r2.see)
        | (go_at_call 81; with_reducible refine (V2.out _).mono ?_; rintro _ w3 ⟨rfl, h3⟩; have r3 : RB3 w s a b s c d w3 := (by first | with_reducible exact r2.on h3 | with_reducible exact r2.same1.on h3); obtain ⟨⟨o3, o4, o5⟩, ⟨q3, q4, q5⟩, -, ⟨m3, m4, m5⟩, ⟨n3, n4, n5⟩, -⟩ := r3.see)
        | fail))
    all_goals go_wp2_with fail
    all_goals go_meet
    all_goals first | with_reducible exact r3.same1.same2 | with_reducible exact r3.same2.same1 | with_reducible exact r3.same2 | with_reducible exact r3.same1
  case rest =>
    replace R := Lib.hid hcut
    clear hcut
    go_upto_region 2 with fail
    obtain ⟨⟨c0, c1, c2⟩, ⟨e0, e1, e2⟩, ⟨i0, i1, i2⟩, ⟨k0, k1, k2⟩, ⟨l0, l1, l2⟩, f0, f1, f2⟩ := R.out.see
    go_region_held3 (fun w' => (w'.cell? ⟨w.heap.size, 0, none⟩ = some (.bool s) ∧ w'.cell? ⟨w.heap.size, 1, none⟩ = some (.string a) ∧ w'.cell? ⟨w.heap.size, 2, none⟩ = some (.string b)) ∧ (w'.cell? ⟨w.heap.size + 1, 0, none⟩ = some (.bool s) ∧ w'.cell? ⟨w.heap.size + 1, 1, none⟩ = some (.string c) ∧ w'.cell? ⟨w.heap.size + 1, 2, none⟩ = some (.string d)))
      (first | with_reducible exact ⟨r3.see.1, r3.see.2.1⟩ | with_reducible exact ⟨r2.see.1, r2.see.2.1⟩ | go_keep)
      ((first
        | (go_at_call 20; with_reducible refine (D1.out _).mono ?_; rintro _ w2 ⟨rfl, h2⟩; have r2 := R.out.drew.on h2)
        | (go_at_call 20; with_reducible refine (D2.out _).mono ?_; rintro _ w3 ⟨rfl, h3⟩; have r3 := r2.on h3)
        | fail))
    replace R := Lib.hid r3
    clear r2 r3 h2 h3 c0 c1 c2 e0 e1 e2 i0 i1 i2 k0 k1 k2 l0 l1 l2 f0 f1 f2
    obtain ⟨⟨c0, c1, c2⟩, ⟨e0, e1, e2⟩, ⟨i0, i1, i2⟩, ⟨k0, k1, k2⟩, ⟨l0, l1, l2⟩, f0, f1, f2⟩ := R.out.see
    go_wp2_with fail
    refine (D3.out _).mono ?_
    rintro _ w4 ⟨rfl, h4⟩
    replace R := Lib.hid (R.out.on h4)
    clear h4 c0 c1 c2 e0 e1 e2 i0 i1 i2 k0 k1 k2 l0 l1 l2 f0 f1 f2
    obtain ⟨⟨c0, c1, c2⟩, ⟨e0, e1, e2⟩, ⟨i0, i1, i2⟩, ⟨k0, k1, k2⟩, ⟨l0, l1, l2⟩, f0, f1, f2⟩ := R.out.see
    go_upto_region 5 with fail
    go_region_held3 (fun w' => (w'.cell? ⟨w.heap.size, 0, none⟩ = some (.bool s) ∧ w'.cell? ⟨w.heap.size, 1, none⟩ = some (.string a) ∧ w'.cell? ⟨w.heap.size, 2, none⟩ = some (.string b)) ∧ (w'.cell? ⟨w.heap.size + 1, 0, none⟩ = some (.bool s) ∧ w'.cell? ⟨w.heap.size + 1, 1, none⟩ = some (.string c) ∧ w'.cell? ⟨w.heap.size + 1, 2, none⟩ = some (.string d)))
      (first | with_reducible exact ⟨r3.see.1, r3.see.2.1⟩ | with_reducible exact ⟨r2.see.1, r2.see.2.1⟩ | exact r3.finSee u x y | go_keep)
      ((first
        | (go_at_call 17; with_reducible refine (D4.out _).mono ?_; rintro _ w2 ⟨rfl, h2⟩; have r2 := R.out.drew.on h2)
        | (go_at_call 78; with_reducible refine (D5.out _).mono ?_; rintro _ w3 ⟨rfl, h3⟩; have r3 := r2.on h3; obtain ⟨-, -, ⟨j0, j1, j2⟩, -, -, ⟨m0, m1, m2⟩⟩ := r3.see)
        | fail))
    go_wp2_with fail
    exact ret_rat rfl rfl (r3.fin u x y).1 rfl ⟨rfl, (r3.fin u x y).2⟩

set_option maxRecDepth 100000 in
set_option maxHeartbeats 2000000 in
/-- Add, the signs not the same, the first number the greater one. -/
theorem Add_ge (s : Bool) (a b : ByteArray) (t : Bool) (c d : ByteArray) (X Y D : ByteArray) (u : Bool) (x y : ByteArray) (w : World)
    (v1 : ∀ w, Calls Tryz.prog 81 #[RV s a b] w fun e w' => e = .returned (RV s a b) ∧ Below w.heap.size w w')
    (v2 : ∀ w, Calls Tryz.prog 81 #[RV t c d] w fun e w' => e = .returned (RV t c d) ∧ Below w.heap.size w w')
    (d1 : ∀ w, Calls Tryz.prog 20 #[.string a, .string d] w fun e w' => e = .returned (.string X) ∧ Below w.heap.size w w')
    (d2 : ∀ w, Calls Tryz.prog 20 #[.string c, .string b] w fun e w' => e = .returned (.string Y) ∧ Below w.heap.size w w')
    (d3 : ∀ w, Calls Tryz.prog 20 #[.string b, .string d] w fun e w' => e = .returned (.string D) ∧ Below w.heap.size w w')
    (Z : ByteArray) (d4 : ∀ w, Calls Tryz.prog 56 #[.string X, .string Y] w fun e w' => e = .returned (.tuple #[.string Z, .bool true]) ∧ Below w.heap.size w w')
    (d5 : ∀ w, Calls Tryz.prog 78 #[.bool s, .string Z, .string D] w fun e w' => e = .returned (RV u x y) ∧ Below w.heap.size w w') (hst : (s == t) = false) :
    Calls Tryz.prog 37 #[RV s a b, RV t c d] w fun e w' => e = .returned (RV u x y) ∧ Below w.heap.size w w' := by
  have hst' : ¬ s = t := by intro e; subst e; simp at hst
  have R := Lib.hid (RB3.start w s a b t c d)
  have V1 := Lib.hid v1; have V2 := Lib.hid v2; have D1 := Lib.hid d1; have D2 := Lib.hid d2; have D3 := Lib.hid d3; have D4 := Lib.hid d4; have D5 := Lib.hid d5
  clear v1 v2 d1 d2 d3 d4 d5
  go_enter Tryz.func37, Tryz.ntmps37
  go_upto_region 1 with fail
  generalize ((w.alloc (.cells #[.bool s, .string a, .string b] 39)).alloc (.cells #[.bool t, .string c, .string d] 39)).alloc (.cells #[.bool false, .string ⟨#[]⟩, .string ⟨#[]⟩] 39) = W at *
  go_cut [] from 12 (fun wc => RB3 w s a b t c d wc)
  case first =>
    obtain ⟨⟨c0, c1, c2⟩, ⟨e0, e1, e2⟩, ⟨i0, i1, i2⟩, ⟨k0, k1, k2⟩, ⟨l0, l1, l2⟩, f0, f1, f2⟩ := R.out.see
    go_region_held3 (fun w' => (w'.cell? ⟨w.heap.size, 0, none⟩ = some (.bool s) ∧ w'.cell? ⟨w.heap.size, 1, none⟩ = some (.string a) ∧ w'.cell? ⟨w.heap.size, 2, none⟩ = some (.string b)) ∧ (w'.cell? ⟨w.heap.size + 1, 0, none⟩ = some (.bool t) ∧ w'.cell? ⟨w.heap.size + 1, 1, none⟩ = some (.string c) ∧ w'.cell? ⟨w.heap.size + 1, 2, none⟩ = some (.string d)))
      (first | with_reducible exact ⟨(r3).see.1, (r3).see.2.1⟩ | with_reducible exact ⟨(r3.same1).see.1, (r3.same1).see.2.1⟩ | with_reducible exact ⟨(r3.same2).see.1, (r3.same2).see.2.1⟩ | with_reducible exact ⟨(r3.same1.same2).see.1, (r3.same1.same2).see.2.1⟩ | with_reducible exact ⟨(r3.same2.same1).see.1, (r3.same2.same1).see.2.1⟩ | with_reducible exact ⟨(r2).see.1, (r2).see.2.1⟩ | with_reducible exact ⟨(r2.same1).see.1, (r2.same1).see.2.1⟩ | go_keep)
      ((first
        | (go_at_call 81; with_reducible refine (V1.out _).mono ?_; rintro _ w2 ⟨rfl, h2⟩; have r2 := R.out.drew.on h2; obtain ⟨⟨o0, o1, o2⟩, ⟨q0, q1, q2⟩, -, ⟨m0, m1, m2⟩, ⟨n0, n1, n2⟩, -⟩ := r2.see)
        | (go_at_call 81; with_reducible refine (V2.out _).mono ?_; rintro _ w3 ⟨rfl, h3⟩; have r3 : RB3 w s a b t c d w3 := (by first | with_reducible exact r2.on h3 | with_reducible exact r2.same1.on h3); obtain ⟨⟨o3, o4, o5⟩, ⟨q3, q4, q5⟩, -, ⟨m3, m4, m5⟩, ⟨n3, n4, n5⟩, -⟩ := r3.see)
        | fail))
    all_goals go_wp2_with fail
    all_goals go_meet
    all_goals first | with_reducible exact r3.same1.same2 | with_reducible exact r3.same2.same1 | with_reducible exact r3.same2 | with_reducible exact r3.same1
  case rest =>
    replace R := Lib.hid hcut
    clear hcut
    go_upto_region 2 with fail
    obtain ⟨⟨c0, c1, c2⟩, ⟨e0, e1, e2⟩, ⟨i0, i1, i2⟩, ⟨k0, k1, k2⟩, ⟨l0, l1, l2⟩, f0, f1, f2⟩ := R.out.see
    go_region_held3 (fun w' => (w'.cell? ⟨w.heap.size, 0, none⟩ = some (.bool s) ∧ w'.cell? ⟨w.heap.size, 1, none⟩ = some (.string a) ∧ w'.cell? ⟨w.heap.size, 2, none⟩ = some (.string b)) ∧ (w'.cell? ⟨w.heap.size + 1, 0, none⟩ = some (.bool t) ∧ w'.cell? ⟨w.heap.size + 1, 1, none⟩ = some (.string c) ∧ w'.cell? ⟨w.heap.size + 1, 2, none⟩ = some (.string d)))
      (first | with_reducible exact ⟨r3.see.1, r3.see.2.1⟩ | with_reducible exact ⟨r2.see.1, r2.see.2.1⟩ | go_keep)
      ((first
        | (go_at_call 20; with_reducible refine (D1.out _).mono ?_; rintro _ w2 ⟨rfl, h2⟩; have r2 := R.out.drew.on h2)
        | (go_at_call 20; with_reducible refine (D2.out _).mono ?_; rintro _ w3 ⟨rfl, h3⟩; have r3 := r2.on h3)
        | fail))
    replace R := Lib.hid r3
    clear r2 r3 h2 h3 c0 c1 c2 e0 e1 e2 i0 i1 i2 k0 k1 k2 l0 l1 l2 f0 f1 f2
    obtain ⟨⟨c0, c1, c2⟩, ⟨e0, e1, e2⟩, ⟨i0, i1, i2⟩, ⟨k0, k1, k2⟩, ⟨l0, l1, l2⟩, f0, f1, f2⟩ := R.out.see
    go_wp2_with fail
    refine (D3.out _).mono ?_
    rintro _ w4 ⟨rfl, h4⟩
    replace R := Lib.hid (R.out.on h4)
    clear h4 c0 c1 c2 e0 e1 e2 i0 i1 i2 k0 k1 k2 l0 l1 l2 f0 f1 f2
    obtain ⟨⟨c0, c1, c2⟩, ⟨e0, e1, e2⟩, ⟨i0, i1, i2⟩, ⟨k0, k1, k2⟩, ⟨l0, l1, l2⟩, f0, f1, f2⟩ := R.out.see
    go_wp2_with fail
    refine (D4.out _).mono ?_
    rintro _ wn ⟨rfl, hn⟩
    replace R := Lib.hid (R.out.on hn)
    clear hn c0 c1 c2 e0 e1 e2 i0 i1 i2 k0 k1 k2 l0 l1 l2 f0 f1 f2
    obtain ⟨⟨c0, c1, c2⟩, ⟨e0, e1, e2⟩, ⟨i0, i1, i2⟩, ⟨k0, k1, k2⟩, ⟨l0, l1, l2⟩, f0, f1, f2⟩ := R.out.see
    go_wp2_with fail
    refine (D5.out _).mono ?_
    rintro _ wn ⟨rfl, hn⟩
    replace R := Lib.hid (R.out.on hn)
    clear hn c0 c1 c2 e0 e1 e2 i0 i1 i2 k0 k1 k2 l0 l1 l2 f0 f1 f2
    obtain ⟨⟨c0, c1, c2⟩, ⟨e0, e1, e2⟩, ⟨i0, i1, i2⟩, ⟨k0, k1, k2⟩, ⟨l0, l1, l2⟩, f0, f1, f2⟩ := R.out.see
    go_wp2_with fail
    exact ret_rat rfl rfl (R.out.fin u x y).1 rfl ⟨rfl, (R.out.fin u x y).2⟩

set_option maxRecDepth 100000 in
set_option maxHeartbeats 2000000 in
/-- Add, the signs not the same, the second number the greater one. -/
theorem Add_lt (s : Bool) (a b : ByteArray) (t : Bool) (c d : ByteArray) (X Y D : ByteArray) (u : Bool) (x y : ByteArray) (w : World)
    (v1 : ∀ w, Calls Tryz.prog 81 #[RV s a b] w fun e w' => e = .returned (RV s a b) ∧ Below w.heap.size w w')
    (v2 : ∀ w, Calls Tryz.prog 81 #[RV t c d] w fun e w' => e = .returned (RV t c d) ∧ Below w.heap.size w w')
    (d1 : ∀ w, Calls Tryz.prog 20 #[.string a, .string d] w fun e w' => e = .returned (.string X) ∧ Below w.heap.size w w')
    (d2 : ∀ w, Calls Tryz.prog 20 #[.string c, .string b] w fun e w' => e = .returned (.string Y) ∧ Below w.heap.size w w')
    (d3 : ∀ w, Calls Tryz.prog 20 #[.string b, .string d] w fun e w' => e = .returned (.string D) ∧ Below w.heap.size w w')
    (Z Z' : ByteArray) (d4 : ∀ w, Calls Tryz.prog 56 #[.string X, .string Y] w fun e w' => e = .returned (.tuple #[.string Z', .bool false]) ∧ Below w.heap.size w w')
    (d6 : ∀ w, Calls Tryz.prog 56 #[.string Y, .string X] w fun e w' => e = .returned (.tuple #[.string Z, .bool true]) ∧ Below w.heap.size w w')
    (d5 : ∀ w, Calls Tryz.prog 78 #[.bool t, .string Z, .string D] w fun e w' => e = .returned (RV u x y) ∧ Below w.heap.size w w') (hst : (s == t) = false) :
    Calls Tryz.prog 37 #[RV s a b, RV t c d] w fun e w' => e = .returned (RV u x y) ∧ Below w.heap.size w w' := by
  have hst' : ¬ s = t := by intro e; subst e; simp at hst
  have R := Lib.hid (RB3.start w s a b t c d)
  have V1 := Lib.hid v1; have V2 := Lib.hid v2; have D1 := Lib.hid d1; have D2 := Lib.hid d2; have D3 := Lib.hid d3; have D4 := Lib.hid d4; have D6 := Lib.hid d6; have D5 := Lib.hid d5
  clear v1 v2 d1 d2 d3 d4 d6 d5
  go_enter Tryz.func37, Tryz.ntmps37
  go_upto_region 1 with fail
  generalize ((w.alloc (.cells #[.bool s, .string a, .string b] 39)).alloc (.cells #[.bool t, .string c, .string d] 39)).alloc (.cells #[.bool false, .string ⟨#[]⟩, .string ⟨#[]⟩] 39) = W at *
  go_cut [] from 12 (fun wc => RB3 w s a b t c d wc)
  case first =>
    obtain ⟨⟨c0, c1, c2⟩, ⟨e0, e1, e2⟩, ⟨i0, i1, i2⟩, ⟨k0, k1, k2⟩, ⟨l0, l1, l2⟩, f0, f1, f2⟩ := R.out.see
    go_region_held3 (fun w' => (w'.cell? ⟨w.heap.size, 0, none⟩ = some (.bool s) ∧ w'.cell? ⟨w.heap.size, 1, none⟩ = some (.string a) ∧ w'.cell? ⟨w.heap.size, 2, none⟩ = some (.string b)) ∧ (w'.cell? ⟨w.heap.size + 1, 0, none⟩ = some (.bool t) ∧ w'.cell? ⟨w.heap.size + 1, 1, none⟩ = some (.string c) ∧ w'.cell? ⟨w.heap.size + 1, 2, none⟩ = some (.string d)))
      (first | with_reducible exact ⟨(r3).see.1, (r3).see.2.1⟩ | with_reducible exact ⟨(r3.same1).see.1, (r3.same1).see.2.1⟩ | with_reducible exact ⟨(r3.same2).see.1, (r3.same2).see.2.1⟩ | with_reducible exact ⟨(r3.same1.same2).see.1, (r3.same1.same2).see.2.1⟩ | with_reducible exact ⟨(r3.same2.same1).see.1, (r3.same2.same1).see.2.1⟩ | with_reducible exact ⟨(r2).see.1, (r2).see.2.1⟩ | with_reducible exact ⟨(r2.same1).see.1, (r2.same1).see.2.1⟩ | go_keep)
      ((first
        | (go_at_call 81; with_reducible refine (V1.out _).mono ?_; rintro _ w2 ⟨rfl, h2⟩; have r2 := R.out.drew.on h2; obtain ⟨⟨o0, o1, o2⟩, ⟨q0, q1, q2⟩, -, ⟨m0, m1, m2⟩, ⟨n0, n1, n2⟩, -⟩ := r2.see)
        | (go_at_call 81; with_reducible refine (V2.out _).mono ?_; rintro _ w3 ⟨rfl, h3⟩; have r3 : RB3 w s a b t c d w3 := (by first | with_reducible exact r2.on h3 | with_reducible exact r2.same1.on h3); obtain ⟨⟨o3, o4, o5⟩, ⟨q3, q4, q5⟩, -, ⟨m3, m4, m5⟩, ⟨n3, n4, n5⟩, -⟩ := r3.see)
        | fail))
    all_goals go_wp2_with fail
    all_goals go_meet
    all_goals first | with_reducible exact r3.same1.same2 | with_reducible exact r3.same2.same1 | with_reducible exact r3.same2 | with_reducible exact r3.same1
  case rest =>
    replace R := Lib.hid hcut
    clear hcut
    go_upto_region 2 with fail
    obtain ⟨⟨c0, c1, c2⟩, ⟨e0, e1, e2⟩, ⟨i0, i1, i2⟩, ⟨k0, k1, k2⟩, ⟨l0, l1, l2⟩, f0, f1, f2⟩ := R.out.see
    go_region_held3 (fun w' => (w'.cell? ⟨w.heap.size, 0, none⟩ = some (.bool s) ∧ w'.cell? ⟨w.heap.size, 1, none⟩ = some (.string a) ∧ w'.cell? ⟨w.heap.size, 2, none⟩ = some (.string b)) ∧ (w'.cell? ⟨w.heap.size + 1, 0, none⟩ = some (.bool t) ∧ w'.cell? ⟨w.heap.size + 1, 1, none⟩ = some (.string c) ∧ w'.cell? ⟨w.heap.size + 1, 2, none⟩ = some (.string d)))
      (first | with_reducible exact ⟨r3.see.1, r3.see.2.1⟩ | with_reducible exact ⟨r2.see.1, r2.see.2.1⟩ | go_keep)
      ((first
        | (go_at_call 20; with_reducible refine (D1.out _).mono ?_; rintro _ w2 ⟨rfl, h2⟩; have r2 := R.out.drew.on h2)
        | (go_at_call 20; with_reducible refine (D2.out _).mono ?_; rintro _ w3 ⟨rfl, h3⟩; have r3 := r2.on h3)
        | fail))
    replace R := Lib.hid r3
    clear r2 r3 h2 h3 c0 c1 c2 e0 e1 e2 i0 i1 i2 k0 k1 k2 l0 l1 l2 f0 f1 f2
    obtain ⟨⟨c0, c1, c2⟩, ⟨e0, e1, e2⟩, ⟨i0, i1, i2⟩, ⟨k0, k1, k2⟩, ⟨l0, l1, l2⟩, f0, f1, f2⟩ := R.out.see
    go_wp2_with fail
    refine (D3.out _).mono ?_
    rintro _ w4 ⟨rfl, h4⟩
    replace R := Lib.hid (R.out.on h4)
    clear h4 c0 c1 c2 e0 e1 e2 i0 i1 i2 k0 k1 k2 l0 l1 l2 f0 f1 f2
    obtain ⟨⟨c0, c1, c2⟩, ⟨e0, e1, e2⟩, ⟨i0, i1, i2⟩, ⟨k0, k1, k2⟩, ⟨l0, l1, l2⟩, f0, f1, f2⟩ := R.out.see
    go_wp2_with fail
    refine (D4.out _).mono ?_
    rintro _ wn ⟨rfl, hn⟩
    replace R := Lib.hid (R.out.on hn)
    clear hn c0 c1 c2 e0 e1 e2 i0 i1 i2 k0 k1 k2 l0 l1 l2 f0 f1 f2
    obtain ⟨⟨c0, c1, c2⟩, ⟨e0, e1, e2⟩, ⟨i0, i1, i2⟩, ⟨k0, k1, k2⟩, ⟨l0, l1, l2⟩, f0, f1, f2⟩ := R.out.see
    go_wp2_with fail
    refine (D6.out _).mono ?_
    rintro _ wn ⟨rfl, hn⟩
    replace R := Lib.hid (R.out.on hn)
    clear hn c0 c1 c2 e0 e1 e2 i0 i1 i2 k0 k1 k2 l0 l1 l2 f0 f1 f2
    obtain ⟨⟨c0, c1, c2⟩, ⟨e0, e1, e2⟩, ⟨i0, i1, i2⟩, ⟨k0, k1, k2⟩, ⟨l0, l1, l2⟩, f0, f1, f2⟩ := R.out.see
    go_wp2_with fail
    refine (D5.out _).mono ?_
    rintro _ wn ⟨rfl, hn⟩
    replace R := Lib.hid (R.out.on hn)
    clear hn c0 c1 c2 e0 e1 e2 i0 i1 i2 k0 k1 k2 l0 l1 l2 f0 f1 f2
    obtain ⟨⟨c0, c1, c2⟩, ⟨e0, e1, e2⟩, ⟨i0, i1, i2⟩, ⟨k0, k1, k2⟩, ⟨l0, l1, l2⟩, f0, f1, f2⟩ := R.out.see
    go_wp2_with fail
    exact ret_rat rfl rfl (R.out.fin u x y).1 rfl ⟨rfl, (R.out.fin u x y).2⟩

theorem add_mul_lt {a b c d k n : Nat} (ha : a < 256 ^ k) (hb : b < 256 ^ k) (hc : c < 256 ^ k) (hd : d < 256 ^ k) (hk : k + k + 1 ≤ n) : a * b + c * d < 256 ^ n :=
  Nat.lt_of_lt_of_le (add_lt_pow (mul_lt_pow ha hb) (mul_lt_pow hc hd)) (Nat.pow_le_pow_right (by decide) hk)

/-- **ratio.Add** of numbers. -/
theorem Add_q (p q : Rat) (w : World) (hp : Sz 600000 p) (hq : Sz 600000 q) :
    Calls Tryz.prog 37 #[rv p, rv q] w fun e w' => e = .returned (rv (p + q)) ∧ Below w.heap.size w w' := by
  have sp := sz_strs hp; have sq := sz_strs hq
  have hD : p.den * q.den ≠ 0 := Nat.mul_ne_zero p.den_nz q.den_nz
  have hX : p.num.natAbs * q.den < 256 ^ 1200000 := nat_mul_lt (n := 1200000) hp.1 hq.2 (by decide)
  have hY : q.num.natAbs * p.den < 256 ^ 1200000 := nat_mul_lt (n := 1200000) hq.1 hp.2 (by decide)
  have zX := Enc_size_le hX
  have zY := Enc_size_le hY
  have v1 := fun w => value_q p w (hp.mono (by decide))
  have v2 := fun w => value_q q w (hq.mono (by decide))
  have d1 := fun w => Mul_is (Enc (p.num.natAbs * q.den)) (Enc p.num.natAbs) (Enc q.den) w (by omega) (by omega) (by rw [SN_Enc, SN_Enc])
  have d2 := fun w => Mul_is (Enc (q.num.natAbs * p.den)) (Enc q.num.natAbs) (Enc p.den) w (by omega) (by omega) (by rw [SN_Enc, SN_Enc])
  have d3 := fun w => Mul_is (Enc (p.den * q.den)) (Enc p.den) (Enc q.den) w (by omega) (by omega) (by rw [SN_Enc, SN_Enc])
  have lD := nat_mul_lt (n := 268435456) hp.2 hq.2 (by decide)
  by_cases hs : decide (p.num < 0) = decide (q.num < 0)
  · have d4 := fun w => Add_is (Enc (p.num.natAbs * q.den + q.num.natAbs * p.den)) (Enc (p.num.natAbs * q.den)) (Enc (q.num.natAbs * p.den)) w (by omega) (by omega) (by rw [SN_Enc, SN_Enc])
    have d5 := fun w => lowest_any (decide (p.num < 0)) (p.num.natAbs * q.den + q.num.natAbs * p.den) (p.den * q.den) w (add_mul_lt (n := 268435456) hp.1 hq.2 hq.1 hp.2 (by decide)) lD hD
    rw [low_add hs] at d5
    exact Add_same _ _ _ _ _ _ _ _ _ _ _ _ w v1 v2 d1 d2 d3 _ d4 d5 hs
  · have hs' : (decide (p.num < 0) == decide (q.num < 0)) = false := by simpa using hs
    rcases Nat.le_total (q.num.natAbs * p.den) (p.num.natAbs * q.den) with h | h
    · have d4 := fun w => Sub_is (Enc (p.num.natAbs * q.den - q.num.natAbs * p.den)) (Enc (p.num.natAbs * q.den)) (Enc (q.num.natAbs * p.den)) w (by omega) (by omega) (by rw [SN_Enc, SN_Enc]; exact h) (by rw [SN_Enc, SN_Enc])
      have d5 := fun w => lowest_any (decide (p.num < 0)) (p.num.natAbs * q.den - q.num.natAbs * p.den) (p.den * q.den) w (Nat.lt_of_le_of_lt (Nat.sub_le _ _) (nat_mul_lt (n := 268435456) hp.1 hq.2 (by decide))) lD hD
      rw [low_sub hs h] at d5
      exact Add_ge _ _ _ _ _ _ _ _ _ _ _ _ w v1 v2 d1 d2 d3 _ d4 d5 hs'
    · rcases Nat.lt_or_ge (p.num.natAbs * q.den) (q.num.natAbs * p.den) with h2 | h2
      · have d4 := fun w => Sub_gt (Enc (p.num.natAbs * q.den)) (Enc (q.num.natAbs * p.den)) w (by omega) (by omega) (by rw [SN_Enc, SN_Enc]; exact h2)
        have d6 := fun w => Sub_is (Enc (q.num.natAbs * p.den - p.num.natAbs * q.den)) (Enc (q.num.natAbs * p.den)) (Enc (p.num.natAbs * q.den)) w (by omega) (by omega) (by rw [SN_Enc, SN_Enc]; exact h) (by rw [SN_Enc, SN_Enc])
        have d5 := fun w => lowest_any (decide (q.num < 0)) (q.num.natAbs * p.den - p.num.natAbs * q.den) (p.den * q.den) w (Nat.lt_of_le_of_lt (Nat.sub_le _ _) (nat_mul_lt (n := 268435456) hq.1 hp.2 (by decide))) lD hD
        rw [low_sub' hs h] at d5
        exact Add_lt _ _ _ _ _ _ _ _ _ _ _ _ w v1 v2 d1 d2 d3 _ _ d4 d6 d5 hs'
      · have e : p.num.natAbs * q.den = q.num.natAbs * p.den := Nat.le_antisymm h h2
        have d4 := fun w => Sub_is (Enc (p.num.natAbs * q.den - q.num.natAbs * p.den)) (Enc (p.num.natAbs * q.den)) (Enc (q.num.natAbs * p.den)) w (by omega) (by omega) (by rw [SN_Enc, SN_Enc]; exact h2) (by rw [SN_Enc, SN_Enc])
        have d5 := fun w => lowest_any (decide (p.num < 0)) (p.num.natAbs * q.den - q.num.natAbs * p.den) (p.den * q.den) w (Nat.lt_of_le_of_lt (Nat.sub_le _ _) (nat_mul_lt (n := 268435456) hp.1 hq.2 (by decide))) lD hD
        rw [low_sub hs h2] at d5
        exact Add_ge _ _ _ _ _ _ _ _ _ _ _ _ w v1 v2 d1 d2 d3 _ d4 d5 hs'

/-- **ratio.Sub** of numbers. -/
theorem Sub_q (p q : Rat) (w : World) (hp : Sz 600000 p) (hq : Sz 600000 q) :
    Calls Tryz.prog 42 #[rv p, rv q] w fun e w' => e = .returned (rv (p - q)) ∧ Below w.heap.size w w' := by
  rw [Rat.sub_eq_add_neg]
  exact Sub_of p q (-q) _ (fun w => Neg_q q w (hq.mono (by decide))) (fun w => Add_q p (-q) w hp hq.neg) w

/-- **ratio.Cmp** of numbers. -/
theorem Cmp_q (p q : Rat) (w : World) (hp : Sz 600000 p) (hq : Sz 600000 q) :
    Calls Tryz.prog 47 #[rv p, rv q] w fun e w' => e = .returned (.int .i64 (cmpR p q)) ∧ Below w.heap.size w w' :=
  Cmp_of p q (p - q) _ (fun w => Sub_q p q w hp hq) (fun w => Sign_q (p - q) w ((hp.sub hq).mono (by decide))) w

#print axioms Cmp_q
end Go.Proofs.YtolmjeglaolhlaaGreatDoor
