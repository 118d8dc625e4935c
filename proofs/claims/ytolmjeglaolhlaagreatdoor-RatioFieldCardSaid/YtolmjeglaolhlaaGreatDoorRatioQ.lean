/- sorteslaw02.sanity: the walk. -/
import Derived.Test.YtolmjeglaolhlaaGreatDoorRatioP
namespace Go.Proofs.YtolmjeglaolhlaaGreatDoor
open Go.RowKit Num

theorem ofn (z : Int) (n : Nat) (h : z.toNat = n) (h2 : z ≤ 9223372036854775807) (w : World) :
    Calls Tryz.prog 16 #[.int .i64 z] w fun e w' => e = .returned (.string (Enc n)) ∧ Below w.heap.size w w' := by rw [← h]; exact ROfN_any z w h2

theorem frac_lit (m z : Int) (n : Nat) (hz : z = (n : Int)) (w : World) (h1 : -9223372036854775808 ≤ m) (h2 : m ≤ 9223372036854775807) (h4 : n ≤ 9223372036854775807) (h0 : n ≠ 0) :
    Calls Tryz.prog 75 #[.int .i64 m, .int .i64 z] w fun e w' => e = .returned (rv (mkRat m n)) ∧ Below w.heap.size w w' := by
  subst hz; exact frac_mk m n w h1 h2 h4 h0

/-- Three numbers laid in memory. -/
theorem slr3 (w : World) (q0 q1 q2 : Rat) (s0 s1 s2 : Bool) (a0 b0 a1 b1 a2 b2 : ByteArray) (h0 : rv q0 = RV s0 a0 b0) (h1 : rv q1 = RV s1 a1 b1) (h2 : rv q2 = RV s2 a2 b2) :
    SlR (w.alloc (.cells #[.bool s0, .string a0, .string b0, .bool s1, .string a1, .string b1, .bool s2, .string a2, .string b2] 39)) (.slice (some ⟨w.heap.size, 0, none⟩) 3 3) [q0, q1, q2] := by
  obtain ⟨rfl, rfl, rfl⟩ := RV_inj h0
  obtain ⟨rfl, rfl, rfl⟩ := RV_inj h1
  obtain ⟨rfl, rfl, rfl⟩ := RV_inj h2
  have hb := Blk.new w 39 [.bool (decide (q0.num < 0)), .string (Enc q0.num.natAbs), .string (Enc q0.den), .bool (decide (q1.num < 0)), .string (Enc q1.num.natAbs), .string (Enc q1.den), .bool (decide (q2.num < 0)), .string (Enc q2.num.natAbs), .string (Enc q2.den)]
  refine ⟨_, 3, rfl, Nat.le_refl 3, by decide, fun _ => ⟨w.heap.size, 0, rfl, hb.lt, fun i hi => ?_⟩⟩
  match i, hi with
  | 0, _ => exact ⟨hb.cell 0, hb.cell 1, hb.cell 2⟩
  | 1, _ => exact ⟨hb.cell 3, hb.cell 4, hb.cell 5⟩
  | 2, _ => exact ⟨hb.cell 6, hb.cell 7, hb.cell 8⟩

/-- Three strings laid in memory. -/
theorem strs3 (w : World) (a b c : ByteArray) : StrS (w.alloc (.cells #[.string a, .string b, .string c] 24)) (.slice (some ⟨w.heap.size, 0, none⟩) 3 3) [a, b, c] := by
  have hb := Blk.new w 24 [.string a, .string b, .string c]
  refine ⟨_, 3, rfl, Nat.le_refl 3, by decide, fun _ => ⟨w.heap.size, 0, rfl, hb.lt, fun i hi => ?_⟩⟩
  match i, hi with
  | 0, _ => exact hb.cell 0
  | 1, _ => exact hb.cell 1
  | 2, _ => exact hb.cell 2

theorem undr {W X : World} (h : Below W.drew.heap.size W.drew X) : Below W.heap.size W X := (Below.refl W.heap.size W).drew.trans h
theorem StrS.on {W X : World} {v : Value} {ss : List ByteArray} (h : StrS W v ss) (g : Below W.heap.size W X) : StrS X v ss := h.below g

set_option maxRecDepth 100000 in
set_option maxHeartbeats 4000000 in
/-- **sorteslaw02.sanity** answers yes. -/
theorem sanity2_any (w : World) (he : Env w) :
    Calls Tryz.prog 21 #[] w fun e w' => e = .returned (.bool true) ∧ Below w.heap.size w w' := by
  have k64 := fun w => Make_e true 6 4 w (lt_pow_le (k := 1) (n := 268435456) (by decide) (by decide)) (lt_pow_le (k := 1) (n := 268435456) (by decide) (by decide)) (by decide)
  rw [ex_make] at k64
  have kz := fun w => Make_z false (Enc 1) w
  have kq := fun w => Quo_q (mkRat 1 2) (mkRat (-1) 4) w ((ex_sz 1 2 (by decide) (by decide) (by decide)).mono (by decide)) ((ex_sz (-1) 4 (by decide) (by decide) (by decide)).mono (by decide)) (by decide +kernel)
  rw [ex_quo] at kq
  have ka := fun w => Add_q (mkRat 1 2) (mkRat (-1) 3) w ((ex_sz 1 2 (by decide) (by decide) (by decide)).mono (by decide)) ((ex_sz (-1) 3 (by decide) (by decide) (by decide)).mono (by decide))
  rw [ex_add] at ka
  have kt := fun w' (h : Env w') => Text_q (mkRat (-3) 2) w' ((ex_sz (-3) 2 (by decide) (by decide) (by decide)).mono (by decide)) h
  rw [ex_text] at kt
  have kc : ∀ (w' : World) (v : Value), SlR w' v exL → _ := fun w' v h => Common_yes h (fun q hq => by
    unfold exL at hq
    simp only [List.mem_cons, List.not_mem_nil, or_false] at hq
    rcases hq with rfl | rfl | rfl
    · exact (ex_sz 1 2 (by decide) (by decide) (by decide)).mono (by decide)
    · exact (ex_sz 1 3 (by decide) (by decide) (by decide)).mono (by decide)
    · exact (ex_sz 0 1 (by decide) (by decide) (by decide)).mono (by decide))
    (fun j => by
      refine lt_pow_le (k := 1) (n := 600000) ?_ (by decide)
      match j with
      | 0 => decide +kernel
      | 1 => decide +kernel
      | 2 => decide +kernel
      | (j + 3) =>
        have e : exL.take (j + 3) = exL := List.take_of_length_le (by simp [exL])
        rw [e, exL_dens]; decide)
    (fun q hq => by
      unfold exL at hq
      simp only [List.mem_cons, List.not_mem_nil, or_false] at hq
      rcases hq with rfl | rfl | rfl <;> decide +kernel)
    (by decide)
  rw [exL_dens, exL_nums] at kc
  have f12 := fun w => frac_lit 1 2 2 rfl w (by decide) (by decide) (by decide) (by decide)
  have f13 := fun w => frac_lit 1 3 3 rfl w (by decide) (by decide) (by decide) (by decide)
  have f01 := fun w => frac_lit 0 1 1 rfl w (by decide) (by decide) (by decide) (by decide)
  have f14 := fun w => frac_lit (-1) 4 4 rfl w (by decide) (by decide) (by decide) (by decide)
  have f32 := fun w => frac_lit (-3) 2 2 rfl w (by decide) (by decide) (by decide) (by decide)
  have f3m := fun w => frac_lit (-1) 3 3 rfl w (by decide) (by decide) (by decide) (by decide)
  have f16 := fun w => frac_lit 1 6 6 rfl w (by decide) (by decide) (by decide) (by decide)
  have f21 := fun w => frac_lit (-2) 1 1 rfl w (by decide) (by decide) (by decide) (by decide)
  have o6 := ofn 6 6 rfl (by decide)
  have o4 := ofn 4 4 rfl (by decide)
  have o1 := ofn 1 1 rfl (by decide)
  have o0 := ofn 0 0 rfl (by decide)
  have o3 := ofn 3 3 rfl (by decide)
  have o2 := ofn 2 2 rfl (by decide)
  obtain ⟨sm32, am32, bm32, hm32⟩ : ∃ s a b, rv (mkRat (-3) 2) = RV s a b := ⟨_, _, _, rfl⟩
  obtain ⟨sm21, am21, bm21, hm21⟩ : ∃ s a b, rv (mkRat (-2) 1) = RV s a b := ⟨_, _, _, rfl⟩
  obtain ⟨sp12, ap12, bp12, hp12⟩ : ∃ s a b, rv (mkRat 1 2) = RV s a b := ⟨_, _, _, rfl⟩
  obtain ⟨sp13, ap13, bp13, hp13⟩ : ∃ s a b, rv (mkRat 1 3) = RV s a b := ⟨_, _, _, rfl⟩
  obtain ⟨sp01, ap01, bp01, hp01⟩ : ∃ s a b, rv (mkRat 0 1) = RV s a b := ⟨_, _, _, rfl⟩
  obtain ⟨sm14, am14, bm14, hm14⟩ : ∃ s a b, rv (mkRat (-1) 4) = RV s a b := ⟨_, _, _, rfl⟩
  obtain ⟨sm13, am13, bm13, hm13⟩ : ∃ s a b, rv (mkRat (-1) 3) = RV s a b := ⟨_, _, _, rfl⟩
  obtain ⟨sp16, ap16, bp16, hp16⟩ : ∃ s a b, rv (mkRat 1 6) = RV s a b := ⟨_, _, _, rfl⟩
  rw [hm32] at k64 kt
  rw [hp12, hm14, hm21] at kq
  rw [hp12, hm13, hp16] at ka
  rw [hp12] at f12
  rw [hp13] at f13
  rw [hp01] at f01
  rw [hm14] at f14
  rw [hm32] at f32
  rw [hm13] at f3m
  rw [hp16] at f16
  rw [hm21] at f21
  have f32' : ∀ (m : Int), m = (-3) → ∀ w, Calls Tryz.prog 75 #[.int .i64 m, .int .i64 2] w fun e w' => e = .returned (RV sm32 am32 bm32) ∧ Below w.heap.size w w' := by intro m hm w; subst hm; exact f32 w
  have f3m' : ∀ (m : Int), m = (-1) → ∀ w, Calls Tryz.prog 75 #[.int .i64 m, .int .i64 3] w fun e w' => e = .returned (RV sm13 am13 bm13) ∧ Below w.heap.size w w' := by intro m hm w; subst hm; exact f3m w
  have f21' : ∀ (m : Int), m = (-2) → ∀ w, Calls Tryz.prog 75 #[.int .i64 m, .int .i64 1] w fun e w' => e = .returned (RV sm21 am21 bm21) ∧ Below w.heap.size w w' := by intro m hm w; subst hm; exact f21 w
  have HS3 := Lib.hid (fun w => slr3 w _ _ _ _ _ _ _ _ _ _ _ _ hp12 hp13 hp01)
  rw [Enc_zero] at o0
  rw [Enc_zero] at kc
  generalize Enc 6 = E6 at *
  generalize Enc 4 = E4 at *
  generalize Enc 1 = E1 at *
  generalize Enc 3 = E3 at *
  generalize Enc 2 = E2 at *
  have K64 := Lib.hid k64
  have KZ := Lib.hid kz
  have KQ := Lib.hid kq
  have KA := Lib.hid ka
  have KT := Lib.hid kt
  have KC := Lib.hid kc
  have F12 := Lib.hid f12
  have F13 := Lib.hid f13
  have F01 := Lib.hid f01
  have F14 := Lib.hid f14
  have F32 := Lib.hid f32
  have F32X := Lib.hid f32'
  have F3M := Lib.hid f3m
  have F3MX := Lib.hid f3m'
  have F16 := Lib.hid f16
  have F21 := Lib.hid f21
  have F21X := Lib.hid f21'
  have O6 := Lib.hid o6
  have O4 := Lib.hid o4
  have O1 := Lib.hid o1
  have O0 := Lib.hid o0
  have O3 := Lib.hid o3
  have O2 := Lib.hid o2
  clear k64 kz kq ka kt kc f12 f13 f01 f14 f32 f3m f16 f21 o6 o4 o1 o0 o3 o2 hm32 hm21 hp12 hp13 hp01 hm14 hm13 hp16 f32' f3m' f21'
  have HE := Lib.hid he
  have HB := Lib.hid (Below.refl w.heap.size w)
  clear he
  go_enter Tryz.func21, Tryz.ntmps21
  go_wp2_with fail
  refine (O6.out _).mono ?_
  rintro _ wn ⟨rfl, g⟩
  replace HB := Lib.hid (HB.out.trans (g.mono HB.out.size)); clear g
  go_wp2_with fail
  refine (O4.out _).mono ?_
  rintro _ wn ⟨rfl, g⟩
  replace HB := Lib.hid (HB.out.trans (g.mono HB.out.size)); clear g
  go_wp2_with fail
  refine (K64.out _).mono ?_
  rintro _ wn ⟨rfl, g⟩
  replace HB := Lib.hid (HB.out.trans (g.mono HB.out.size)); clear g
  go_upto_region 2 with fail
  have g : Below wn.heap.size wn (wn.alloc (.cells #[.bool sm32, .string am32, .string bm32] 39)) := (Below.refl _ _).alloc (Nat.le_refl _) _
  have A1 := Lib.hid (Blk.new wn 39 [.bool sm32, .string am32, .string bm32])
  replace HB := Lib.hid (HB.out.trans (g.mono HB.out.size)); clear g
  obtain ⟨BA1, hBA1⟩ : ∃ B, wn.heap.size = B := ⟨_, rfl⟩
  rw [hBA1] at A1 ⊢
  generalize wn.alloc (.cells #[.bool sm32, .string am32, .string bm32] 39) = wb at *
  clear hBA1
  go_wp2_with fail
  refine (O1.out _).mono ?_
  rintro _ wn ⟨rfl, g⟩
  replace A1 := Lib.hid (A1.out.on g)
  replace HB := Lib.hid (HB.out.trans (g.mono HB.out.size)); clear g
  go_wp2_with fail
  refine (O0.out _).mono ?_
  rintro _ wn ⟨rfl, g⟩
  replace A1 := Lib.hid (A1.out.on g)
  replace HB := Lib.hid (HB.out.trans (g.mono HB.out.size)); clear g
  go_wp2_with fail
  refine (KZ.out _).mono ?_
  rintro _ wn ⟨rfl, g⟩
  replace A1 := Lib.hid (A1.out.on g)
  replace HB := Lib.hid (HB.out.trans (g.mono HB.out.size)); clear g
  go_upto_region 3 with fail
  have g : Below wn.heap.size wn (wn.alloc (.cells #[.bool false, .string ⟨#[]⟩, .string ⟨#[]⟩] 39)) := (Below.refl _ _).alloc (Nat.le_refl _) _
  replace A1 := Lib.hid (A1.out.on g)
  replace HB := Lib.hid (HB.out.trans (g.mono HB.out.size)); clear g
  generalize wn.alloc (.cells #[.bool false, .string ⟨#[]⟩, .string ⟨#[]⟩] 39) = wb at *
  go_wp2_with fail
  refine (F12.out _).mono ?_
  rintro _ wn ⟨rfl, g⟩
  replace A1 := Lib.hid (A1.out.on g)
  replace HB := Lib.hid (HB.out.trans (g.mono HB.out.size)); clear g
  go_wp2_with fail
  refine (F14.out _).mono ?_
  rintro _ wn ⟨rfl, g⟩
  replace A1 := Lib.hid (A1.out.on g)
  replace HB := Lib.hid (HB.out.trans (g.mono HB.out.size)); clear g
  go_wp2_with fail
  refine (KQ.out _).mono ?_
  rintro _ wn ⟨rfl, g⟩
  replace A1 := Lib.hid (A1.out.on g)
  replace HB := Lib.hid (HB.out.trans (g.mono HB.out.size)); clear g
  go_upto_region 4 with fail
  have g : Below wn.heap.size wn (wn.alloc (.cells #[.bool sm21, .string am21, .string bm21] 39)) := (Below.refl _ _).alloc (Nat.le_refl _) _
  have A5 := Lib.hid (Blk.new wn 39 [.bool sm21, .string am21, .string bm21])
  replace A1 := Lib.hid (A1.out.on g)
  replace HB := Lib.hid (HB.out.trans (g.mono HB.out.size)); clear g
  obtain ⟨BA5, hBA5⟩ : ∃ B, wn.heap.size = B := ⟨_, rfl⟩
  rw [hBA5] at A5 ⊢
  generalize wn.alloc (.cells #[.bool sm21, .string am21, .string bm21] 39) = wb at *
  clear hBA5
  go_wp2_with fail
  refine (F12.out _).mono ?_
  rintro _ wn ⟨rfl, g⟩
  replace A1 := Lib.hid (A1.out.on g)
  replace A5 := Lib.hid (A5.out.on g)
  replace HB := Lib.hid (HB.out.trans (g.mono HB.out.size)); clear g
  go_wp2_with fail
  refine (F13.out _).mono ?_
  rintro _ wn ⟨rfl, g⟩
  replace A1 := Lib.hid (A1.out.on g)
  replace A5 := Lib.hid (A5.out.on g)
  replace HB := Lib.hid (HB.out.trans (g.mono HB.out.size)); clear g
  go_wp2_with fail
  refine (F01.out _).mono ?_
  rintro _ wn ⟨rfl, g⟩
  replace A1 := Lib.hid (A1.out.on g)
  replace A5 := Lib.hid (A5.out.on g)
  replace HB := Lib.hid (HB.out.trans (g.mono HB.out.size)); clear g
  go_wp2_with fail
  have g : Below wn.heap.size wn (wn.alloc (.cells #[.bool sp12, .string ap12, .string bp12, .bool sp13, .string ap13, .string bp13, .bool sp01, .string ap01, .string bp01] 39)) := (Below.refl _ _).alloc (Nat.le_refl _) _
  have HSL := Lib.hid (HS3.out wn)
  replace A1 := Lib.hid (A1.out.on g)
  replace A5 := Lib.hid (A5.out.on g)
  replace HB := Lib.hid (HB.out.trans (g.mono HB.out.size)); clear g
  generalize wn.alloc (.cells #[.bool sp12, .string ap12, .string bp12, .bool sp13, .string ap13, .string bp13, .bool sp01, .string ap01, .string bp01] 39) = wc at *
  refine (KC.out _ _ HSL.out).mono ?_
  rintro _ wn ⟨v8, rfl, hown, g⟩
  have S8 := Lib.hid (owns_strs (ss := [E3, E2, ⟨#[]⟩]) hown)
  replace A1 := Lib.hid (A1.out.on g)
  replace A5 := Lib.hid (A5.out.on g)
  replace HB := Lib.hid (HB.out.trans (g.mono HB.out.size)); clear g
  clear hown HSL
  go_wp2_with fail
  refine (ex_64 _ (HE.out.below HB.out)).mono ?_
  rintro _ wn ⟨rfl, g⟩
  replace A1 := Lib.hid (A1.out.on g)
  replace A5 := Lib.hid (A5.out.on g)
  replace S8 := Lib.hid (S8.out.on g)
  replace HB := Lib.hid (HB.out.trans (g.mono HB.out.size)); clear g
  go_upto_region 6 with fail
  have g : Below wn.heap.size wn (wn.alloc (.cells #[.bool false, .string ⟨#[]⟩, .string ⟨#[]⟩] 39)) := (Below.refl _ _).alloc (Nat.le_refl _) _
  replace A1 := Lib.hid (A1.out.on g)
  replace A5 := Lib.hid (A5.out.on g)
  replace S8 := Lib.hid (S8.out.on g)
  replace HB := Lib.hid (HB.out.trans (g.mono HB.out.size)); clear g
  generalize wn.alloc (.cells #[.bool false, .string ⟨#[]⟩, .string ⟨#[]⟩] 39) = wb at *
  go_wp2_with fail
  refine (ex_m0 _ (HE.out.below HB.out)).mono ?_
  rintro _ wn ⟨rfl, g⟩
  replace A1 := Lib.hid (A1.out.on g)
  replace A5 := Lib.hid (A5.out.on g)
  replace S8 := Lib.hid (S8.out.on g)
  replace HB := Lib.hid (HB.out.trans (g.mono HB.out.size)); clear g
  go_upto_region 7 with fail
  have g : Below wn.heap.size wn (wn.alloc (.cells #[.bool false, .string ⟨#[]⟩, .string ⟨#[]⟩] 39)) := (Below.refl _ _).alloc (Nat.le_refl _) _
  replace A1 := Lib.hid (A1.out.on g)
  replace A5 := Lib.hid (A5.out.on g)
  replace S8 := Lib.hid (S8.out.on g)
  replace HB := Lib.hid (HB.out.trans (g.mono HB.out.size)); clear g
  generalize wn.alloc (.cells #[.bool false, .string ⟨#[]⟩, .string ⟨#[]⟩] 39) = wb at *
  go_wp2_with fail
  refine (ex_31 _ (HE.out.below HB.out)).mono ?_
  rintro _ wn ⟨rfl, g⟩
  replace A1 := Lib.hid (A1.out.on g)
  replace A5 := Lib.hid (A5.out.on g)
  replace S8 := Lib.hid (S8.out.on g)
  replace HB := Lib.hid (HB.out.trans (g.mono HB.out.size)); clear g
  go_upto_region 8 with fail
  have g : Below wn.heap.size wn (wn.alloc (.cells #[.bool false, .string ⟨#[]⟩, .string ⟨#[]⟩] 39)) := (Below.refl _ _).alloc (Nat.le_refl _) _
  replace A1 := Lib.hid (A1.out.on g)
  replace A5 := Lib.hid (A5.out.on g)
  replace S8 := Lib.hid (S8.out.on g)
  replace HB := Lib.hid (HB.out.trans (g.mono HB.out.size)); clear g
  generalize wn.alloc (.cells #[.bool false, .string ⟨#[]⟩, .string ⟨#[]⟩] 39) = W at *
  obtain ⟨c0, c1, c2⟩ := A1.out.rc
  obtain ⟨e0, e1, e2⟩ := A5.out.rc
  go_region_held3 (fun w' => (w'.cell? ⟨BA1, 0, none⟩ = some (.bool sm32) ∧ w'.cell? ⟨BA1, 1, none⟩ = some (.string am32) ∧ w'.cell? ⟨BA1, 2, none⟩ = some (.string bm32)) ∧ (w'.cell? ⟨BA5, 0, none⟩ = some (.bool sm21) ∧ w'.cell? ⟨BA5, 1, none⟩ = some (.string am21) ∧ w'.cell? ⟨BA5, 2, none⟩ = some (.string bm21)))
    (first | exact ⟨x6.rc, y6.rc⟩ | exact ⟨x5.rc, y5.rc⟩ | exact ⟨x4.rc, y4.rc⟩ | exact ⟨x3.rc, y3.rc⟩ | exact ⟨x2.rc, y2.rc⟩ | exact ⟨x1.rc, y1.rc⟩ | go_keep)
    ((first
      | (go_at_call 75; with_reducible refine (F32X.out _ ?hz _).mono ?_; (case hz => first | rfl | decide); rintro _ u1 ⟨rfl, h1⟩; have g1 : Below W.heap.size W u1 := undr h1; have x1 := A1.out.on g1; have y1 := A5.out.on g1)
      | (go_at_call 75; with_reducible refine (F12.out _).mono ?_; rintro _ u2 ⟨rfl, h2⟩; have g2 : Below W.heap.size W u2 := g1.trans (h2.mono g1.size); have x2 := A1.out.on g2; have y2 := A5.out.on g2)
      | (go_at_call 75; with_reducible refine (F3MX.out _ ?hz _).mono ?_; (case hz => first | rfl | decide); rintro _ u3 ⟨rfl, h3⟩; have g3 : Below W.heap.size W u3 := g2.trans (h3.mono g2.size); have x3 := A1.out.on g3; have y3 := A5.out.on g3)
      | (go_at_call 37; with_reducible refine (KA.out _).mono ?_; rintro _ u4 ⟨rfl, h4⟩; have g4 : Below W.heap.size W u4 := g3.trans (h4.mono g3.size); have x4 := A1.out.on g4; have y4 := A5.out.on g4)
      | (go_at_call 75; with_reducible refine (F16.out _).mono ?_; rintro _ u5 ⟨rfl, h5⟩; have g5 : Below W.heap.size W u5 := g4.trans (h5.mono g4.size); have x5 := A1.out.on g5; have y5 := A5.out.on g5)
      | (go_at_call 75; with_reducible refine (F21X.out _ ?hz _).mono ?_; (case hz => first | rfl | decide); rintro _ u6 ⟨rfl, h6⟩; have g6 : Below W.heap.size W u6 := g5.trans (h6.mono g5.size); have x6 := A1.out.on g6; have y6 := A5.out.on g6)
      | fail))
  have g := g6
  clear x1 x2 x3 x4 x5 x6 y1 y2 y3 y4 y5 y6 g1 g2 g3 g4 g5 g6 h1 h2 h3 h4 h5 h6 c0 c1 c2 e0 e1 e2
  replace S8 := Lib.hid (S8.out.on g)
  replace HB := Lib.hid (HB.out.trans (g.mono HB.out.size)); clear g
  clear A1 A5
  go_wp2_with fail
  refine (O6.out _).mono ?_
  rintro _ wn ⟨rfl, g⟩
  replace S8 := Lib.hid (S8.out.on g)
  replace HB := Lib.hid (HB.out.trans (g.mono HB.out.size)); clear g
  go_wp2_with fail
  refine (O3.out _).mono ?_
  rintro _ wn ⟨rfl, g⟩
  replace S8 := Lib.hid (S8.out.on g)
  replace HB := Lib.hid (HB.out.trans (g.mono HB.out.size)); clear g
  go_wp2_with fail
  refine (O2.out _).mono ?_
  rintro _ wn ⟨rfl, g⟩
  replace S8 := Lib.hid (S8.out.on g)
  replace HB := Lib.hid (HB.out.trans (g.mono HB.out.size)); clear g
  go_wp2_with fail
  refine (O0.out _).mono ?_
  rintro _ wn ⟨rfl, g⟩
  replace S8 := Lib.hid (S8.out.on g)
  replace HB := Lib.hid (HB.out.trans (g.mono HB.out.size)); clear g
  go_wp2_with fail
  have g : Below wn.heap.size wn (wn.alloc (.cells #[.string E3, .string E2, .string ⟨#[]⟩] 24)) := (Below.refl _ _).alloc (Nat.le_refl _) _
  have S9 := Lib.hid (strs3 wn E3 E2 ⟨#[]⟩)
  replace S8 := Lib.hid (S8.out.on g)
  replace HB := Lib.hid (HB.out.trans (g.mono HB.out.size)); clear g
  generalize wn.alloc (.cells #[.string E3, .string E2, .string ⟨#[]⟩] 24) = wc at *
  refine (Same_yes S8.out S9.out).mono ?_
  rintro _ wn ⟨rfl, g⟩
  replace HB := Lib.hid (HB.out.trans (g.mono HB.out.size)); clear g
  clear S8 S9
  go_wp2_with fail
  refine (F32.out _).mono ?_
  rintro _ wn ⟨rfl, g⟩
  replace HB := Lib.hid (HB.out.trans (g.mono HB.out.size)); clear g
  go_wp2_with fail
  refine (KT.out _ (HE.out.below HB.out)).mono ?_
  rintro _ wn ⟨rfl, g⟩
  replace HB := Lib.hid (HB.out.trans (g.mono HB.out.size)); clear g
  go_wp2_with fail
  go_ret
  exact ⟨rfl, HB.out⟩

#print axioms sanity2_any
end Go.Proofs.YtolmjeglaolhlaaGreatDoor
