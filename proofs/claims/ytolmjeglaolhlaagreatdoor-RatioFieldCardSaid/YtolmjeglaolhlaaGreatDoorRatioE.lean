/- ratio: Mul, Quo of numbers. -/
import Derived.Test.YtolmjeglaolhlaaGreatDoorRatioD
import Derived.Laws.ResultCell
namespace Go.Proofs.YtolmjeglaolhlaaGreatDoor
open Go.RowKit Num

theorem nat_mul_lt {x y k n : Nat} (hx : x < 256 ^ k) (hy : y < 256 ^ k) (hk : k + k ≤ n) : x * y < 256 ^ n :=
  Nat.lt_of_lt_of_le (mul_lt_pow hx hy) (Nat.pow_le_pow_right (by decide) hk)

/-- A function returns a struct and one value more. -/
theorem ret_rat2 {R : Ending → World → Prop} {x : Act} {w : World} {B : Nat} {s : Bool} {a b : ByteArray} {fn : Func} {p r : Tmp} (h : fn.results = #[.cell p 39, .tmp r]) (hp : x.tmps.getD p undef = .pointer (some ⟨B, 0, none⟩)) (hb : Blk w B 39 [.bool s, .string a, .string b])
    (hd : x.defers = []) (hR : R (.returned (.tuple #[RV s a b, x.tmps.getD r undef])) w) : bodyPost Tryz.prog fn R .ret x w := by
  refine bodyPost_ret (v := .tuple #[RV s a b, x.tmps.getD r undef]) ?_ hd hR
  have hl := run_loadVar_row (P := Tryz.prog) w B 39 39 #[.bool s, .string a, .string b] _ _ hb Tryz.underlying39 rfl (by kernel_rfl)
  rw [results_cell_tmp h, hp]
  simp [asAddr, Result.andThen, hl]

set_option maxRecDepth 100000 in
set_option maxHeartbeats 2000000 in
/-- **ratio.Mul** of numbers. -/
theorem Mul_q (p q : Rat) (w : World) (hp : Sz 600000 p) (hq : Sz 600000 q) :
    Calls Tryz.prog 39 #[rv p, rv q] w fun e w' => e = .returned (rv (p * q)) ∧ Below w.heap.size w w' := by
  have v1 := fun w => value_q p w (hp.mono (by decide))
  have v2 := fun w => value_q q w (hq.mono (by decide))
  have sp := sz_strs hp; have sq := sz_strs hq
  have d1 := fun w => Mul_is (Enc (p.num.natAbs * q.num.natAbs)) (Enc p.num.natAbs) (Enc q.num.natAbs) w (by omega) (by omega) (by rw [SN_Enc, SN_Enc])
  have d2 := fun w => Mul_is (Enc (p.den * q.den)) (Enc p.den) (Enc q.den) w (by omega) (by omega) (by rw [SN_Enc, SN_Enc])
  have d3 := fun w => lowest_any (decide (p.num < 0) != decide (q.num < 0)) (p.num.natAbs * q.num.natAbs) (p.den * q.den) w (nat_mul_lt (n := 268435456) hp.1 hq.1 (by decide)) (nat_mul_lt (n := 268435456) hp.2 hq.2 (by decide)) (Nat.mul_ne_zero p.den_nz q.den_nz)
  rw [low_mul] at d3
  unfold rv at *
  generalize Enc (p.num.natAbs * q.num.natAbs) = pn at *
  generalize Enc (p.den * q.den) = pd at *
  generalize decide (p.num < 0) = s at *
  generalize Enc p.num.natAbs = a at *
  generalize Enc p.den = b at *
  generalize decide (q.num < 0) = t at *
  generalize Enc q.num.natAbs = c at *
  generalize Enc q.den = d at *
  generalize decide ((p * q).num < 0) = u at *
  generalize Enc (p * q).num.natAbs = x at *
  generalize Enc (p * q).den = y at *
  have R := Lib.hid (RB3.start w s a b t c d)
  have V1 := Lib.hid v1; have V2 := Lib.hid v2; have D1 := Lib.hid d1; have D2 := Lib.hid d2; have D3 := Lib.hid d3
  clear v1 v2 d1 d2 d3 sp sq hp hq
  go_enter Tryz.func39, Tryz.ntmps39
  go_upto_region 1 with fail
  generalize ((w.alloc (.cells #[.bool s, .string a, .string b] 39)).alloc (.cells #[.bool t, .string c, .string d] 39)).alloc (.cells #[.bool false, .string ⟨#[]⟩, .string ⟨#[]⟩] 39) = W at *
  go_cut [] from 5 (fun wc => RB3 w s a b t c d wc)
  case first =>
    obtain ⟨⟨c0, c1, c2⟩, ⟨e0, e1, e2⟩, ⟨i0, i1, i2⟩, ⟨k0, k1, k2⟩, ⟨l0, l1, l2⟩, f0, f1, f2⟩ := R.out.see
    go_region_held3 (fun w' => (w'.cell? ⟨w.heap.size, 0, none⟩ = some (.bool s) ∧ w'.cell? ⟨w.heap.size, 1, none⟩ = some (.string a) ∧ w'.cell? ⟨w.heap.size, 2, none⟩ = some (.string b)) ∧ (w'.cell? ⟨w.heap.size + 1, 0, none⟩ = some (.bool t) ∧ w'.cell? ⟨w.heap.size + 1, 1, none⟩ = some (.string c) ∧ w'.cell? ⟨w.heap.size + 1, 2, none⟩ = some (.string d)))
      (first | with_reducible exact ⟨(r3).see.1, (r3).see.2.1⟩ | with_reducible exact ⟨(r3.same1).see.1, (r3.same1).see.2.1⟩ | with_reducible exact ⟨(r3.same2).see.1, (r3.same2).see.2.1⟩ | with_reducible exact ⟨(r3.same1.same2).see.1, (r3.same1.same2).see.2.1⟩ | with_reducible exact ⟨(r3.same2.same1).see.1, (r3.same2.same1).see.2.1⟩ | with_reducible exact ⟨(r2).see.1, (r2).see.2.1⟩ | with_reducible exact ⟨(r2.same1).see.1, (r2.same1).see.2.1⟩ | go_keep)
      ((first
        | (go_at_call 81; with_reducible refine (V1.out _).mono ?_; rintro _ w2 ⟨rfl, h2⟩; have r2 := R.out.drew.on h2; obtain ⟨⟨o0, o1, o2⟩, ⟨q0, q1, q2⟩, -, ⟨m0, m1, m2⟩, ⟨n0, n1, n2⟩, -⟩ := r2.see)
        | (go_at_call 81; with_reducible refine (V2.out _).mono ?_; rintro _ w3 ⟨rfl, h3⟩; have r3 : RB3 w s a b t c d w3 := (by first | with_reducible exact r2.on h3 | with_reducible exact r2.same1.on h3); obtain ⟨⟨o3, o4, o5⟩, ⟨q3, q4, q5⟩, -, ⟨m3, m4, m5⟩, ⟨n3, n4, n5⟩, -⟩ := r3.see)
        | fail))
    all_goals go_wp2_with fail
    all_goals go_meet
    all_goals first | with_reducible exact r3.same1.same2 | with_reducible exact r3.same2.same1 | with_reducible exact r3.same2 | with_reducible exact r3.same1
  case rest =>
    replace R := Lib.hid hcut
    clear hcut
    go_upto_region 2 with fail
    obtain ⟨⟨c0, c1, c2⟩, ⟨e0, e1, e2⟩, ⟨i0, i1, i2⟩, ⟨k0, k1, k2⟩, ⟨l0, l1, l2⟩, f0, f1, f2⟩ := R.out.see
    go_region_held3 (fun w' => (w'.cell? ⟨w.heap.size, 0, none⟩ = some (.bool s) ∧ w'.cell? ⟨w.heap.size, 1, none⟩ = some (.string a) ∧ w'.cell? ⟨w.heap.size, 2, none⟩ = some (.string b)) ∧ (w'.cell? ⟨w.heap.size + 1, 0, none⟩ = some (.bool t) ∧ w'.cell? ⟨w.heap.size + 1, 1, none⟩ = some (.string c) ∧ w'.cell? ⟨w.heap.size + 1, 2, none⟩ = some (.string d)))
      (first | with_reducible exact ⟨r4.see.1, r4.see.2.1⟩ | with_reducible exact ⟨r3.see.1, r3.see.2.1⟩ | with_reducible exact ⟨r2.see.1, r2.see.2.1⟩ | exact r4.finSee u x y | go_keep)
      ((first
        | (go_at_call 20; with_reducible refine (D1.out _).mono ?_; rintro _ w2 ⟨rfl, h2⟩; have r2 := R.out.drew.on h2)
        | (go_at_call 20; with_reducible refine (D2.out _).mono ?_; rintro _ w3 ⟨rfl, h3⟩; have r3 := r2.on h3)
        | (go_at_call 78; refine (D3.out _).mono ?_; rintro _ w4 ⟨rfl, h4⟩; have r4 := r3.on h4; obtain ⟨-, -, ⟨j0, j1, j2⟩, -, -, ⟨m0, m1, m2⟩⟩ := r4.see)))
    go_wp2_with fail
    exact ret_rat rfl rfl (r4.fin u x y).1 rfl ⟨rfl, (r4.fin u x y).2⟩

set_option maxRecDepth 100000 in
set_option maxHeartbeats 2000000 in
/-- **ratio.Quo** of numbers, the second one not nought. -/
theorem Quo_q (p q : Rat) (w : World) (hp : Sz 600000 p) (hq : Sz 600000 q) (h0 : q ≠ 0) :
    Calls Tryz.prog 41 #[rv p, rv q] w fun e w' => e = .returned (.tuple #[rv (p / q), .bool true]) ∧ Below w.heap.size w w' := by
  have hn0 : q.num.natAbs ≠ 0 := fun e => h0 (Rat.num_eq_zero.1 (Int.natAbs_eq_zero.1 e))
  have hcl : ¬ (Enc q.num.natAbs).toList = [] := not_nil (fun e => hn0 (Enc_inj (e.trans Enc_zero.symm)))
  have v1 := fun w => value_q p w (hp.mono (by decide))
  have v2 := fun w => value_q q w (hq.mono (by decide))
  have sp := sz_strs hp; have sq := sz_strs hq
  have d1 := fun w => Mul_is (Enc (p.num.natAbs * q.den)) (Enc p.num.natAbs) (Enc q.den) w (by omega) (by omega) (by rw [SN_Enc, SN_Enc])
  have d2 := fun w => Mul_is (Enc (p.den * q.num.natAbs)) (Enc p.den) (Enc q.num.natAbs) w (by omega) (by omega) (by rw [SN_Enc, SN_Enc])
  have d3 := fun w => lowest_any (decide (p.num < 0) != decide (q.num < 0)) (p.num.natAbs * q.den) (p.den * q.num.natAbs) w (nat_mul_lt (n := 268435456) hp.1 hq.2 (by decide)) (nat_mul_lt (n := 268435456) hp.2 hq.1 (by decide)) (Nat.mul_ne_zero p.den_nz hn0)
  rw [low_quo h0] at d3
  unfold rv at *
  generalize Enc (p.num.natAbs * q.den) = pn at *
  generalize Enc (p.den * q.num.natAbs) = pd at *
  generalize decide (p.num < 0) = s at *
  generalize Enc p.num.natAbs = a at *
  generalize Enc p.den = b at *
  generalize decide (q.num < 0) = t at *
  generalize Enc q.num.natAbs = c at *
  generalize Enc q.den = d at *
  generalize decide ((p / q).num < 0) = u at *
  generalize Enc (p / q).num.natAbs = x at *
  generalize Enc (p / q).den = y at *
  have R := Lib.hid (RB3.start w s a b t c d)
  have V1 := Lib.hid v1; have V2 := Lib.hid v2; have D1 := Lib.hid d1; have D2 := Lib.hid d2; have D3 := Lib.hid d3
  clear v1 v2 d1 d2 d3 sp sq hp hq hn0 h0
  go_enter Tryz.func41, Tryz.ntmps41
  go_upto_region 1 with fail
  generalize ((w.alloc (.cells #[.bool s, .string a, .string b] 39)).alloc (.cells #[.bool t, .string c, .string d] 39)).alloc (.cells #[.bool false, .string ⟨#[]⟩, .string ⟨#[]⟩] 39) = W at *
  go_cut [] from 6 (fun wc => RB3 w s a b t c d wc)
  case first =>
    obtain ⟨⟨c0, c1, c2⟩, ⟨e0, e1, e2⟩, ⟨i0, i1, i2⟩, ⟨k0, k1, k2⟩, ⟨l0, l1, l2⟩, f0, f1, f2⟩ := R.out.see
    go_region_held3 (fun w' => (w'.cell? ⟨w.heap.size, 0, none⟩ = some (.bool s) ∧ w'.cell? ⟨w.heap.size, 1, none⟩ = some (.string a) ∧ w'.cell? ⟨w.heap.size, 2, none⟩ = some (.string b)) ∧ (w'.cell? ⟨w.heap.size + 1, 0, none⟩ = some (.bool t) ∧ w'.cell? ⟨w.heap.size + 1, 1, none⟩ = some (.string c) ∧ w'.cell? ⟨w.heap.size + 1, 2, none⟩ = some (.string d)))
      (first | with_reducible exact ⟨(r3).see.1, (r3).see.2.1⟩ | with_reducible exact ⟨(r3.same1).see.1, (r3.same1).see.2.1⟩ | with_reducible exact ⟨(r3.same2).see.1, (r3.same2).see.2.1⟩ | with_reducible exact ⟨(r3.same1.same2).see.1, (r3.same1.same2).see.2.1⟩ | with_reducible exact ⟨(r3.same2.same1).see.1, (r3.same2.same1).see.2.1⟩ | with_reducible exact ⟨(r2).see.1, (r2).see.2.1⟩ | with_reducible exact ⟨(r2.same1).see.1, (r2.same1).see.2.1⟩ | go_keep)
      ((first
        | (go_at_call 81; with_reducible refine (V1.out _).mono ?_; rintro _ w2 ⟨rfl, h2⟩; have r2 := R.out.drew.on h2; obtain ⟨⟨o0, o1, o2⟩, ⟨q0, q1, q2⟩, -, ⟨m0, m1, m2⟩, ⟨n0, n1, n2⟩, -⟩ := r2.see)
        | (go_at_call 81; with_reducible refine (V2.out _).mono ?_; rintro _ w3 ⟨rfl, h3⟩; have r3 : RB3 w s a b t c d w3 := (by first | with_reducible exact r2.on h3 | with_reducible exact r2.same1.on h3); obtain ⟨⟨o3, o4, o5⟩, ⟨q3, q4, q5⟩, -, ⟨m3, m4, m5⟩, ⟨n3, n4, n5⟩, -⟩ := r3.see)
        | fail))
    all_goals go_wp2_with fail
    all_goals go_meet
    all_goals first | with_reducible exact r3.same1.same2 | with_reducible exact r3.same2.same1 | with_reducible exact r3.same2 | with_reducible exact r3.same1
  case rest =>
    replace R := Lib.hid hcut
    clear hcut
    obtain ⟨⟨c0, c1, c2⟩, ⟨e0, e1, e2⟩, ⟨i0, i1, i2⟩, ⟨k0, k1, k2⟩, ⟨l0, l1, l2⟩, f0, f1, f2⟩ := R.out.see
    have hce : c.toList.isEmpty = false := by simp [hcl]
    go_upto_region 4 with fail
    go_region_held3 (fun w' => (w'.cell? ⟨w.heap.size, 0, none⟩ = some (.bool s) ∧ w'.cell? ⟨w.heap.size, 1, none⟩ = some (.string a) ∧ w'.cell? ⟨w.heap.size, 2, none⟩ = some (.string b)) ∧ (w'.cell? ⟨w.heap.size + 1, 0, none⟩ = some (.bool t) ∧ w'.cell? ⟨w.heap.size + 1, 1, none⟩ = some (.string c) ∧ w'.cell? ⟨w.heap.size + 1, 2, none⟩ = some (.string d)))
      (first | with_reducible exact ⟨r4.see.1, r4.see.2.1⟩ | with_reducible exact ⟨r3.see.1, r3.see.2.1⟩ | with_reducible exact ⟨r2.see.1, r2.see.2.1⟩ | exact r4.finSee u x y | go_keep)
      ((first
        | (go_at_call 20; with_reducible refine (D1.out _).mono ?_; rintro _ w2 ⟨rfl, h2⟩; have r2 := R.out.drew.on h2)
        | (go_at_call 20; with_reducible refine (D2.out _).mono ?_; rintro _ w3 ⟨rfl, h3⟩; have r3 := r2.on h3)
        | (go_at_call 78; refine (D3.out _).mono ?_; rintro _ w4 ⟨rfl, h4⟩; have r4 := r3.on h4; obtain ⟨-, -, ⟨j0, j1, j2⟩, -, -, ⟨m0, m1, m2⟩⟩ := r4.see)))
    go_wp2_with fail
    exact ret_rat2 rfl rfl (r4.fin u x y).1 rfl ⟨rfl, (r4.fin u x y).2⟩

set_option maxRecDepth 100000 in
set_option maxHeartbeats 2000000 in
/-- **ratio.Quo** by nought. -/
theorem Quo_z (p : Rat) (w : World) (hp : Sz 600000 p) :
    Calls Tryz.prog 41 #[rv p, rv 0] w fun e w' => e = .returned (.tuple #[RV false ⟨#[]⟩ ⟨#[]⟩, .bool false]) ∧ Below w.heap.size w w' := by
  have v1 := fun w => value_q p w (hp.mono (by decide))
  have v2 := fun w => value_q 0 w (Sz.zero.mono (by decide))
  have e0 : rv 0 = RV false ⟨#[]⟩ ⟨#[1]⟩ := by unfold rv; rw [show ((0 : Rat).num).natAbs = 0 from rfl, Enc_zero, show (0 : Rat).den = 1 from rfl, Enc_one]; rfl
  rw [e0] at v2 ⊢
  unfold rv at *
  obtain ⟨t, ht⟩ : ∃ t, false = t := ⟨_, rfl⟩
  obtain ⟨c, hc⟩ : ∃ c, (⟨#[]⟩ : ByteArray) = c := ⟨_, rfl⟩
  obtain ⟨d, hd⟩ : ∃ d, (⟨#[1]⟩ : ByteArray) = d := ⟨_, rfl⟩
  have v2' : ∀ w, Calls Tryz.prog 81 #[RV t c d] w fun e w' => e = .returned (RV t c d) ∧ Below w.heap.size w w' := by rw [← ht, ← hc, ← hd]; exact v2
  have HT := Lib.hid ht; have HC := Lib.hid hc; have HD := Lib.hid hd
  have hgoal : ∀ t c d, (false = t) → ((⟨#[]⟩ : ByteArray) = c) → ((⟨#[1]⟩ : ByteArray) = d) → RV false ⟨#[]⟩ ⟨#[1]⟩ = RV t c d := by intro t c d h1 h2 h3; rw [h1, h2, h3]
  rw [hgoal t c d ht hc hd]
  clear v2 ht hc hd hgoal e0
  generalize decide (p.num < 0) = s at *
  generalize Enc p.num.natAbs = a at *
  generalize Enc p.den = b at *
  have R := Lib.hid (RB3.start w s a b t c d)
  have V1 := Lib.hid v1; have V2 := Lib.hid v2'
  clear v1 v2' hp
  go_enter Tryz.func41, Tryz.ntmps41
  go_upto_region 1 with fail
  generalize ((w.alloc (.cells #[.bool s, .string a, .string b] 39)).alloc (.cells #[.bool t, .string c, .string d] 39)).alloc (.cells #[.bool false, .string ⟨#[]⟩, .string ⟨#[]⟩] 39) = W at *
  go_cut [] from 6 (fun wc => RB3 w s a b t c d wc)
  case first =>
    obtain ⟨⟨c0, c1, c2⟩, ⟨e0, e1, e2⟩, ⟨i0, i1, i2⟩, ⟨k0, k1, k2⟩, ⟨l0, l1, l2⟩, f0, f1, f2⟩ := R.out.see
    go_region_held3 (fun w' => (w'.cell? ⟨w.heap.size, 0, none⟩ = some (.bool s) ∧ w'.cell? ⟨w.heap.size, 1, none⟩ = some (.string a) ∧ w'.cell? ⟨w.heap.size, 2, none⟩ = some (.string b)) ∧ (w'.cell? ⟨w.heap.size + 1, 0, none⟩ = some (.bool t) ∧ w'.cell? ⟨w.heap.size + 1, 1, none⟩ = some (.string c) ∧ w'.cell? ⟨w.heap.size + 1, 2, none⟩ = some (.string d)))
      (first | with_reducible exact ⟨(r3).see.1, (r3).see.2.1⟩ | with_reducible exact ⟨(r3.same1).see.1, (r3.same1).see.2.1⟩ | with_reducible exact ⟨(r3.same2).see.1, (r3.same2).see.2.1⟩ | with_reducible exact ⟨(r3.same1.same2).see.1, (r3.same1.same2).see.2.1⟩ | with_reducible exact ⟨(r3.same2.same1).see.1, (r3.same2.same1).see.2.1⟩ | with_reducible exact ⟨(r2).see.1, (r2).see.2.1⟩ | with_reducible exact ⟨(r2.same1).see.1, (r2.same1).see.2.1⟩ | go_keep)
      ((first
        | (go_at_call 81; with_reducible refine (V1.out _).mono ?_; rintro _ w2 ⟨rfl, h2⟩; have r2 := R.out.drew.on h2; obtain ⟨⟨o0, o1, o2⟩, ⟨q0, q1, q2⟩, -, ⟨m0, m1, m2⟩, ⟨n0, n1, n2⟩, -⟩ := r2.see)
        | (go_at_call 81; with_reducible refine (V2.out _).mono ?_; rintro _ w3 ⟨rfl, h3⟩; have r3 : RB3 w s a b t c d w3 := (by first | with_reducible exact r2.on h3 | with_reducible exact r2.same1.on h3); obtain ⟨⟨o3, o4, o5⟩, ⟨q3, q4, q5⟩, -, ⟨m3, m4, m5⟩, ⟨n3, n4, n5⟩, -⟩ := r3.see)
        | fail))
    all_goals go_wp2_with fail
    all_goals go_meet
    all_goals first | with_reducible exact r3.same1.same2 | with_reducible exact r3.same2.same1 | with_reducible exact r3.same2 | with_reducible exact r3.same1
  case rest =>
    replace R := Lib.hid hcut
    clear hcut
    obtain rfl := HC.out
    obtain ⟨⟨c0, c1, c2⟩, ⟨e0, e1, e2⟩, ⟨i0, i1, i2⟩, ⟨k0, k1, k2⟩, ⟨l0, l1, l2⟩, f0, f1, f2⟩ := R.out.see
    go_wp2_with fail
    exact ret_rat2 rfl rfl (R.out.fin false ⟨#[]⟩ ⟨#[]⟩).1 rfl ⟨rfl, (R.out.fin false ⟨#[]⟩ ⟨#[]⟩).2⟩

#print axioms Quo_q
#print axioms Mul_q
end Go.Proofs.YtolmjeglaolhlaaGreatDoor
