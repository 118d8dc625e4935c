/- sortesref01.minus: the digits of a difference. -/
import Derived.Test.YtmbgohaljiiigaaGreatDoorROwn
import Derived.Test.YtmbgohaljiiigaaGreatDoorRMath
namespace Go.Proofs.YtmbgohaljiiigaaGreatDoor
open Go.RowKit Num

def RMinusRel (w : World) (u v : List Nat) (o br k : Value) (wr : World) : Prop :=
  ∃ (l : List Nat) (b : Nat), l.length ≤ u.length ∧ b ≤ 1 ∧ k = .int .i64 (l.length : Int) ∧ br = .int .i64 (b : Int) ∧ OwnL .i64 wr w.heap.size 3 o l ∧ Dig 16777216 l ∧
    vl 16777216 l + vl 16777216 (v.take l.length) = vl 16777216 (u.take l.length) + b * 16777216 ^ l.length ∧ Below w.heap.size w wr

theorem RMinusRel.step {w wr w' : World} {u v l : List Nat} {b x y d b' : Nat} {v' : Value} (hl : l.length < u.length) (hd : Dig 16777216 l) (hx : u.getD l.length 0 = x) (hy : v.getD l.length 0 = y)
    (hv : vl 16777216 l + vl 16777216 (v.take l.length) = vl 16777216 (u.take l.length) + b * 16777216 ^ l.length) (hdB : d < 16777216) (hb' : b' ≤ 1) (hb : b ≤ 1) (hxB : x < 16777216) (hyB : y < 16777216) (hdd : d + b + y = x + b' * 16777216)
    (ho : OwnL .i64 w' w.heap.size 3 v' (l ++ [d])) (hbel : Below w.heap.size w w') (z zb : Int) (hz : z = (l.length : Int) + 1) (hzb : zb = (b' : Int)) :
    RMinusRel w u v v' (.int .i64 zb) (.int .i64 z) w' := by
  have _ := wr
  refine ⟨l ++ [d], b', by simp; omega, hb', by rw [hz]; simp, by rw [hzb], ho, hd.append (Dig.cons hdB (Dig.nil _)), ?_, hbel⟩
  rw [List.length_append, List.length_cons, List.length_nil, Nat.zero_add]
  exact minus_step hx hy hb hxB hyB rfl hv d b' hdd

set_option maxRecDepth 100000 in
set_option maxHeartbeats 2000000 in
/-- **sortesref01.minus**. -/
theorem rminus_any {vu vv : Value} {u v : List Nat} {w : World} (hsu : Sl .i64 w vu u) (hsv : Sl .i64 w vv v) (hdu : Dig 16777216 u) (hdv : Dig 16777216 v) (hlen : v.length ≤ u.length) (hle : vl 16777216 v ≤ vl 16777216 u) (hsz : u.length ≤ 268435456) :
    Calls Tryz.prog 94 #[vu, vv] w fun e w' => ∃ v' l', e = .returned v' ∧ Sl .i64 w' v' l' ∧ Dig 16777216 l' ∧ Tr l' ∧ vl 16777216 l' = vl 16777216 u - vl 16777216 v ∧ l'.length ≤ u.length ∧ Below w.heap.size w w' := by
  obtain ⟨i0, hi, hz0, hz1, hz2⟩ := info_parts info_int
  obtain ⟨au, cu, rfl, hu1, hu2, hu3⟩ := hsu
  obtain ⟨av, cv, rfl, hv1, hv2, hv3⟩ := hsv
  obtain ⟨N, hN⟩ : ∃ N, u.length = N := ⟨_, rfl⟩
  obtain ⟨M, hM⟩ : ∃ M, v.length = M := ⟨_, rfl⟩
  rw [hN] at hu1 hu3 hsz hlen ⊢
  rw [hM] at hv1 hv3 hlen ⊢
  have HN := Lib.hid hN; have HM := Lib.hid hM; have HU := Lib.hid hu3; have HV := Lib.hid hv3; have HDU := Lib.hid hdu; have HDV := Lib.hid hdv; have HLE := Lib.hid hle
  clear hN hM hu3 hv3 hdu hdv hle
  go_enter Tryz.func94, Tryz.ntmps94
  go_wp2
  go_loopw [5, 6, 7] (fun o br k wr => RMinusRel w u v o br k wr) (fun _ _ k _ => N - (intOf k).toNat)
  case atStart => exact ⟨[], 0, by simp, by omega, rfl, rfl, OwnL.nil _ _ _ _, Dig.nil _, by simp, Below.refl _ _⟩
  case round =>
    obtain ⟨l, b, hl, hb, rfl, rfl, ho, hd, hv, hbel⟩ := hrel
    have HO := Lib.hid ho; have HD := Lib.hid hd; have HVL := Lib.hid hv; have HBel := Lib.hid hbel
    clear ho hd hv hbel
    rw [HN.out] at hl
    obtain ⟨K, hK⟩ : ∃ K, l.length = K := ⟨_, rfl⟩
    have HK := Lib.hid hK
    rw [hK] at hl ⊢
    clear hK
    rcases Nat.lt_or_ge K N with hlt | hge
    · obtain ⟨bu, ou, hau, hbu, hru⟩ := HU.out (by omega)
      subst hau
      have hcu := hru K (by rw [HN.out]; exact hlt)
      have hcu2 := (HBel.out.cell (p := ⟨bu, ou + K, none⟩) hbu).trans hcu
      obtain ⟨x, hx⟩ : ∃ x, u.getD K 0 = x := ⟨_, rfl⟩
      have hxB : x < 16777216 := by rw [← hx]; exact HDU.out.get (by decide) K
      rw [hx] at hcu2
      have HX := Lib.hid hx
      clear hru hcu hx
      obtain ⟨y, hy⟩ : ∃ y, v.getD K 0 = y := ⟨_, rfl⟩
      have hyB : y < 16777216 := by rw [← hy]; exact HDV.out.get (by decide) K
      have HY := Lib.hid hy
      have hown : wr.ownsRow w.heap.size 3 1 u5 K (ints .i64 l) := by rw [← HK.out]; exact HO.out
      have hwB := HBel.out.size
      clear hy
      have hcase : (K < M ∧ wr.cell? ⟨bu, ou + K, none⟩ = some (.int .i64 (x : Int)) ∧ ∃ bv ov, av = some ⟨bv, ov, none⟩ ∧ wr.cell? ⟨bv, ov + K, none⟩ = some (.int .i64 (y : Int))) ∨ (M ≤ K ∧ y = 0) := by
        rcases Nat.lt_or_ge K M with h | h
        · obtain ⟨bv, ov, hav, hbv, hrv⟩ := HV.out (by omega)
          have hcv := hrv K (by rw [HM.out]; exact h)
          rw [HY.out] at hcv
          exact .inl ⟨h, hcu2, bv, ov, hav, (HBel.out.cell (p := ⟨bv, ov + K, none⟩) hbv).trans hcv⟩
        · refine .inr ⟨h, ?_⟩
          rw [← HY.out, List.getD_eq_getElem?_getD, List.getElem?_eq_none (by rw [HM.out]; exact h)]
          rfl
      clear HU
      rcases hcase with ⟨hKM, -, bv, ov, hav, hcv⟩ | ⟨hKM, hy0⟩
      · subst hav
        rcases (show (x : Int) - b - y < 0 ∨ 0 ≤ (x : Int) - b - y by omega) with hs | hs
        · go_wp2_with (at_builtin; refine wpList_append_own_at _ rfl _ _ 73 rfl w.heap.size 3 i0 (.int .i64 0) 1 8 Tryz.underlying73 hi hz0 hz1 hz2 rfl (by decide) _ _ _ rfl (hown.alloc _) ⟨wr.heap.size, 0, none⟩ 1 1 [_] rfl rfl (cell_one_new _ _ _) (by intro u hu; simp at hu; subst hu; rfl) (by unfold maxLen; omega) (by omega) (by simp; omega) ?_; intro v' w1 hown' hgrow _ _)
          have hb1 : Below w.heap.size w w1 := (HBel.out.alloc hwB _).trans (OwnL.grown (k := .i64) (l := l) (e := 3) (by rw [OwnL, HK.out]; exact hown.alloc _) (by simp; omega) hgrow)
          have hown2 := OwnL.snoc' (x + 16777216 - b - y) (by rw [HK.out]; exact hown') (by omega)
          refine ⟨RMinusRel.step (wr := wr) (d := x + 16777216 - b - y) (b' := 1) (by rw [HN.out, HK.out]; exact hlt) HD.out (by rw [HK.out]; exact HX.out) (by rw [HK.out]; exact HY.out) HVL.out (by omega) (by omega) hb hxB hyB (by omega) hown2 hb1 _ _ (by rw [HK.out]) (by rfl), by simp only [intOf]; omega⟩
        · go_wp2_with (at_builtin; refine wpList_append_own_at _ rfl _ _ 73 rfl w.heap.size 3 i0 (.int .i64 0) 1 8 Tryz.underlying73 hi hz0 hz1 hz2 rfl (by decide) _ _ _ rfl (hown.alloc _) ⟨wr.heap.size, 0, none⟩ 1 1 [_] rfl rfl (cell_one_new _ _ _) (by intro u hu; simp at hu; subst hu; rfl) (by unfold maxLen; omega) (by omega) (by simp; omega) ?_; intro v' w1 hown' hgrow _ _)
          have hb1 : Below w.heap.size w w1 := (HBel.out.alloc hwB _).trans (OwnL.grown (k := .i64) (l := l) (e := 3) (by rw [OwnL, HK.out]; exact hown.alloc _) (by simp; omega) hgrow)
          have hown2 := OwnL.snoc' (x - b - y) (by rw [HK.out]; exact hown') (by omega)
          refine ⟨RMinusRel.step (wr := wr) (d := x - b - y) (b' := 0) (by rw [HN.out, HK.out]; exact hlt) HD.out (by rw [HK.out]; exact HX.out) (by rw [HK.out]; exact HY.out) HVL.out (by omega) (by omega) hb hxB hyB (by omega) hown2 hb1 _ _ (by rw [HK.out]) (by rfl), by simp only [intOf]; omega⟩
      · subst hy0
        rcases (show (x : Int) - b < 0 ∨ 0 ≤ (x : Int) - b by omega) with hs | hs
        · go_wp2_with (at_builtin; refine wpList_append_own_at _ rfl _ _ 73 rfl w.heap.size 3 i0 (.int .i64 0) 1 8 Tryz.underlying73 hi hz0 hz1 hz2 rfl (by decide) _ _ _ rfl (hown.alloc _) ⟨wr.heap.size, 0, none⟩ 1 1 [_] rfl rfl (cell_one_new _ _ _) (by intro u hu; simp at hu; subst hu; rfl) (by unfold maxLen; omega) (by omega) (by simp; omega) ?_; intro v' w1 hown' hgrow _ _)
          have hb1 : Below w.heap.size w w1 := (HBel.out.alloc hwB _).trans (OwnL.grown (k := .i64) (l := l) (e := 3) (by rw [OwnL, HK.out]; exact hown.alloc _) (by simp; omega) hgrow)
          have hown2 := OwnL.snoc' (x + 16777216 - b) (by rw [HK.out]; exact hown') (by omega)
          refine ⟨RMinusRel.step (wr := wr) (d := x + 16777216 - b) (b' := 1) (by rw [HN.out, HK.out]; exact hlt) HD.out (by rw [HK.out]; exact HX.out) (by rw [HK.out]; exact HY.out) HVL.out (by omega) (by omega) hb hxB hyB (by omega) hown2 hb1 _ _ (by rw [HK.out]) (by rfl), by simp only [intOf]; omega⟩
        · go_wp2_with (at_builtin; refine wpList_append_own_at _ rfl _ _ 73 rfl w.heap.size 3 i0 (.int .i64 0) 1 8 Tryz.underlying73 hi hz0 hz1 hz2 rfl (by decide) _ _ _ rfl (hown.alloc _) ⟨wr.heap.size, 0, none⟩ 1 1 [_] rfl rfl (cell_one_new _ _ _) (by intro u hu; simp at hu; subst hu; rfl) (by unfold maxLen; omega) (by omega) (by simp; omega) ?_; intro v' w1 hown' hgrow _ _)
          have hb1 : Below w.heap.size w w1 := (HBel.out.alloc hwB _).trans (OwnL.grown (k := .i64) (l := l) (e := 3) (by rw [OwnL, HK.out]; exact hown.alloc _) (by simp; omega) hgrow)
          have hown2 := OwnL.snoc' (x - b) (by rw [HK.out]; exact hown') (by omega)
          refine ⟨RMinusRel.step (wr := wr) (d := x - b) (b' := 0) (by rw [HN.out, HK.out]; exact hlt) HD.out (by rw [HK.out]; exact HX.out) (by rw [HK.out]; exact HY.out) HVL.out (by omega) (by omega) hb hxB hyB (by omega) hown2 hb1 _ _ (by rw [HK.out]) (by rfl), by simp only [intOf]; omega⟩
    · go_wp2_with fail
      refine (rtrim_any (b := 16777216) HO.out.sl).mono ?_
      rintro e w' ⟨v', l', rfl, hsl, hdl, htl, hvl, hll, rfl⟩
      have HSL := Lib.hid hsl; have HDL := Lib.hid hdl; have HTL := Lib.hid htl; have HVL' := Lib.hid hvl
      clear hsl hdl htl hvl
      go_wp2
      go_ret
      refine ⟨_, l', rfl, HSL.out, HDL.out HD.out, HTL.out, ?_, by have := HK.out; omega, HBel.out⟩
      rw [HVL'.out]
      have h := HVL.out
      have e1 : l.length = N := by have := HK.out; omega
      rw [List.take_of_length_le (by have := HM.out; omega), List.take_of_length_le (by have := HN.out; omega)] at h
      have h2 := vl_lt HD.out
      have h3 := HLE.out
      rcases (show b = 0 ∨ b = 1 by omega) with rfl | rfl
      · omega
      · rw [Nat.one_mul] at h
        generalize 16777216 ^ l.length = P at *
        omega

#print axioms rminus_any
end Go.Proofs.YtmbgohaljiiigaaGreatDoor
