/- sortesref01's digits: times, cmp, minus, digit. -/
import Derived.Test.YtolmjeglaolhlaaGreatDoorROwn
import Derived.Test.YtolmjeglaolhlaaGreatDoorPlain
import Derived.Test.YtolmjeglaolhlaaGreatDoorLims

namespace Go.Proofs.YtolmjeglaolhlaaGreatDoor
open Go.RowKit Num

def RTimesRel (w : World) (u : List Nat) (m : Nat) (o c k : Value) (wr : World) : Prop :=
  ∃ (l : List Nat) (b : Nat), l.length ≤ u.length ∧ b < 16777216 ∧ k = .int .i64 (l.length : Int) ∧ c = .int .i64 (b : Int) ∧ OwnL .i64 wr w.heap.size 3 o l ∧ Dig 16777216 l ∧
    vl 16777216 l + b * 16777216 ^ l.length = vl 16777216 (u.take l.length) * m ∧ Below w.heap.size w wr

theorem RTimesRel.step {w w' : World} {u l : List Nat} {m b x s : Nat} {v' : Value} (hl : l.length < u.length) (hd : Dig 16777216 l) (hx : u.getD l.length 0 = x)
    (hv : vl 16777216 l + b * 16777216 ^ l.length = vl 16777216 (u.take l.length) * m) (hb : b < 16777216) (hxB : x < 16777216) (hmB : m < 16777216) (hs : s = x * m + b)
    (ho : OwnL .i64 w' w.heap.size 3 v' (l ++ [s % 16777216])) (hbel : Below w.heap.size w w') (z zb : Int) (hz : z = (l.length : Int) + 1) (hzb : zb = ((s / 16777216 : Nat) : Int)) :
    RTimesRel w u m v' (.int .i64 zb) (.int .i64 z) w' := by
  have h1 : x * m ≤ 16777215 * 16777215 := Nat.mul_le_mul (by omega) (by omega)
  refine ⟨l ++ [s % 16777216], s / 16777216, by simp; omega, by omega, by rw [hz]; simp, by rw [hzb], ho, hd.append (Dig.cons (Nat.mod_lt _ (by decide)) (Dig.nil _)), ?_, hbel⟩
  rw [List.length_append, List.length_cons, List.length_nil, Nat.zero_add]
  exact times_step hx rfl hv (s % 16777216) (s / 16777216) (by rw [hs]; omega)

set_option maxRecDepth 100000 in
set_option maxHeartbeats 2000000 in
/-- **sortesref01.times**. -/
theorem rtimes_any {vu : Value} {u : List Nat} {m : Nat} {w : World} (hsu : Sl .i64 w vu u) (hdu : Dig 16777216 u) (hm : m < 16777216) (hsz : u.length ≤ 268435456) :
    Calls Tryz.prog 118 #[vu, .int .i64 (m : Int)] w fun e w' => ∃ v' l', e = .returned v' ∧ Sl .i64 w' v' l' ∧ Dig 16777216 l' ∧ Tr l' ∧ vl 16777216 l' = vl 16777216 u * m ∧ l'.length ≤ u.length + 1 ∧ Below w.heap.size w w' := by
  obtain ⟨i0, hi, hz0, hz1, hz2⟩ := info_parts info_int
  obtain ⟨au, cu, rfl, hu1, hu2, hu3⟩ := hsu
  obtain ⟨N, hN⟩ : ∃ N, u.length = N := ⟨_, rfl⟩
  rw [hN] at hu1 hu3 hsz ⊢
  have HN := Lib.hid hN; have HU := Lib.hid hu3; have HDU := Lib.hid hdu
  clear hN hu3 hdu
  go_enter Tryz.func118, Tryz.ntmps118
  go_wp2
  go_loopw [5, 6, 7] (fun o c k wr => RTimesRel w u m o c k wr) (fun _ _ k _ => N - (intOf k).toNat)
  case atStart => exact ⟨[], 0, by simp, by omega, rfl, rfl, OwnL.nil _ _ _ _, Dig.nil _, by simp, Below.refl _ _⟩
  case round =>
    obtain ⟨l, b, hl, hb, rfl, rfl, ho, hd, hv, hbel⟩ := hrel
    have HO := Lib.hid ho; have HD := Lib.hid hd; have HVL := Lib.hid hv; have HBel := Lib.hid hbel
    clear ho hd hv hbel
    rw [HN.out] at hl
    obtain ⟨K, hK⟩ : ∃ K, l.length = K := ⟨_, rfl⟩
    have HK := Lib.hid hK
    rw [hK] at hl ⊢
    clear hK
    have hown : wr.ownsRow w.heap.size 3 1 u5 K (ints .i64 l) := by rw [← HK.out]; exact HO.out
    have hwB := HBel.out.size
    rcases Nat.lt_or_ge K N with hlt | hge
    · obtain ⟨bu, ou, hau, hbu, hru⟩ := HU.out (by omega)
      subst hau
      have hcu := hru K (by rw [HN.out]; exact hlt)
      have hcu2 := (HBel.out.cell (p := ⟨bu, ou + K, none⟩) hbu).trans hcu
      obtain ⟨x, hx⟩ : ∃ x, u.getD K 0 = x := ⟨_, rfl⟩
      have hxB : x < 16777216 := by rw [← hx]; exact HDU.out.get (by decide) K
      rw [hx] at hcu2
      have HX := Lib.hid hx
      clear hru hcu hx HU
      obtain ⟨p, hp, hpb, HP⟩ : ∃ p : Nat, (x : Int) * (m : Int) = (p : Int) ∧ p ≤ 281474976710656 ∧ Hid (p = x * m) :=
        ⟨x * m, by simp, Nat.le_trans (Nat.mul_le_mul (Nat.le_of_lt hxB) (Nat.le_of_lt hm)) (by decide), Lib.hid rfl⟩
      go_wp2_with (at_builtin; refine wpList_append_own_at _ rfl _ _ 76 rfl w.heap.size 3 i0 (.int .i64 0) 1 8 Tryz.underlying76 hi hz0 hz1 hz2 rfl (by decide) _ _ _ rfl (hown.alloc _) ⟨wr.heap.size, 0, none⟩ 1 1 [_] rfl rfl (cell_one_new _ _ _) (by intro u hu; simp at hu; subst hu; rfl) (by unfold maxLen; omega) (by omega) (by simp; omega) ?_; intro v' w1 hown' hgrow _ _)
      have hb1 : Below w.heap.size w w1 := (HBel.out.alloc hwB _).trans (OwnL.grown (k := .i64) (l := l) (e := 3) (by rw [OwnL, HK.out]; exact hown.alloc _) (by simp; omega) hgrow)
      have hown2 := OwnL.snoc' ((p + b) % 16777216) (by rw [HK.out]; exact hown') (by omega)
      refine ⟨RTimesRel.step (s := p + b) (by rw [HN.out, HK.out]; exact hlt) HD.out (by rw [HK.out]; exact HX.out) HVL.out hb hxB hm (by rw [HP.out]) hown2 hb1 _ _ (by rw [HK.out]) (by omega), by simp only [intOf]; omega⟩
    · go_wp2_with (at_builtin; refine wpList_append_own_at _ rfl _ _ 76 rfl w.heap.size 3 i0 (.int .i64 0) 1 8 Tryz.underlying76 hi hz0 hz1 hz2 rfl (by decide) _ _ _ rfl (hown.alloc _) ⟨wr.heap.size, 0, none⟩ 1 1 [_] rfl rfl (cell_one_new _ _ _) (by intro u hu; simp at hu; subst hu; rfl) (by unfold maxLen; omega) (by omega) (by simp; omega) ?_; intro v' w1 hown' hgrow _ _)
      have hb1 : Below w.heap.size w w1 := (HBel.out.alloc hwB _).trans (OwnL.grown (k := .i64) (l := l) (e := 3) (by rw [OwnL, HK.out]; exact hown.alloc _) (by simp; omega) hgrow)
      have hown2 := OwnL.snoc' b (by rw [HK.out]; exact hown') rfl
      refine (rtrim_any (b := 16777216) hown2.sl).mono ?_
      rintro e w' ⟨v', l', rfl, hsl, hdl, htl, hvl, hll, rfl⟩
      have HSL := Lib.hid hsl; have HDL := Lib.hid hdl; have HTL := Lib.hid htl; have HVL' := Lib.hid hvl
      clear hsl hdl htl hvl
      go_wp2
      go_ret
      simp only [List.length_append, List.length_cons, List.length_nil] at hll
      refine ⟨_, l', rfl, HSL.out, HDL.out (HD.out.append (Dig.cons hb (Dig.nil _))), HTL.out, ?_, by have := HK.out; omega, hb1⟩
      rw [HVL'.out, vl_snoc]
      have h := HVL.out
      rw [List.take_of_length_le (by have := HN.out; have := HK.out; omega)] at h
      rw [← h, Nat.mul_comm b]

#print axioms rtimes_any
end Go.Proofs.YtolmjeglaolhlaaGreatDoor

namespace Go.Proofs.YtolmjeglaolhlaaGreatDoor
open Go.RowKit Num

/-- z says how m and n compare. -/
def Sgn (z : Int) (m n : Nat) : Prop := (z < 0 ∧ m < n) ∨ (z = 0 ∧ m = n) ∨ (0 < z ∧ n < m)
theorem Sgn.neg {z : Int} {m n : Nat} (h : m < n) (hz : z < 0) : Sgn z m n := .inl ⟨hz, h⟩
theorem Sgn.pos {z : Int} {m n : Nat} (h : n < m) (hz : 0 < z) : Sgn z m n := .inr (.inr ⟨hz, h⟩)
theorem Sgn.eq {z : Int} {m n : Nat} (h : m = n) (hz : z = 0) : Sgn z m n := .inr (.inl ⟨hz, h⟩)

/-- What comes out of a comparison of digits. -/
def RCmpPost (w : World) (m n : Nat) (e : Ending) (w' : World) : Prop := ∃ z : Int, e = .returned (.int .i64 z) ∧ Sgn z m n ∧ -2147483648 ≤ z ∧ z ≤ 2147483648 ∧ Below w.heap.size w w'

set_option maxRecDepth 100000 in
set_option maxHeartbeats 800000 in
theorem rcmp_any {va vb : Value} {la lb : List Nat} {w : World} (ha : Sl .i64 w va la) (hb : Sl .i64 w vb lb) (da : Dig 16777216 la) (db : Dig 16777216 lb) (ta : Tr la) (tb : Tr lb) (hza : la.length ≤ 268435456) (hzb : lb.length ≤ 268435456) :
    Calls Tryz.prog 115 #[va, vb] w (RCmpPost w (vl 16777216 la) (vl 16777216 lb)) := by
  obtain ⟨aa, ca, rfl, hca, hca2, ha⟩ := ha
  obtain ⟨ab, cb, rfl, hcb, hcb2, hb⟩ := hb
  have Ha := Lib.hid ha; have Hb := Lib.hid hb
  clear ha hb
  rcases Nat.lt_trichotomy la.length lb.length with h | h | h
  · have hne : ((la.length : Int) != (lb.length : Int)) = true := by rw [bne_iff_ne]; omega
    go_enter Tryz.func115, Tryz.ntmps115
    go_wp2
    go_ret
    exact ⟨_, rfl, .neg (vl_lt_of_length (by decide) da tb h) (by omega), by omega, by omega, Below.refl _ _⟩
  · generalize hn : la.length = n at *
    have hn' := h.symm
    rw [hn']
    clear h
    have HNa := Lib.hid hn; have HNb := Lib.hid hn'
    clear hn hn'
    go_enter Tryz.func115, Tryz.ntmps115
    go_wp2
    go_loopw [5] (fun i wr => CmpRel la lb n i w wr) (fun i _ => (intOf i + 1).toNat)
    case atStart => exact ⟨n, _, rfl, rfl, Nat.le_refl _, by rw [List.drop_of_length_le (by rw [HNa.out]; exact Nat.le_refl _), List.drop_of_length_le (by rw [HNb.out]; exact Nat.le_refl _)], Below.refl _ _⟩
    case round =>
      obtain ⟨k, z, rfl, hz, hk, hd, hbel⟩ := hrel
      have HD := Lib.hid hd; have HBel := Lib.hid hbel
      clear hd hbel
      cases k with
      | zero =>
        obtain rfl : z = -1 := by omega
        clear hz
        go_wp2
        go_ret
        exact ⟨_, rfl, .eq (congrArg (vl 16777216) (by simpa using HD.out)) rfl, by omega, by omega, HBel.out⟩
      | succ j =>
        obtain rfl : z = (j : Int) := by omega
        clear hz
        obtain ⟨b, off, rfl, hbl, hrow⟩ := Ha.out (by omega)
        obtain ⟨b2, off2, rfl, hbl2, hrow2⟩ := Hb.out (by rw [HNb.out]; omega)
        have hx := (hrow.below hbl HBel.out) j (by rw [HNa.out]; omega)
        have hy := (hrow2.below hbl2 HBel.out) j (by rw [HNb.out]; omega)
        clear hrow hrow2 Ha Hb
        generalize hxe : la.getD j 0 = x at hx
        generalize hye : lb.getD j 0 = y at hy
        have hxB : x < 16777216 := by rw [← hxe]; exact da.get (by decide) j
        have hyB : y < 16777216 := by rw [← hye]; exact db.get (by decide) j
        have HX := Lib.hid hxe; clear hxe
        have HY := Lib.hid hye; clear hye
        go_wp2
        rcases Nat.lt_trichotomy x y with hxy | hxy | hxy
        · have hne : ((x : Int) != (y : Int)) = true := by rw [bne_iff_ne]; omega
          go_region
          go_wp2
          go_region
          go_wp2
          go_ret
          exact ⟨_, rfl, .neg (vl_lt_at da (HNa.out.trans HNb.out.symm) (by rw [HNa.out]; omega) HD.out (by rw [HX.out, HY.out]; exact hxy)) (by omega), by omega, by omega, HBel.out.drew.drew⟩
        · subst hxy
          go_region
          go_wp2
          refine ⟨⟨j, _, rfl, rfl, by omega, ?_, HBel.out.drew⟩, by simp [intOf]⟩
          rw [List.drop_eq_getElem_cons (l := la) (i := j) (by rw [HNa.out]; omega), List.drop_eq_getElem_cons (l := lb) (i := j) (by rw [HNb.out]; omega), HD.out]
          have e1 := HX.out
          have e2 := HY.out
          rw [List.getD_eq_getElem?_getD, List.getElem?_eq_getElem (by rw [HNa.out]; omega)] at e1
          rw [List.getD_eq_getElem?_getD, List.getElem?_eq_getElem (by rw [HNb.out]; omega)] at e2
          simp only [Option.getD_some] at e1 e2
          rw [e1, e2]
        · have hne : ((x : Int) != (y : Int)) = true := by rw [bne_iff_ne]; omega
          go_region
          go_wp2
          go_region
          go_wp2
          go_ret
          exact ⟨_, rfl, .pos (vl_lt_at db (HNb.out.trans HNa.out.symm) (by rw [HNb.out]; omega) HD.out.symm (by rw [HX.out, HY.out]; exact hxy)) (by omega), by omega, by omega, HBel.out.drew.drew⟩
  · have hne : ((la.length : Int) != (lb.length : Int)) = true := by rw [bne_iff_ne]; omega
    go_enter Tryz.func115, Tryz.ntmps115
    go_wp2
    go_ret
    exact ⟨_, rfl, .pos (vl_lt_of_length (by decide) db ta h) (by omega), by omega, by omega, Below.refl _ _⟩

#print axioms rcmp_any
end Go.Proofs.YtolmjeglaolhlaaGreatDoor

namespace Go.Proofs.YtolmjeglaolhlaaGreatDoor
open Go.RowKit Num

def RMinusRel (w : World) (u v : List Nat) (o br k : Value) (wr : World) : Prop :=
  ∃ (l : List Nat) (b : Nat), l.length ≤ u.length ∧ b ≤ 1 ∧ k = .int .i64 (l.length : Int) ∧ br = .int .i64 (b : Int) ∧ OwnL .i64 wr w.heap.size 3 o l ∧ Dig 16777216 l ∧
    vl 16777216 l + vl 16777216 (v.take l.length) = vl 16777216 (u.take l.length) + b * 16777216 ^ l.length ∧ Below w.heap.size w wr

theorem RMinusRel.step {w wr w' : World} {u v l : List Nat} {b x y d b' : Nat} {v' : Value} (hl : l.length < u.length) (hd : Dig 16777216 l) (hx : u.getD l.length 0 = x) (hy : v.getD l.length 0 = y)
    (hv : vl 16777216 l + vl 16777216 (v.take l.length) = vl 16777216 (u.take l.length) + b * 16777216 ^ l.length) (hdB : d < 16777216) (hb' : b' ≤ 1) (hb : b ≤ 1) (hxB : x < 16777216) (hyB : y < 16777216) (hdd : d + b + y = x + b' * 16777216)
    (ho : OwnL .i64 w' w.heap.size 3 v' (l ++ [d])) (hbel : Below w.heap.size w w') (z zb : Int) (hz : z = (l.length : Int) + 1) (hzb : zb = (b' : Int)) :
    RMinusRel w u v v' (.int .i64 zb) (.int .i64 z) w' := by
  have _ := wr
  refine ⟨l ++ [d], b', by simp; omega, hb', by rw [hz]; simp, by rw [hzb], ho, hd.append (Dig.cons hdB (Dig.nil _)), ?_, hbel⟩
  rw [List.length_append, List.length_cons, List.length_nil, Nat.zero_add]
  exact minus_step hx hy hb hxB hyB rfl hv d b' hdd

set_option maxRecDepth 100000 in
set_option maxHeartbeats 2000000 in
/-- **sortesref01.minus**. -/
theorem rminus_any {vu vv : Value} {u v : List Nat} {w : World} (hsu : Sl .i64 w vu u) (hsv : Sl .i64 w vv v) (hdu : Dig 16777216 u) (hdv : Dig 16777216 v) (hlen : v.length ≤ u.length) (hle : vl 16777216 v ≤ vl 16777216 u) (hsz : u.length ≤ 268435456) :
    Calls Tryz.prog 117 #[vu, vv] w fun e w' => ∃ v' l', e = .returned v' ∧ Sl .i64 w' v' l' ∧ Dig 16777216 l' ∧ Tr l' ∧ vl 16777216 l' = vl 16777216 u - vl 16777216 v ∧ l'.length ≤ u.length ∧ Below w.heap.size w w' := by
  obtain ⟨i0, hi, hz0, hz1, hz2⟩ := info_parts info_int
  obtain ⟨au, cu, rfl, hu1, hu2, hu3⟩ := hsu
  obtain ⟨av, cv, rfl, hv1, hv2, hv3⟩ := hsv
  obtain ⟨N, hN⟩ : ∃ N, u.length = N := ⟨_, rfl⟩
  obtain ⟨M, hM⟩ : ∃ M, v.length = M := ⟨_, rfl⟩
  rw [hN] at hu1 hu3 hsz hlen ⊢
  rw [hM] at hv1 hv3 hlen ⊢
  have HN := Lib.hid hN; have HM := Lib.hid hM; have HU := Lib.hid hu3; have HV := Lib.hid hv3; have HDU := Lib.hid hdu; have HDV := Lib.hid hdv; have HLE := Lib.hid hle
  clear hN hM hu3 hv3 hdu hdv hle
  go_enter Tryz.func117, Tryz.ntmps117
  go_wp2
  go_loopw [5, 6, 7] (fun o br k wr => RMinusRel w u v o br k wr) (fun _ _ k _ => N - (intOf k).toNat)
  case atStart => exact ⟨[], 0, by simp, by omega, rfl, rfl, OwnL.nil _ _ _ _, Dig.nil _, by simp, Below.refl _ _⟩
  case round =>
    obtain ⟨l, b, hl, hb, rfl, rfl, ho, hd, hv, hbel⟩ := hrel
    have HO := Lib.hid ho; have HD := Lib.hid hd; have HVL := Lib.hid hv; have HBel := Lib.hid hbel
    clear ho hd hv hbel
    rw [HN.out] at hl
    obtain ⟨K, hK⟩ : ∃ K, l.length = K := ⟨_, rfl⟩
    have HK := Lib.hid hK
    rw [hK] at hl ⊢
    clear hK
    rcases Nat.lt_or_ge K N with hlt | hge
    · obtain ⟨bu, ou, hau, hbu, hru⟩ := HU.out (by omega)
      subst hau
      have hcu := hru K (by rw [HN.out]; exact hlt)
      have hcu2 := (HBel.out.cell (p := ⟨bu, ou + K, none⟩) hbu).trans hcu
      obtain ⟨x, hx⟩ : ∃ x, u.getD K 0 = x := ⟨_, rfl⟩
      have hxB : x < 16777216 := by rw [← hx]; exact HDU.out.get (by decide) K
      rw [hx] at hcu2
      have HX := Lib.hid hx
      clear hru hcu hx
      obtain ⟨y, hy⟩ : ∃ y, v.getD K 0 = y := ⟨_, rfl⟩
      have hyB : y < 16777216 := by rw [← hy]; exact HDV.out.get (by decide) K
      have HY := Lib.hid hy
      have hown : wr.ownsRow w.heap.size 3 1 u5 K (ints .i64 l) := by rw [← HK.out]; exact HO.out
      have hwB := HBel.out.size
      clear hy
      have hcase : (K < M ∧ wr.cell? ⟨bu, ou + K, none⟩ = some (.int .i64 (x : Int)) ∧ ∃ bv ov, av = some ⟨bv, ov, none⟩ ∧ wr.cell? ⟨bv, ov + K, none⟩ = some (.int .i64 (y : Int))) ∨ (M ≤ K ∧ y = 0) := by
        rcases Nat.lt_or_ge K M with h | h
        · obtain ⟨bv, ov, hav, hbv, hrv⟩ := HV.out (by omega)
          have hcv := hrv K (by rw [HM.out]; exact h)
          rw [HY.out] at hcv
          exact .inl ⟨h, hcu2, bv, ov, hav, (HBel.out.cell (p := ⟨bv, ov + K, none⟩) hbv).trans hcv⟩
        · refine .inr ⟨h, ?_⟩
          rw [← HY.out, List.getD_eq_getElem?_getD, List.getElem?_eq_none (by rw [HM.out]; exact h)]
          rfl
      clear HU
      rcases hcase with ⟨hKM, -, bv, ov, hav, hcv⟩ | ⟨hKM, hy0⟩
      · subst hav
        rcases (show (x : Int) - b - y < 0 ∨ 0 ≤ (x : Int) - b - y by omega) with hs | hs
        · go_wp2_with (at_builtin; refine wpList_append_own_at _ rfl _ _ 76 rfl w.heap.size 3 i0 (.int .i64 0) 1 8 Tryz.underlying76 hi hz0 hz1 hz2 rfl (by decide) _ _ _ rfl (hown.alloc _) ⟨wr.heap.size, 0, none⟩ 1 1 [_] rfl rfl (cell_one_new _ _ _) (by intro u hu; simp at hu; subst hu; rfl) (by unfold maxLen; omega) (by omega) (by simp; omega) ?_; intro v' w1 hown' hgrow _ _)
          have hb1 : Below w.heap.size w w1 := (HBel.out.alloc hwB _).trans (OwnL.grown (k := .i64) (l := l) (e := 3) (by rw [OwnL, HK.out]; exact hown.alloc _) (by simp; omega) hgrow)
          have hown2 := OwnL.snoc' (x + 16777216 - b - y) (by rw [HK.out]; exact hown') (by omega)
          refine ⟨RMinusRel.step (wr := wr) (d := x + 16777216 - b - y) (b' := 1) (by rw [HN.out, HK.out]; exact hlt) HD.out (by rw [HK.out]; exact HX.out) (by rw [HK.out]; exact HY.out) HVL.out (by omega) (by omega) hb hxB hyB (by omega) hown2 hb1 _ _ (by rw [HK.out]) (by rfl), by simp only [intOf]; omega⟩
        · go_wp2_with (at_builtin; refine wpList_append_own_at _ rfl _ _ 76 rfl w.heap.size 3 i0 (.int .i64 0) 1 8 Tryz.underlying76 hi hz0 hz1 hz2 rfl (by decide) _ _ _ rfl (hown.alloc _) ⟨wr.heap.size, 0, none⟩ 1 1 [_] rfl rfl (cell_one_new _ _ _) (by intro u hu; simp at hu; subst hu; rfl) (by unfold maxLen; omega) (by omega) (by simp; omega) ?_; intro v' w1 hown' hgrow _ _)
          have hb1 : Below w.heap.size w w1 := (HBel.out.alloc hwB _).trans (OwnL.grown (k := .i64) (l := l) (e := 3) (by rw [OwnL, HK.out]; exact hown.alloc _) (by simp; omega) hgrow)
          have hown2 := OwnL.snoc' (x - b - y) (by rw [HK.out]; exact hown') (by omega)
          refine ⟨RMinusRel.step (wr := wr) (d := x - b - y) (b' := 0) (by rw [HN.out, HK.out]; exact hlt) HD.out (by rw [HK.out]; exact HX.out) (by rw [HK.out]; exact HY.out) HVL.out (by omega) (by omega) hb hxB hyB (by omega) hown2 hb1 _ _ (by rw [HK.out]) (by rfl), by simp only [intOf]; omega⟩
      · subst hy0
        rcases (show (x : Int) - b < 0 ∨ 0 ≤ (x : Int) - b by omega) with hs | hs
        · go_wp2_with (at_builtin; refine wpList_append_own_at _ rfl _ _ 76 rfl w.heap.size 3 i0 (.int .i64 0) 1 8 Tryz.underlying76 hi hz0 hz1 hz2 rfl (by decide) _ _ _ rfl (hown.alloc _) ⟨wr.heap.size, 0, none⟩ 1 1 [_] rfl rfl (cell_one_new _ _ _) (by intro u hu; simp at hu; subst hu; rfl) (by unfold maxLen; omega) (by omega) (by simp; omega) ?_; intro v' w1 hown' hgrow _ _)
          have hb1 : Below w.heap.size w w1 := (HBel.out.alloc hwB _).trans (OwnL.grown (k := .i64) (l := l) (e := 3) (by rw [OwnL, HK.out]; exact hown.alloc _) (by simp; omega) hgrow)
          have hown2 := OwnL.snoc' (x + 16777216 - b) (by rw [HK.out]; exact hown') (by omega)
          refine ⟨RMinusRel.step (wr := wr) (d := x + 16777216 - b) (b' := 1) (by rw [HN.out, HK.out]; exact hlt) HD.out (by rw [HK.out]; exact HX.out) (by rw [HK.out]; exact HY.out) HVL.out (by omega) (by omega) hb hxB hyB (by omega) hown2 hb1 _ _ (by rw [HK.out]) (by rfl), by simp only [intOf]; omega⟩
        · go_wp2_with (at_builtin; refine wpList_append_own_at _ rfl _ _ 76 rfl w.heap.size 3 i0 (.int .i64 0) 1 8 Tryz.underlying76 hi hz0 hz1 hz2 rfl (by decide) _ _ _ rfl (hown.alloc _) ⟨wr.heap.size, 0, none⟩ 1 1 [_] rfl rfl (cell_one_new _ _ _) (by intro u hu; simp at hu; subst hu; rfl) (by unfold maxLen; omega) (by omega) (by simp; omega) ?_; intro v' w1 hown' hgrow _ _)
          have hb1 : Below w.heap.size w w1 := (HBel.out.alloc hwB _).trans (OwnL.grown (k := .i64) (l := l) (e := 3) (by rw [OwnL, HK.out]; exact hown.alloc _) (by simp; omega) hgrow)
          have hown2 := OwnL.snoc' (x - b) (by rw [HK.out]; exact hown') (by omega)
          refine ⟨RMinusRel.step (wr := wr) (d := x - b) (b' := 0) (by rw [HN.out, HK.out]; exact hlt) HD.out (by rw [HK.out]; exact HX.out) (by rw [HK.out]; exact HY.out) HVL.out (by omega) (by omega) hb hxB hyB (by omega) hown2 hb1 _ _ (by rw [HK.out]) (by rfl), by simp only [intOf]; omega⟩
    · go_wp2_with fail
      refine (rtrim_any (b := 16777216) HO.out.sl).mono ?_
      rintro e w' ⟨v', l', rfl, hsl, hdl, htl, hvl, hll, rfl⟩
      have HSL := Lib.hid hsl; have HDL := Lib.hid hdl; have HTL := Lib.hid htl; have HVL' := Lib.hid hvl
      clear hsl hdl htl hvl
      go_wp2
      go_ret
      refine ⟨_, l', rfl, HSL.out, HDL.out HD.out, HTL.out, ?_, by have := HK.out; omega, HBel.out⟩
      rw [HVL'.out]
      have h := HVL.out
      have e1 : l.length = N := by have := HK.out; omega
      rw [List.take_of_length_le (by have := HM.out; omega), List.take_of_length_le (by have := HN.out; omega)] at h
      have h2 := vl_lt HD.out
      have h3 := HLE.out
      rcases (show b = 0 ∨ b = 1 by omega) with rfl | rfl
      · omega
      · rw [Nat.one_mul] at h
        generalize 16777216 ^ l.length = P at *
        omega

#print axioms rminus_any
end Go.Proofs.YtolmjeglaolhlaaGreatDoor

namespace Go.Proofs.YtolmjeglaolhlaaGreatDoor
open Go.RowKit Num

def RDigitRel (w : World) (q : Nat) (lo hi : Value) (wr : World) : Prop :=
  ∃ a b : Nat, a ≤ q ∧ q ≤ b ∧ b ≤ 16777215 ∧ lo = .int .i64 (a : Int) ∧ hi = .int .i64 (b : Int) ∧ Below w.heap.size w wr

set_option maxRecDepth 100000 in
set_option maxHeartbeats 1000000 in
theorem rdigit_any {vu vv : Value} {u v : List Nat} {w : World} (hsu : Sl .i64 w vu u) (hsv : Sl .i64 w vv v) (hdu : Dig 16777216 u) (hdv : Dig 16777216 v) (htu : Tr u) (hlu : u.length ≤ 200000000) (hlv : v.length ≤ 200000000)
    (hpos : 0 < vl 16777216 v) (hq : vl 16777216 u / vl 16777216 v ≤ 16777215) :
    Calls Tryz.prog 116 #[vu, vv] w fun e w' => e = .returned (.int .i64 ((vl 16777216 u / vl 16777216 v : Nat) : Int)) ∧ Below w.heap.size w w' := by
  obtain ⟨q, hqe⟩ : ∃ q, vl 16777216 u / vl 16777216 v = q := ⟨_, rfl⟩
  rw [hqe] at hq ⊢
  have HQ := Lib.hid hqe; have HP := Lib.hid hpos
  clear hqe hpos
  go_enter Tryz.func116, Tryz.ntmps116
  go_wp2
  go_loopw [5, 6] (fun lo hi wr => RDigitRel w q lo hi wr) (fun lo hi _ => (intOf hi - intOf lo).toNat)
  case atStart => exact ⟨0, 16777215, by omega, hq, by omega, rfl, rfl, Below.refl _ _⟩
  case round =>
    obtain ⟨a, b, ha, hb, hb2, rfl, rfl, hbel⟩ := hrel
    have HBel := Lib.hid hbel; clear hbel
    rcases Nat.lt_or_ge a b with hlt | hge
    · obtain ⟨mid, hmid⟩ : ∃ mid : Nat, ((a : Int) + (b : Int) + 1) / 2 = (mid : Int) := ⟨(a + b + 1) / 2, by omega⟩
      have hm1 : a < mid := by omega
      have hm2 : mid ≤ b := by omega
      have hm3 : 2 * mid ≤ a + b + 1 := by omega
      go_wp2_with fail
      refine (rtimes_any (m := mid) (hsv.below HBel.out) hdv (by omega) (by omega)).mono ?_
      rintro e w1 ⟨v', l', rfl, hst, hdt, htt, hvt, hlt', hb1⟩
      have HB1 := Lib.hid hb1; have HVT := Lib.hid hvt
      clear hb1 hvt
      go_wp2_with fail
      refine (rcmp_any hst ((hsu.below HBel.out).below HB1.out) hdt hdu htt htu (by omega) (by omega)).mono ?_
      rintro e w2 ⟨z, rfl, hsgn, hz1, hz2, hb3⟩
      have hB := HBel.out.trans ((HB1.out.trans (hb3.mono HB1.out.size)).mono HBel.out.size)
      rw [HVT.out] at hsgn
      have hsg : (z ≤ 0 ∧ mid ≤ q) ∨ (0 < z ∧ q < mid) := by
        have h1 : mid ≤ q ↔ vl 16777216 v * mid ≤ vl 16777216 u := by
          rw [← HQ.out, Nat.le_div_iff_mul_le HP.out, Nat.mul_comm]
        rcases hsgn with ⟨h2, h3⟩ | ⟨h2, h3⟩ | ⟨h2, h3⟩
        · exact .inl ⟨by omega, h1.2 (by omega)⟩
        · exact .inl ⟨by omega, h1.2 (by omega)⟩
        · refine .inr ⟨h2, ?_⟩
          rcases Nat.lt_or_ge q mid with h4 | h4
          · exact h4
          · have := h1.1 h4; omega
      have HB := Lib.hid hB
      clear hsgn hst hdt htt hlt' hB hb3
      rcases hsg with ⟨hz, hmq⟩ | ⟨hz, hmq⟩
      · go_wp2
        go_roundw
        case rel => exact ⟨mid, b, hmq, hb, hb2, rfl, rfl, HB.out⟩
        case measure => simp [intOf]; omega
      · go_wp2
        go_roundw
        case rel => exact ⟨a, mid - 1, ha, by omega, by omega, rfl, by congr 1; omega, HB.out⟩
        case measure => simp [intOf]; omega
    · obtain rfl : a = q := by omega
      go_wp2
      go_ret
      exact ⟨rfl, HBel.out⟩

#print axioms rdigit_any
end Go.Proofs.YtolmjeglaolhlaaGreatDoor
