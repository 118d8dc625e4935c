/- sortesref01.times: the digits of a multiple. -/
import Derived.Test.YtmbgohaljiiigaaGreatDoorROwn
import Derived.Test.YtmbgohaljiiigaaGreatDoorRMath
namespace Go.Proofs.YtmbgohaljiiigaaGreatDoor
open Go.RowKit Num

def RTimesRel (w : World) (u : List Nat) (m : Nat) (o c k : Value) (wr : World) : Prop :=
  ∃ (l : List Nat) (b : Nat), l.length ≤ u.length ∧ b < 16777216 ∧ k = .int .i64 (l.length : Int) ∧ c = .int .i64 (b : Int) ∧ OwnL .i64 wr w.heap.size 3 o l ∧ Dig 16777216 l ∧
    vl 16777216 l + b * 16777216 ^ l.length = vl 16777216 (u.take l.length) * m ∧ Below w.heap.size w wr

theorem RTimesRel.step {w w' : World} {u l : List Nat} {m b x s : Nat} {v' : Value} (hl : l.length < u.length) (hd : Dig 16777216 l) (hx : u.getD l.length 0 = x)
    (hv : vl 16777216 l + b * 16777216 ^ l.length = vl 16777216 (u.take l.length) * m) (hb : b < 16777216) (hxB : x < 16777216) (hmB : m < 16777216) (hs : s = x * m + b)
    (ho : OwnL .i64 w' w.heap.size 3 v' (l ++ [s % 16777216])) (hbel : Below w.heap.size w w') (z zb : Int) (hz : z = (l.length : Int) + 1) (hzb : zb = ((s / 16777216 : Nat) : Int)) :
    RTimesRel w u m v' (.int .i64 zb) (.int .i64 z) w' := by
  have h1 : x * m ≤ 16777215 * 16777215 := Nat.mul_le_mul (by omega) (by omega)
  refine ⟨l ++ [s % 16777216], s / 16777216, by simp; omega, by omega, by rw [hz]; simp, by rw [hzb], ho, hd.append (Dig.cons (Nat.mod_lt _ (by decide)) (Dig.nil _)), ?_, hbel⟩
  rw [List.length_append, List.length_cons, List.length_nil, Nat.zero_add]
  exact times_step hx rfl hv (s % 16777216) (s / 16777216) (by rw [hs]; omega)

set_option maxRecDepth 100000 in
set_option maxHeartbeats 2000000 in
/-- **sortesref01.times**. -/
theorem rtimes_any {vu : Value} {u : List Nat} {m : Nat} {w : World} (hsu : Sl .i64 w vu u) (hdu : Dig 16777216 u) (hm : m < 16777216) (hsz : u.length ≤ 268435456) :
    Calls Tryz.prog 101 #[vu, .int .i64 (m : Int)] w fun e w' => ∃ v' l', e = .returned v' ∧ Sl .i64 w' v' l' ∧ Dig 16777216 l' ∧ Tr l' ∧ vl 16777216 l' = vl 16777216 u * m ∧ l'.length ≤ u.length + 1 ∧ Below w.heap.size w w' := by
  obtain ⟨i0, hi, hz0, hz1, hz2⟩ := info_parts info_int
  obtain ⟨au, cu, rfl, hu1, hu2, hu3⟩ := hsu
  obtain ⟨N, hN⟩ : ∃ N, u.length = N := ⟨_, rfl⟩
  rw [hN] at hu1 hu3 hsz ⊢
  have HN := Lib.hid hN; have HU := Lib.hid hu3; have HDU := Lib.hid hdu
  clear hN hu3 hdu
  go_enter Tryz.func101, Tryz.ntmps101
  go_wp2
  go_loopw [5, 6, 7] (fun o c k wr => RTimesRel w u m o c k wr) (fun _ _ k _ => N - (intOf k).toNat)
  case atStart => exact ⟨[], 0, by simp, by omega, rfl, rfl, OwnL.nil _ _ _ _, Dig.nil _, by simp, Below.refl _ _⟩
  case round =>
    obtain ⟨l, b, hl, hb, rfl, rfl, ho, hd, hv, hbel⟩ := hrel
    have HO := Lib.hid ho; have HD := Lib.hid hd; have HVL := Lib.hid hv; have HBel := Lib.hid hbel
    clear ho hd hv hbel
    rw [HN.out] at hl
    obtain ⟨K, hK⟩ : ∃ K, l.length = K := ⟨_, rfl⟩
    have HK := Lib.hid hK
    rw [hK] at hl ⊢
    clear hK
    have hown : wr.ownsRow w.heap.size 3 1 u5 K (ints .i64 l) := by rw [← HK.out]; exact HO.out
    have hwB := HBel.out.size
    rcases Nat.lt_or_ge K N with hlt | hge
    · obtain ⟨bu, ou, hau, hbu, hru⟩ := HU.out (by omega)
      subst hau
      have hcu := hru K (by rw [HN.out]; exact hlt)
      have hcu2 := (HBel.out.cell (p := ⟨bu, ou + K, none⟩) hbu).trans hcu
      obtain ⟨x, hx⟩ : ∃ x, u.getD K 0 = x := ⟨_, rfl⟩
      have hxB : x < 16777216 := by rw [← hx]; exact HDU.out.get (by decide) K
      rw [hx] at hcu2
      have HX := Lib.hid hx
      clear hru hcu hx HU
      obtain ⟨p, hp, hpb, HP⟩ : ∃ p : Nat, (x : Int) * (m : Int) = (p : Int) ∧ p ≤ 281474976710656 ∧ Hid (p = x * m) :=
        ⟨x * m, by simp, Nat.le_trans (Nat.mul_le_mul (Nat.le_of_lt hxB) (Nat.le_of_lt hm)) (by decide), Lib.hid rfl⟩
      go_wp2_with (at_builtin; refine wpList_append_own_at _ rfl _ _ 73 rfl w.heap.size 3 i0 (.int .i64 0) 1 8 Tryz.underlying73 hi hz0 hz1 hz2 rfl (by decide) _ _ _ rfl (hown.alloc _) ⟨wr.heap.size, 0, none⟩ 1 1 [_] rfl rfl (cell_one_new _ _ _) (by intro u hu; simp at hu; subst hu; rfl) (by unfold maxLen; omega) (by omega) (by simp; omega) ?_; intro v' w1 hown' hgrow _ _)
      have hb1 : Below w.heap.size w w1 := (HBel.out.alloc hwB _).trans (OwnL.grown (k := .i64) (l := l) (e := 3) (by rw [OwnL, HK.out]; exact hown.alloc _) (by simp; omega) hgrow)
      have hown2 := OwnL.snoc' ((p + b) % 16777216) (by rw [HK.out]; exact hown') (by omega)
      refine ⟨RTimesRel.step (s := p + b) (by rw [HN.out, HK.out]; exact hlt) HD.out (by rw [HK.out]; exact HX.out) HVL.out hb hxB hm (by rw [HP.out]) hown2 hb1 _ _ (by rw [HK.out]) (by omega), by simp only [intOf]; omega⟩
    · go_wp2_with (at_builtin; refine wpList_append_own_at _ rfl _ _ 73 rfl w.heap.size 3 i0 (.int .i64 0) 1 8 Tryz.underlying73 hi hz0 hz1 hz2 rfl (by decide) _ _ _ rfl (hown.alloc _) ⟨wr.heap.size, 0, none⟩ 1 1 [_] rfl rfl (cell_one_new _ _ _) (by intro u hu; simp at hu; subst hu; rfl) (by unfold maxLen; omega) (by omega) (by simp; omega) ?_; intro v' w1 hown' hgrow _ _)
      have hb1 : Below w.heap.size w w1 := (HBel.out.alloc hwB _).trans (OwnL.grown (k := .i64) (l := l) (e := 3) (by rw [OwnL, HK.out]; exact hown.alloc _) (by simp; omega) hgrow)
      have hown2 := OwnL.snoc' b (by rw [HK.out]; exact hown') rfl
      refine (rtrim_any (b := 16777216) hown2.sl).mono ?_
      rintro e w' ⟨v', l', rfl, hsl, hdl, htl, hvl, hll, rfl⟩
      have HSL := Lib.hid hsl; have HDL := Lib.hid hdl; have HTL := Lib.hid htl; have HVL' := Lib.hid hvl
      clear hsl hdl htl hvl
      go_wp2
      go_ret
      simp only [List.length_append, List.length_cons, List.length_nil] at hll
      refine ⟨_, l', rfl, HSL.out, HDL.out (HD.out.append (Dig.cons hb (Dig.nil _))), HTL.out, ?_, by have := HK.out; omega, hb1⟩
      rw [HVL'.out, vl_snoc]
      have h := HVL.out
      rw [List.take_of_length_le (by have := HN.out; have := HK.out; omega)] at h
      rw [← h, Nat.mul_comm b]

#print axioms rtimes_any
end Go.Proofs.YtmbgohaljiiigaaGreatDoor
