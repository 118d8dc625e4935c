/- Sums, differences, products, comparisons of slices of digits. -/
import Derived.RegionTactic
import Derived.ChangeAlike
import Derived.BigRegion
import Derived.Deep.DeepCutAuto
import Derived.Test.YtolmjeglaolhlaaGreatDoorBase

/- The contract of nat.compare. -/
namespace Go.Proofs.YtolmjeglaolhlaaGreatDoor
open Go.RowKit Num

def CmpRel (la lb : List Nat) (n : Nat) (i : Value) (w wr : World) : Prop :=
  ∃ (k : Nat) (z : Int), i = .int .i64 z ∧ z = (k : Int) - 1 ∧ k ≤ n ∧ la.drop k = lb.drop k ∧ Below w.heap.size w wr

set_option maxRecDepth 100000 in
set_option maxHeartbeats 400000 in
/-- **nat.compare**: two numbers without zeros at the end. -/
theorem compare_any {va vb : Value} {la lb : List Nat} {w : World} (ha : Sl .u32 w va la) (hb : Sl .u32 w vb lb) (da : Dig 4294967296 la) (db : Dig 4294967296 lb) (ta : Tr la) (tb : Tr lb) :
    Calls Tryz.prog 93 #[va, vb] w fun e w' => e = .returned (.int .i64 (cmpZ (vl 4294967296 la) (vl 4294967296 lb))) ∧ Below w.heap.size w w' := by
  obtain ⟨aa, ca, rfl, hca, hca2, ha⟩ := ha
  obtain ⟨ab, cb, rfl, hcb, hcb2, hb⟩ := hb
  generalize hZ : cmpZ (vl 4294967296 la) (vl 4294967296 lb) = Z
  have HZ := Lib.hid hZ; clear hZ
  have Ha := Lib.hid ha; have Hb := Lib.hid hb
  clear ha hb
  rcases Nat.lt_trichotomy la.length lb.length with h | h | h
  · have hne : ((la.length : Int) != (lb.length : Int)) = true := by rw [bne_iff_ne]; omega
    go_enter Tryz.func93, Tryz.ntmps93
    go_wp2
    go_ret
    exact ⟨by rw [← HZ.out, cmpZ_lt (vl_lt_of_length (by decide) da tb h)]; rfl, Below.refl _ _⟩
  · generalize hn : la.length = n at *
    have hn' := h.symm
    rw [hn']
    clear h
    have HNa := Lib.hid hn; have HNb := Lib.hid hn'
    clear hn hn'
    go_enter Tryz.func93, Tryz.ntmps93
    go_wp2
    go_loopw [5] (fun i wr => CmpRel la lb n i w wr) (fun i _ => (intOf i + 1).toNat)
    case atStart => exact ⟨n, _, rfl, rfl, Nat.le_refl _, by rw [List.drop_of_length_le (by rw [HNa.out]; exact Nat.le_refl _), List.drop_of_length_le (by rw [HNb.out]; exact Nat.le_refl _)], Below.refl _ _⟩
    case round =>
      obtain ⟨k, z, rfl, hz, hk, hd, hbel⟩ := hrel
      have HD := Lib.hid hd; have HBel := Lib.hid hbel
      clear hd hbel
      cases k with
      | zero =>
        obtain rfl : z = -1 := by omega
        clear hz
        go_wp2
        go_ret
        exact ⟨by rw [← HZ.out, cmpZ_eq (congrArg (vl 4294967296) (by simpa using HD.out))]; rfl, HBel.out⟩
      | succ j =>
        obtain rfl : z = (j : Int) := by omega
        clear hz
        obtain ⟨b, off, rfl, hbl, hrow⟩ := Ha.out (by omega)
        obtain ⟨b2, off2, rfl, hbl2, hrow2⟩ := Hb.out (by rw [HNb.out]; omega)
        have hx := (hrow.below hbl HBel.out) j (by rw [HNa.out]; omega)
        have hy := (hrow2.below hbl2 HBel.out) j (by rw [HNb.out]; omega)
        clear hrow hrow2 Ha Hb
        generalize hxe : la.getD j 0 = x at hx
        generalize hye : lb.getD j 0 = y at hy
        have HX := Lib.hid hxe; clear hxe
        have HY := Lib.hid hye; clear hye
        go_wp2
        rcases Nat.lt_trichotomy x y with hxy | hxy | hxy
        · go_region
          go_wp2
          go_ret
          exact ⟨by rw [← HZ.out, cmpZ_lt (vl_lt_at da (HNa.out.trans HNb.out.symm) (by rw [HNa.out]; omega) HD.out (by rw [HX.out, HY.out]; exact hxy))]; rfl, HBel.out.drew⟩
        · subst hxy
          go_region
          go_wp2
          go_region
          go_wp2
          refine ⟨⟨j, _, rfl, rfl, by omega, ?_, HBel.out.drew.drew⟩, by simp [intOf]⟩
          rw [List.drop_eq_getElem_cons (l := la) (i := j) (by rw [HNa.out]; omega), List.drop_eq_getElem_cons (l := lb) (i := j) (by rw [HNb.out]; omega), HD.out]
          have e1 := HX.out
          have e2 := HY.out
          rw [List.getD_eq_getElem?_getD, List.getElem?_eq_getElem (by rw [HNa.out]; omega)] at e1
          rw [List.getD_eq_getElem?_getD, List.getElem?_eq_getElem (by rw [HNb.out]; omega)] at e2
          simp only [Option.getD_some] at e1 e2
          rw [e1, e2]
        · go_region
          go_wp2
          go_region
          go_wp2
          go_ret
          exact ⟨by rw [← HZ.out, cmpZ_gt (vl_lt_at db (HNb.out.trans HNa.out.symm) (by rw [HNb.out]; omega) HD.out.symm (by rw [HX.out, HY.out]; exact hxy))]; rfl, HBel.out.drew.drew⟩
  · have hne : ((la.length : Int) != (lb.length : Int)) = true := by rw [bne_iff_ne]; omega
    go_enter Tryz.func93, Tryz.ntmps93
    go_wp2
    go_ret
    exact ⟨by rw [← HZ.out, cmpZ_gt (vl_lt_of_length (by decide) db ta h)]; rfl, Below.refl _ _⟩

end Go.Proofs.YtolmjeglaolhlaaGreatDoor

/- The contract of nat.short: the division by one digit. -/
namespace Go.Proofs.YtolmjeglaolhlaaGreatDoor
open Go.RowKit Num

def ShortRel (w : World) (la : List Nat) (d : Nat) (r i : Value) (wr : World) : Prop :=
  ∃ (k rest : Nat) (z : Int) (o : List Nat), k ≤ la.length ∧ i = .int .i64 z ∧ z = (k : Int) - 1 ∧ r = .int .u64 (rest : Int) ∧ rest < d ∧ Blk wr w.heap.size 30 (ints .u32 o) ∧ o.length = la.length ∧
    Dig 4294967296 o ∧ vl 4294967296 (la.drop k) = d * vl 4294967296 (o.drop k) + rest ∧ Below w.heap.size w wr

theorem ShortRel.step {w wr : World} {la o : List Nat} {d j rest x y : Nat} (hx : la.getD j 0 = x) (hy : y = rest * 4294967296 + x) (hx32 : x < 4294967296) (hd0 : 0 < d)
    (hj : j < la.length) (hrd : rest < d) (hB : Blk wr w.heap.size 30 (ints .u32 o)) (ho : o.length = la.length) (hd : Dig 4294967296 o)
    (hv : vl 4294967296 (la.drop (j + 1)) = d * vl 4294967296 (o.drop (j + 1)) + rest) (hbel : Below w.heap.size w wr) :
    ShortRel w la d (.int .u64 ((y : Int) % (d : Int))) (.int .i64 ((j : Int) - 1)) (wr.setCell ⟨w.heap.size, j, none⟩ (.int .u32 (IntKind.u64.wrap ((y : Int) / (d : Int)) % 4294967296))).drew := by
  have hyq : y / d < 4294967296 := by
    rw [Nat.div_lt_iff_lt_mul hd0]
    have h1 : (rest + 1) * 4294967296 ≤ d * 4294967296 := Nat.mul_le_mul_right _ hrd
    rw [Nat.mul_comm 4294967296 d]
    omega
  have e1 : (y : Int) / (d : Int) = ((y / d : Nat) : Int) := by simp
  have e2 : (y : Int) % (d : Int) = ((y % d : Nat) : Int) := by simp
  have hr := Nat.mod_lt y hd0
  have hq := Nat.div_add_mod y d
  rw [e1, e2, IntKind.wrap_u64]
  clear e1 e2
  generalize y / d = q at *
  generalize y % d = r at *
  have e3 : ((q : Int) % 18446744073709551616) % 4294967296 = (q : Int) := by omega
  rw [e3]
  refine ⟨j, r, _, o.set j q, by omega, rfl, rfl, rfl, hr, (hB.set _ _).drew, by simpa using ho, hd.set _ _ hyq, ?_, (hbel.setCell (Nat.le_refl _) _).drew⟩
  rw [vl_drop _ _ _ hj, hx, hv, drop_set_self _ _ _ (by omega), vl_cons]
  generalize vl 4294967296 (o.drop (j + 1)) = V
  subst hy
  grind

set_option maxRecDepth 100000 in
set_option maxHeartbeats 800000 in
/-- **nat.short**: quotient and rest by one digit. -/
theorem short_any {va : Value} {la : List Nat} {w : World} (d : Nat) (ha : Sl .u32 w va la) (da : Dig 4294967296 la) (hd0 : 0 < d) (hd32 : d < 4294967296)
    (hsa : la.length ≤ 1073741824) :
    Calls Tryz.prog 99 #[va, .int .u32 (d : Int)] w fun e w' => ∃ v l, e = .returned (.tuple #[v, .int .u32 ((vl 4294967296 la % d : Nat) : Int)]) ∧ Sl .u32 w' v l ∧ Dig 4294967296 l ∧ Tr l ∧ vl 4294967296 l = vl 4294967296 la / d ∧ l.length ≤ la.length ∧ Below w.heap.size w w' := by
  obtain ⟨aa, ca, rfl, hca, _, ha⟩ := ha
  have hmk := run_make_row' (P := Tryz.prog) 80 30 (.int .u32 0) 4 Tryz.underlying80 info_u32 rfl .i64 .i64 la.length (by omega) (by omega)
  have hd1 : 1 ≤ (d : Int) := by omega
  have hd2 : ((d : Int) == 0) = false := by rw [beq_eq_false_iff_ne]; omega
  go_enter Tryz.func99, Tryz.ntmps99
  go_wp2
  go_loopw [7, 8] (fun r i wr => ShortRel w la d r i wr) (fun _ i _ => (intOf i + 1).toNat)
  case atStart =>
    exact ⟨la.length, 0, _, List.replicate la.length 0, Nat.le_refl _, rfl, rfl, rfl, hd0, Blk.made _ _ _ _, by simp, Dig.replicate (by decide) _, by simp, (Below.refl _ _).alloc (Nat.le_refl _) _⟩
  case round =>
    obtain ⟨k, rest, z, o, hk, rfl, hzk, rfl, hrd, hB, ho, hd, hv, hbel⟩ := hrel
    have HB := Lib.hid hB; have HO := Lib.hid ho; have HV := Lib.hid hv; have HBel := Lib.hid hbel
    clear hB ho hv hbel
    cases k with
    | succ j =>
      obtain rfl : z = (j : Int) := by omega
      clear hzk
      obtain ⟨b, off, rfl, hbl, hrow⟩ := ha (by omega)
      have hx := (hrow.below hbl HBel.out) j (by omega)
      have hx32 := da.get (by decide) j
      clear hrow ha
      generalize hxe : la.getD j 0 = x at hx hx32
      have HX := Lib.hid hxe; clear hxe
      have hwr := HB.out.get j (by have := HO.out; omega)
      have hfr := HB.out.free j
      obtain ⟨y, hor, hy1, hy2⟩ : ∃ y : Nat, bits .or .u64 ((rest : Int) * 4294967296) (x : Int) = (y : Int) ∧ y < 18446744073709551616 ∧ y = rest * 4294967296 + x := by
        refine ⟨rest * 4294967296 + x, ?_, by omega, rfl⟩
        have e := u64_or_nat (rest * 4294967296) x (by omega) (by omega)
        rw [or_mul rest x 32 (by omega)] at e
        rw [← e]
        rfl
      have HY := Lib.hid hy2; clear hy2
      go_wp2
      go_region
      go_wp2
      exact ⟨ShortRel.step HX.out HY.out hx32 hd0 (by omega) hrd HB.out HO.out hd HV.out HBel.out, by simp [intOf]⟩
    | zero =>
      obtain rfl : z = -1 := by omega
      clear hzk
      have hsl : Sl .u32 wr (.slice (some ⟨w.heap.size, 0, none⟩) la.length la.length) o := by
        have := HB.out.row.sl HB.out.lt la.length (by have := HO.out; omega) (by omega)
        simpa [HO.out] using this
      have HSL := Lib.hid hsl; clear hsl
      go_wp2_with fail
      refine (trim_any (b := 4294967296) HSL.out).mono ?_
      rintro e w' ⟨v', l', rfl, hs', hd', ht', hv', hl', rfl⟩
      go_wp2_with fail
      go_ret2
      have h1 := HV.out
      have h2 := HO.out
      simp only [List.drop_zero] at h1
      refine ⟨v', l', ?_, hs', hd' hd, ht', by rw [hv', h1, Nat.mul_add_div hd0, Nat.div_eq_of_lt hrd, Nat.add_zero], by omega, HBel.out⟩
      rw [h1, Nat.mul_add_mod, Nat.mod_eq_of_lt hrd]
      rfl

end Go.Proofs.YtolmjeglaolhlaaGreatDoor

/- The contract of nat.sum. -/
namespace Go.Proofs.YtolmjeglaolhlaaGreatDoor
open Go.RowKit Num

def SumRel (w : World) (la lb : List Nat) (c i : Value) (wr : World) : Prop :=
  ∃ (k carry : Nat) (o : List Nat), k ≤ la.length ∧ i = .int .i64 (k : Int) ∧ c = .int .u64 (carry : Int) ∧ carry ≤ 1 ∧ Blk wr w.heap.size 30 (ints .u32 o) ∧ o.length = la.length + 1 ∧
    Dig 4294967296 o ∧ (∀ j, k ≤ j → o.getD j 0 = 0) ∧ vl 4294967296 (o.take k) + carry * 4294967296 ^ k = vl 4294967296 (la.take k) + vl 4294967296 (lb.take k) ∧ Below w.heap.size w wr

theorem SumRel.step {w wr : World} {la lb o : List Nat} {k carry x y : Nat} {s : Int} (hx : la.getD k 0 = x) (hy : lb.getD k 0 = y) (hs : s = ((x + carry + y : Nat) : Int)) (hx32 : x < 4294967296) (hy32 : y < 4294967296)
    (hk : k < la.length) (hcy : carry ≤ 1) (hB : Blk wr w.heap.size 30 (ints .u32 o)) (ho : o.length = la.length + 1) (hd : Dig 4294967296 o) (hz : ∀ j, k ≤ j → o.getD j 0 = 0)
    (hv : vl 4294967296 (o.take k) + carry * 4294967296 ^ k = vl 4294967296 (la.take k) + vl 4294967296 (lb.take k)) (hbel : Below w.heap.size w wr) :
    SumRel w la lb (.int .u64 (s / 4294967296)) (.int .i64 (k + 1)) (wr.setCell ⟨w.heap.size, k, none⟩ (.int .u32 (s % 4294967296))) := by
  have e1 : s % 4294967296 = (((x + carry + y) % 4294967296 : Nat) : Int) := by omega
  have e2 : s / 4294967296 = (((x + carry + y) / 4294967296 : Nat) : Int) := by omega
  rw [e1, e2]
  refine ⟨k + 1, (x + carry + y) / 4294967296, o.set k ((x + carry + y) % 4294967296), by omega, rfl, rfl, by omega, hB.set _ _, by simpa using ho, hd.set _ _ (by omega), ?_, ?_, hbel.setCell (Nat.le_refl _) _⟩
  · intro j hj
    rw [ldigit_set_ne _ _ _ _ (by omega)]
    exact hz j (by omega)
  · rw [vl_take_set _ _ _ _ (by omega), vl_take_succ', vl_take_succ', hx, hy, Nat.pow_succ]
    have := Nat.mod_add_div (x + carry + y) 4294967296
    generalize (x + carry + y) / 4294967296 = q at *
    generalize (x + carry + y) % 4294967296 = r at *
    generalize 4294967296 ^ k = B at *
    grind

/-- The two arguments, the longer one first. -/
def SumArgs (w : World) (S n : Nat) (v0 v1 : Value) (wx : World) : Prop :=
  w = wx ∧ ∃ (aa ab : Option Addr) (ca cb : Nat) (la lb : List Nat), v0 = .slice aa la.length ca ∧ v1 = .slice ab lb.length cb ∧ lb.length ≤ la.length ∧ la.length ≤ n ∧ la.length ≤ ca ∧ lb.length ≤ cb ∧
    (0 < la.length → ∃ b off, aa = some ⟨b, off, none⟩ ∧ b < w.heap.size ∧ Row .u32 w b off la) ∧ (0 < lb.length → ∃ b off, ab = some ⟨b, off, none⟩ ∧ b < w.heap.size ∧ Row .u32 w b off lb) ∧
    Dig 4294967296 la ∧ Dig 4294967296 lb ∧ vl 4294967296 la + vl 4294967296 lb = S

set_option maxHeartbeats 400000 in
/-- **nat.sum**: the sum of two numbers. -/
theorem sum_any {va vb : Value} {la lb : List Nat} {w : World} (ha : Sl .u32 w va la) (hb : Sl .u32 w vb lb) (da : Dig 4294967296 la) (db : Dig 4294967296 lb)
    (hsa : la.length ≤ 1073741824) (hsb : lb.length ≤ 1073741824) :
    Calls Tryz.prog 73 #[va, vb] w fun e w' => ∃ v l, e = .returned v ∧ Sl .u32 w' v l ∧ Dig 4294967296 l ∧ Tr l ∧ vl 4294967296 l = vl 4294967296 la + vl 4294967296 lb ∧ l.length ≤ max la.length lb.length + 1 ∧ Below w.heap.size w w' := by
  obtain ⟨aa, ca, rfl, hca, _, ha⟩ := ha
  obtain ⟨ab, cb, rfl, hcb, _, hb⟩ := hb
  generalize hS : vl 4294967296 la + vl 4294967296 lb = S
  generalize hM : max la.length lb.length = M
  have HS := Lib.hid hS; clear hS
  have HM := Lib.hid hM; clear hM
  have hM1 : la.length ≤ M := by have := HM.out; omega
  have hM2 : lb.length ≤ M := by have := HM.out; omega
  have hM3 : M ≤ 1073741824 := by have := HM.out; omega
  have Ha := Lib.hid ha; have Hb := Lib.hid hb
  clear ha hb
  go_enter Tryz.func73, Tryz.ntmps73
  go_upto_if 13 with fail
  go_cut [0, 1] (fun v0 v1 wx => SumArgs w S M v0 v1 wx)
  case first =>
    rcases Nat.lt_or_ge la.length lb.length with h | h
    · go_wp2_with fail
      go_meet
      exact ⟨rfl, ab, aa, cb, ca, lb, la, rfl, rfl, by omega, hM2, hcb, hca, Hb.out, Ha.out, db, da, by rw [← HS.out, Nat.add_comm]⟩
    · go_wp2_with fail
      go_meet
      exact ⟨rfl, aa, ab, ca, cb, la, lb, rfl, rfl, h, hM1, hca, hcb, Ha.out, Hb.out, da, db, HS.out⟩
  case rest =>
  clear Ha Hb HS HM hM1 hM2 hca hcb hsa hsb da db
  obtain ⟨rfl, aa, ab, ca, cb, la, lb, rfl, rfl, hl, hsz, hca, hcb, ha, hb, da, db, hS⟩ := hcut
  have HS := Lib.hid hS; clear hS
  have hmk := run_make_row' (P := Tryz.prog) 80 30 (.int .u32 0) 4 Tryz.underlying80 info_u32 rfl .i64 .i64 (la.length + 1) (by omega) (by omega)
  have e1 : ((la.length + 1 : Nat) : Int) = (la.length : Int) + 1 := by omega
  rw [e1] at hmk
  clear e1
  go_wp2
  go_loopw [6, 22] (fun c i wr => SumRel w la lb c i wr) (fun _ i _ => la.length - (intOf i).toNat)
  case atStart =>
    exact ⟨0, 0, List.replicate (la.length + 1) 0, by omega, rfl, rfl, by omega, Blk.made _ _ _ _, by simp, Dig.replicate (by decide) _, fun j _ => by simp [List.getElem?_replicate]; split <;> rfl, by simp, (Below.refl _ _).alloc (Nat.le_refl _) _⟩
  case round =>
    obtain ⟨k, carry, o, hk, rfl, rfl, hcy, hB, ho, hd, hz, hv, hbel⟩ := hrel
    have HB := Lib.hid hB; have HO := Lib.hid ho; have HZ := Lib.hid hz; have HV := Lib.hid hv; have HBel := Lib.hid hbel
    clear hB ho hz hv hbel
    rcases Nat.lt_or_ge k la.length with hlt | hge
    · obtain ⟨b, off, rfl, hbl, hrow⟩ := ha (by omega)
      have hx := (hrow.below hbl HBel.out) k hlt
      have hx32 := da.get (by decide) k
      clear hrow ha
      generalize hxe : la.getD k 0 = x at hx hx32
      have HX := Lib.hid hxe; clear hxe
      have hwr := HB.out.get k (by have := HO.out; omega)
      have hfr := HB.out.free k
      rcases Nat.lt_or_ge k lb.length with hlb | hlb
      · obtain ⟨b2, off2, rfl, hbl2, hrow2⟩ := hb (by omega)
        have hy := (hrow2.below hbl2 HBel.out) k hlb
        have hy32 := db.get (by decide) k
        clear hrow2 hb
        generalize hye : lb.getD k 0 = y at hy hy32
        have HY := Lib.hid hye; clear hye
        go_wp2
        exact ⟨SumRel.step HX.out HY.out (by omega) hx32 hy32 hlt hcy HB.out HO.out hd HZ.out HV.out HBel.out, by simp [intOf]; omega⟩
      · go_wp2
        exact ⟨SumRel.step HX.out (y := 0) (by rw [List.getD_eq_getElem?_getD, List.getElem?_eq_none hlb]; rfl) (by omega) hx32 (by omega) hlt hcy HB.out HO.out hd HZ.out HV.out HBel.out, by simp [intOf]; omega⟩
    · obtain rfl : k = la.length := by omega
      have hwr := HB.out.get la.length (by have := HO.out; omega)
      have hfr := HB.out.free la.length
      have hsl : Sl .u32 (wr.setCell ⟨w.heap.size, la.length, none⟩ (.int .u32 (carry : Int))) (.slice (some ⟨w.heap.size, 0, none⟩) (la.length + 1) (la.length + 1)) (o.set la.length carry) := by
        have hs := HB.out.set la.length carry
        have := hs.row.sl (by have := hs.lt; simpa using this) (la.length + 1) (by have := HO.out; simp; omega) (by omega)
        simpa [HO.out] using this
      have HSL := Lib.hid hsl; clear hsl
      go_wp2_with fail
      refine (trim_any (b := 4294967296) HSL.out).mono ?_
      rintro e w' ⟨v', l', rfl, hs', hd', ht', hv', hl', rfl⟩
      go_wp2_with fail
      go_ret
      have h1 := HV.out
      have h2 := HO.out
      have h3 := vl_set 4294967296 o la.length carry (by omega)
      have h4 := HZ.out la.length (Nat.le_refl _)
      have h5 := vl_take_of_zero 4294967296 o la.length (fun j h _ => HZ.out j h)
      rw [h4] at h3
      rw [List.take_of_length_le (Nat.le_refl _), List.take_of_length_le hl, h5, Nat.mul_comm] at h1
      simp only [List.length_set] at hl'
      exact ⟨v', l', rfl, hs', hd' (hd.set _ _ (by omega)), ht', by rw [hv', ← HS.out]; omega, by omega, HBel.out.setCell (Nat.le_refl _) _⟩

end Go.Proofs.YtolmjeglaolhlaaGreatDoor

/- The contract of nat.less: the difference of two numbers, the second one not greater. -/
namespace Go.Proofs.YtolmjeglaolhlaaGreatDoor
open Go.RowKit Num

def LessRel (w : World) (la lb : List Nat) (c i : Value) (wr : World) : Prop :=
  ∃ (k borrow : Nat) (o : List Nat), k ≤ la.length ∧ i = .int .i64 (k : Int) ∧ c = .int .u64 (borrow : Int) ∧ borrow ≤ 1 ∧ Blk wr w.heap.size 30 (ints .u32 o) ∧ o.length = la.length ∧
    Dig 4294967296 o ∧ vl 4294967296 (o.take k) + vl 4294967296 (lb.take k) = vl 4294967296 (la.take k) + borrow * 4294967296 ^ k ∧ Below w.heap.size w wr

theorem LessRel.step {w wr : World} {la lb o : List Nat} {k borrow x y : Nat} {s : Int} (hx : la.getD k 0 = x) (hy : lb.getD k 0 = y) (hs : s = (((18446744073709551616 + x) - borrow - y : Nat) : Int) % 18446744073709551616) (hx32 : x < 4294967296) (hy32 : y < 4294967296)
    (hk : k < la.length) (hcy : borrow ≤ 1) (hB : Blk wr w.heap.size 30 (ints .u32 o)) (ho : o.length = la.length) (hd : Dig 4294967296 o)
    (hv : vl 4294967296 (o.take k) + vl 4294967296 (lb.take k) = vl 4294967296 (la.take k) + borrow * 4294967296 ^ k) (hbel : Below w.heap.size w wr) :
    LessRel w la lb (.int .u64 (s / 9223372036854775808)) (.int .i64 (k + 1)) (wr.setCell ⟨w.heap.size, k, none⟩ (.int .u32 (s % 4294967296))) := by
  obtain ⟨d, b', hd1, hb', he, e1, e2⟩ : ∃ d b' : Nat, d < 4294967296 ∧ b' ≤ 1 ∧ d + y + borrow = x + b' * 4294967296 ∧ s % 4294967296 = (d : Int) ∧ s / 9223372036854775808 = (b' : Int) := by
    rcases Nat.lt_or_ge x (y + borrow) with h | h
    · exact ⟨x + 4294967296 - y - borrow, 1, by omega, by omega, by omega, by omega, by omega⟩
    · exact ⟨x - y - borrow, 0, by omega, by omega, by omega, by omega, by omega⟩
  rw [e1, e2]
  refine ⟨k + 1, b', o.set k d, by omega, rfl, rfl, hb', hB.set _ _, by simpa using ho, hd.set _ _ hd1, ?_, hbel.setCell (Nat.le_refl _) _⟩
  rw [vl_take_set _ _ _ _ (by omega), vl_take_succ', vl_take_succ', hx, hy, Nat.pow_succ]
  generalize 4294967296 ^ k = B at *
  have h1 : B * (d + y + borrow) = B * (x + b' * 4294967296) := by rw [he]
  grind

set_option maxRecDepth 100000 in
set_option maxHeartbeats 400000 in
/-- **nat.less**: the difference. -/
theorem less_any {va vb : Value} {la lb : List Nat} {w : World} (ha : Sl .u32 w va la) (hb : Sl .u32 w vb lb) (da : Dig 4294967296 la) (db : Dig 4294967296 lb)
    (hsa : la.length ≤ 1073741824) (hlb : lb.length ≤ la.length) (hle : vl 4294967296 lb ≤ vl 4294967296 la) :
    Calls Tryz.prog 94 #[va, vb] w fun e w' => ∃ v l, e = .returned v ∧ Sl .u32 w' v l ∧ Dig 4294967296 l ∧ Tr l ∧ vl 4294967296 l = vl 4294967296 la - vl 4294967296 lb ∧ l.length ≤ la.length ∧ Below w.heap.size w w' := by
  obtain ⟨aa, ca, rfl, hca, _, ha⟩ := ha
  obtain ⟨ab, cb, rfl, hcb, _, hb⟩ := hb
  have HLE := Lib.hid hle; clear hle
  have hmk := run_make_row' (P := Tryz.prog) 80 30 (.int .u32 0) 4 Tryz.underlying80 info_u32 rfl .i64 .i64 la.length (by omega) (by omega)
  go_enter Tryz.func94, Tryz.ntmps94
  go_wp2
  go_loopw [6, 14] (fun c i wr => LessRel w la lb c i wr) (fun _ i _ => la.length - (intOf i).toNat)
  case atStart =>
    exact ⟨0, 0, List.replicate la.length 0, by omega, rfl, rfl, by omega, Blk.made _ _ _ _, by simp, Dig.replicate (by decide) _, by simp, (Below.refl _ _).alloc (Nat.le_refl _) _⟩
  case round =>
    obtain ⟨k, borrow, o, hk, rfl, rfl, hcy, hB, ho, hd, hv, hbel⟩ := hrel
    have HB := Lib.hid hB; have HO := Lib.hid ho; have HV := Lib.hid hv; have HBel := Lib.hid hbel
    clear hB ho hv hbel
    rcases Nat.lt_or_ge k la.length with hlt | hge
    · obtain ⟨b, off, rfl, hbl, hrow⟩ := ha (by omega)
      have hx := (hrow.below hbl HBel.out) k hlt
      have hx32 := da.get (by decide) k
      clear hrow ha
      generalize hxe : la.getD k 0 = x at hx hx32
      have HX := Lib.hid hxe; clear hxe
      have hwr := HB.out.get k (by have := HO.out; omega)
      have hfr := HB.out.free k
      rcases Nat.lt_or_ge k lb.length with hlb | hlb
      · obtain ⟨b2, off2, rfl, hbl2, hrow2⟩ := hb (by omega)
        have hy := (hrow2.below hbl2 HBel.out) k hlb
        have hy32 := db.get (by decide) k
        clear hrow2 hb
        generalize hye : lb.getD k 0 = y at hy hy32
        have HY := Lib.hid hye; clear hye
        go_wp2
        exact ⟨LessRel.step HX.out HY.out (by rw [IntKind.wrap_u64, IntKind.wrap_u64]; omega) hx32 hy32 hlt hcy HB.out HO.out hd HV.out HBel.out, by simp [intOf]; omega⟩
      · go_wp2
        exact ⟨LessRel.step HX.out (y := 0) (by rw [List.getD_eq_getElem?_getD, List.getElem?_eq_none hlb]; rfl) (by rw [IntKind.wrap_u64]; omega) hx32 (by omega) hlt hcy HB.out HO.out hd HV.out HBel.out, by simp [intOf]; omega⟩
    · obtain rfl : k = la.length := by omega
      have hsl : Sl .u32 wr (.slice (some ⟨w.heap.size, 0, none⟩) la.length la.length) o := by
        have := HB.out.row.sl HB.out.lt la.length (by have := HO.out; omega) (by omega)
        simpa [HO.out] using this
      have HSL := Lib.hid hsl; clear hsl
      go_wp2_with fail
      refine (trim_any (b := 4294967296) HSL.out).mono ?_
      rintro e w' ⟨v', l', rfl, hs', hd', ht', hv', hl', rfl⟩
      go_wp2_with fail
      go_ret
      have h1 := HV.out
      have h2 := HO.out
      have h3 := HLE.out
      rw [List.take_of_length_le (by omega), List.take_of_length_le hlb, List.take_of_length_le (Nat.le_refl _)] at h1
      have h4 : borrow = 0 := by
        rcases Nat.eq_zero_or_pos borrow with h | h
        · exact h
        · have h5 := vl_lt hd
          rw [h2] at h5
          obtain rfl : borrow = 1 := by omega
          omega
      subst h4
      exact ⟨v', l', rfl, hs', hd' hd, ht', by rw [hv']; omega, by omega, HBel.out⟩

end Go.Proofs.YtolmjeglaolhlaaGreatDoor

/- The contract of nat.product. -/
namespace Go.Proofs.YtolmjeglaolhlaaGreatDoor
open Go.RowKit Num

def ProdRel (w : World) (la lb : List Nat) (i : Value) (wr : World) : Prop :=
  ∃ (k : Nat) (o : List Nat), k ≤ la.length ∧ i = .int .i64 (k : Int) ∧ Blk wr w.heap.size 30 (ints .u32 o) ∧ o.length = la.length + lb.length ∧
    Dig 4294967296 o ∧ (∀ t, k + lb.length ≤ t → o.getD t 0 = 0) ∧ vl 4294967296 o = vl 4294967296 (la.take k) * vl 4294967296 lb ∧ Below w.heap.size w wr

def ProdIn (w : World) (la lb : List Nat) (k x : Nat) (c i : Value) (wr : World) : Prop :=
  ∃ (j carry : Nat) (o : List Nat), j ≤ lb.length ∧ i = .int .i64 (j : Int) ∧ c = .int .u64 (carry : Int) ∧ carry < 4294967296 ∧ Blk wr w.heap.size 30 (ints .u32 o) ∧ o.length = la.length + lb.length ∧
    Dig 4294967296 o ∧ (∀ t, k + lb.length ≤ t → o.getD t 0 = 0) ∧
    vl 4294967296 o + carry * 4294967296 ^ (k + j) = vl 4294967296 (la.take k) * vl 4294967296 lb + x * 4294967296 ^ k * vl 4294967296 (lb.take j) ∧ Below w.heap.size w wr

theorem mul32 {x y : Nat} (hx : x < 4294967296) (hy : y < 4294967296) : (x : Int) * (y : Int) ≤ 18446744065119617025 ∧ 0 ≤ (x : Int) * (y : Int) := by
  have h : x * y ≤ 4294967295 * 4294967295 := Nat.mul_le_mul (by omega) (by omega)
  have e : (x : Int) * (y : Int) = ((x * y : Nat) : Int) := by simp
  rw [e]
  omega

theorem ProdIn.step {w wr : World} {la lb o : List Nat} {k j carry x y z : Nat} {s : Int} (hy : lb.getD j 0 = y) (hz : o.getD (k + j) 0 = z) (hs : s = ((x * y + z + carry : Nat) : Int))
    (hx32 : x < 4294967296) (hy32 : y < 4294967296) (hz32 : z < 4294967296) (hk : k < la.length) (hj : j < lb.length) (hcy : carry < 4294967296) (hB : Blk wr w.heap.size 30 (ints .u32 o)) (ho : o.length = la.length + lb.length)
    (hd : Dig 4294967296 o) (hzz : ∀ t, k + lb.length ≤ t → o.getD t 0 = 0)
    (hv : vl 4294967296 o + carry * 4294967296 ^ (k + j) = vl 4294967296 (la.take k) * vl 4294967296 lb + x * 4294967296 ^ k * vl 4294967296 (lb.take j)) (hbel : Below w.heap.size w wr) :
    ProdIn w la lb k x (.int .u64 (s / 4294967296)) (.int .i64 (j + 1)) (wr.setCell ⟨w.heap.size, k + j, none⟩ (.int .u32 (s % 4294967296))) := by
  have hm : x * y ≤ 4294967295 * 4294967295 := Nat.mul_le_mul (by omega) (by omega)
  generalize hxy : x * y = p at *
  have e1 : s % 4294967296 = (((p + z + carry) % 4294967296 : Nat) : Int) := by omega
  have e2 : s / 4294967296 = (((p + z + carry) / 4294967296 : Nat) : Int) := by omega
  rw [e1, e2]
  refine ⟨j + 1, (p + z + carry) / 4294967296, o.set (k + j) ((p + z + carry) % 4294967296), by omega, rfl, rfl, by omega, hB.set _ _, by simpa using ho, hd.set _ _ (by omega), ?_, ?_, hbel.setCell (Nat.le_refl _) _⟩
  · intro t ht
    rw [ldigit_set_ne _ _ _ _ (by omega)]
    exact hzz t ht
  · have h1 := vl_set 4294967296 o (k + j) ((p + z + carry) % 4294967296) (by omega)
    rw [hz] at h1
    rw [vl_take_succ', hy, ← Nat.add_assoc, Nat.pow_succ]
    have h2 := Nat.mod_add_div (p + z + carry) 4294967296
    have h3 : 4294967296 ^ (k + j) = 4294967296 ^ k * 4294967296 ^ j := Nat.pow_add _ _ _
    generalize (p + z + carry) / 4294967296 = q at *
    generalize (p + z + carry) % 4294967296 = r at *
    generalize vl 4294967296 (la.take k) * vl 4294967296 lb = P at *
    generalize vl 4294967296 (lb.take j) = T at *
    generalize vl 4294967296 o = V at *
    generalize vl 4294967296 (o.set (k + j) r) = V' at *
    have h4 : x * 4294967296 ^ k * (T + 4294967296 ^ j * y) = x * 4294967296 ^ k * T + 4294967296 ^ (k + j) * p := by rw [h3, ← hxy]; grind
    have h5 : q * (4294967296 ^ (k + j) * 4294967296) = 4294967296 ^ (k + j) * (4294967296 * q) := by grind
    rw [h4, h5]
    generalize 4294967296 ^ (k + j) = B at *
    have h6 : B * r + B * (4294967296 * q) = B * p + B * z + B * carry := by rw [← Nat.mul_add, h2]; grind
    have h7 : B * carry = carry * B := Nat.mul_comm _ _
    omega

set_option maxRecDepth 100000 in
set_option maxHeartbeats 800000 in
/-- **nat.product**: the product. -/
theorem product_any {va vb : Value} {la lb : List Nat} {w : World} (ha : Sl .u32 w va la) (hb : Sl .u32 w vb lb) (da : Dig 4294967296 la) (db : Dig 4294967296 lb)
    (hsa : la.length ≤ 1073741824) (hsb : lb.length ≤ 1073741824) :
    Calls Tryz.prog 69 #[va, vb] w fun e w' => ∃ v l, e = .returned v ∧ Sl .u32 w' v l ∧ Dig 4294967296 l ∧ Tr l ∧ vl 4294967296 l = vl 4294967296 la * vl 4294967296 lb ∧ l.length ≤ la.length + lb.length ∧ Below w.heap.size w w' := by
  obtain ⟨aa, ca, rfl, hca, _, ha⟩ := ha
  obtain ⟨ab, cb, rfl, hcb, _, hb⟩ := hb
  have hmk := run_make_row' (P := Tryz.prog) 80 30 (.int .u32 0) 4 Tryz.underlying80 info_u32 rfl .i64 .i64 (la.length + lb.length) (by omega) (by omega)
  rw [Int.natCast_add] at hmk
  go_enter Tryz.func69, Tryz.ntmps69
  go_wp2
  go_loopw [20] (fun i wr => ProdRel w la lb i wr) (fun i _ => la.length - (intOf i).toNat)
  case atStart =>
    exact ⟨0, List.replicate (la.length + lb.length) 0, by omega, rfl, Blk.made _ _ _ _, by simp, Dig.replicate (by decide) _, fun j _ => by simp [List.getElem?_replicate]; split <;> rfl, by simp [vl_zeros], (Below.refl _ _).alloc (Nat.le_refl _) _⟩
  case round =>
    obtain ⟨k, o, hk, rfl, hB, ho, hd, hz, hv, hbel⟩ := hrel
    have HB := Lib.hid hB; have HO := Lib.hid ho; have HZ := Lib.hid hz; have HV := Lib.hid hv; have HBel := Lib.hid hbel
    clear hB ho hz hv hbel
    rcases Nat.lt_or_ge k la.length with hlt | hge
    · obtain ⟨b, off, rfl, hbl, hrow⟩ := ha (by omega)
      have hx := (hrow.below hbl HBel.out) k hlt
      have hx32 := da.get (by decide) k
      clear hrow ha
      generalize hxe : la.getD k 0 = x at hx hx32
      have HX := Lib.hid hxe; clear hxe
      obtain ⟨wo, rfl⟩ : ∃ wo : World, wo = wr := ⟨_, rfl⟩
      go_wp2
      go_loopw [8, 27] (fun c i wr => ProdIn w la lb k x c i wr) (fun _ i _ => lb.length - (intOf i).toNat)
      case atStart =>
        exact ⟨0, 0, o, by omega, rfl, rfl, by omega, HB.out, HO.out, hd, HZ.out, by simp [HV.out], HBel.out⟩
      case round =>
        obtain ⟨j, carry, o2, hj, rfl, rfl, hcy, hB2, ho2, hd2, hz2, hv2, hbel2⟩ := hrel
        clear hd HB HO HZ HV HBel hx
        have HB := Lib.hid hB2; have HO := Lib.hid ho2; have HZ := Lib.hid hz2; have HV := Lib.hid hv2; have HBel := Lib.hid hbel2
        clear hB2 ho2 hz2 hv2 hbel2
        rcases Nat.lt_or_ge j lb.length with hlb | hlb
        · obtain ⟨b2, off2, rfl, hbl2, hrow2⟩ := hb (by omega)
          have hy := (hrow2.below hbl2 HBel.out) j hlb
          have hy32 := db.get (by decide) j
          clear hrow2 hb
          generalize hye : lb.getD j 0 = y at hy hy32
          have HY := Lib.hid hye; clear hye
          have hw := HB.out.get (k + j) (by have := HO.out; omega)
          have hf := HB.out.free (k + j)
          have hw32 := hd2.get (by decide) (k + j)
          generalize hze : o2.getD (k + j) 0 = z at hw hw32
          have HZE := Lib.hid hze; clear hze
          obtain ⟨hm1, hm2⟩ := mul32 hx32 hy32
          go_wp2
          exact ⟨ProdIn.step HY.out HZE.out (by simp) hx32 hy32 hw32 hlt hlb hcy HB.out HO.out hd2 HZ.out HV.out HBel.out, by simp [intOf]; omega⟩
        · obtain rfl : j = lb.length := by omega
          have hw := HB.out.get (k + lb.length) (by have := HO.out; omega)
          have hf := HB.out.free (k + lb.length)
          go_wp2
          refine ⟨⟨k + 1, o2.set (k + lb.length) carry, by omega, rfl, HB.out.set _ _, by simpa using HO.out, hd2.set _ _ (by omega), ?_, ?_, HBel.out.setCell (Nat.le_refl _) _⟩, by simp [intOf]; omega⟩
          · intro t ht
            rw [ldigit_set_ne _ _ _ _ (by omega)]
            exact HZ.out t (by omega)
          · have h1 := vl_set 4294967296 o2 (k + lb.length) carry (by have := HO.out; omega)
            rw [HZ.out _ (Nat.le_refl _)] at h1
            have h2 := HV.out
            rw [List.take_of_length_le (Nat.le_refl _)] at h2
            rw [vl_take_succ', HX.out, Nat.add_mul]
            have h3 : 4294967296 ^ k * x * vl 4294967296 lb = x * 4294967296 ^ k * vl 4294967296 lb := by rw [Nat.mul_comm x]
            have h4 : 4294967296 ^ (k + lb.length) * carry = carry * 4294967296 ^ (k + lb.length) := Nat.mul_comm _ _
            omega
    · obtain rfl : k = la.length := by omega
      have hsl : Sl .u32 wr (.slice (some ⟨w.heap.size, 0, none⟩) (la.length + lb.length) (la.length + lb.length)) o := by
        have := HB.out.row.sl HB.out.lt (la.length + lb.length) (by have := HO.out; omega) (by omega)
        simpa [HO.out] using this
      have HSL := Lib.hid hsl; clear hsl
      go_wp2_with fail
      refine (trim_any (b := 4294967296) HSL.out).mono ?_
      rintro e w' ⟨v', l', rfl, hs', hd', ht', hv', hl', rfl⟩
      go_wp2_with fail
      go_ret
      have h1 := HV.out
      have h2 := HO.out
      rw [List.take_of_length_le (Nat.le_refl _)] at h1
      exact ⟨v', l', rfl, hs', hd' hd, ht', by rw [hv', h1], by omega, HBel.out⟩

#print axioms product_any
end Go.Proofs.YtolmjeglaolhlaaGreatDoor
