/- The contract of nat.short: the division by one digit. -/
import Derived.Test.YtmbgohaljiiigaaGreatDoorTrim
import Derived.RegionTactic
import Derived.ChangeAlike
import Derived.BigRegion
namespace Go.Proofs.YtmbgohaljiiigaaGreatDoor
open Go.RowKit Num

def ShortRel (w : World) (la : List Nat) (d : Nat) (r i : Value) (wr : World) : Prop :=
  ∃ (k rest : Nat) (z : Int) (o : List Nat), k ≤ la.length ∧ i = .int .i64 z ∧ z = (k : Int) - 1 ∧ r = .int .u64 (rest : Int) ∧ rest < d ∧ Blk wr w.heap.size 79 (ints .u32 o) ∧ o.length = la.length ∧
    Dig 4294967296 o ∧ vl 4294967296 (la.drop k) = d * vl 4294967296 (o.drop k) + rest ∧ Below w.heap.size w wr

theorem ShortRel.step {w wr : World} {la o : List Nat} {d j rest x y : Nat} (hx : la.getD j 0 = x) (hy : y = rest * 4294967296 + x) (hx32 : x < 4294967296) (hd0 : 0 < d)
    (hj : j < la.length) (hrd : rest < d) (hB : Blk wr w.heap.size 79 (ints .u32 o)) (ho : o.length = la.length) (hd : Dig 4294967296 o)
    (hv : vl 4294967296 (la.drop (j + 1)) = d * vl 4294967296 (o.drop (j + 1)) + rest) (hbel : Below w.heap.size w wr) :
    ShortRel w la d (.int .u64 ((y : Int) % (d : Int))) (.int .i64 ((j : Int) - 1)) (wr.setCell ⟨w.heap.size, j, none⟩ (.int .u32 (IntKind.u64.wrap ((y : Int) / (d : Int)) % 4294967296))).drew := by
  have hyq : y / d < 4294967296 := by
    rw [Nat.div_lt_iff_lt_mul hd0]
    have h1 : (rest + 1) * 4294967296 ≤ d * 4294967296 := Nat.mul_le_mul_right _ hrd
    rw [Nat.mul_comm 4294967296 d]
    omega
  have e1 : (y : Int) / (d : Int) = ((y / d : Nat) : Int) := by simp
  have e2 : (y : Int) % (d : Int) = ((y % d : Nat) : Int) := by simp
  have hr := Nat.mod_lt y hd0
  have hq := Nat.div_add_mod y d
  rw [e1, e2, IntKind.wrap_u64]
  clear e1 e2
  generalize y / d = q at *
  generalize y % d = r at *
  have e3 : ((q : Int) % 18446744073709551616) % 4294967296 = (q : Int) := by omega
  rw [e3]
  refine ⟨j, r, _, o.set j q, by omega, rfl, rfl, rfl, hr, (hB.set _ _).drew, by simpa using ho, hd.set _ _ hyq, ?_, (hbel.setCell (Nat.le_refl _) _).drew⟩
  rw [vl_drop _ _ _ hj, hx, hv, drop_set_self _ _ _ (by omega), vl_cons]
  generalize vl 4294967296 (o.drop (j + 1)) = V
  subst hy
  grind

set_option maxRecDepth 100000 in
set_option maxHeartbeats 800000 in
/-- **nat.short**: quotient and rest by one digit. -/
theorem short_any {va : Value} {la : List Nat} {w : World} (d : Nat) (ha : Sl .u32 w va la) (da : Dig 4294967296 la) (hd0 : 0 < d) (hd32 : d < 4294967296)
    (hsa : la.length ≤ 1073741824) :
    Calls Tryz.prog 106 #[va, .int .u32 (d : Int)] w fun e w' => ∃ v l, e = .returned (.tuple #[v, .int .u32 ((vl 4294967296 la % d : Nat) : Int)]) ∧ Sl .u32 w' v l ∧ Dig 4294967296 l ∧ Tr l ∧ vl 4294967296 l = vl 4294967296 la / d ∧ l.length ≤ la.length ∧ Below w.heap.size w w' := by
  obtain ⟨aa, ca, rfl, hca, _, ha⟩ := ha
  have hmk := run_make_row' (P := Tryz.prog) 108 79 (.int .u32 0) 4 Tryz.underlying108 info_u32 rfl .i64 .i64 la.length (by omega) (by omega)
  have hd1 : 1 ≤ (d : Int) := by omega
  have hd2 : ((d : Int) == 0) = false := by rw [beq_eq_false_iff_ne]; omega
  go_enter Tryz.func106, Tryz.ntmps106
  go_wp2
  go_loopw [7, 8] (fun r i wr => ShortRel w la d r i wr) (fun _ i _ => (intOf i + 1).toNat)
  case atStart =>
    exact ⟨la.length, 0, _, List.replicate la.length 0, Nat.le_refl _, rfl, rfl, rfl, hd0, Blk.made _ _ _ _, by simp, Dig.replicate (by decide) _, by simp, (Below.refl _ _).alloc (Nat.le_refl _) _⟩
  case round =>
    obtain ⟨k, rest, z, o, hk, rfl, hzk, rfl, hrd, hB, ho, hd, hv, hbel⟩ := hrel
    have HB := Lib.hid hB; have HO := Lib.hid ho; have HV := Lib.hid hv; have HBel := Lib.hid hbel
    clear hB ho hv hbel
    cases k with
    | succ j =>
      obtain rfl : z = (j : Int) := by omega
      clear hzk
      obtain ⟨b, off, rfl, hbl, hrow⟩ := ha (by omega)
      have hx := (hrow.below hbl HBel.out) j (by omega)
      have hx32 := da.get (by decide) j
      clear hrow ha
      generalize hxe : la.getD j 0 = x at hx hx32
      have HX := Lib.hid hxe; clear hxe
      have hwr := HB.out.get j (by have := HO.out; omega)
      have hfr := HB.out.free j
      obtain ⟨y, hor, hy1, hy2⟩ : ∃ y : Nat, bits .or .u64 ((rest : Int) * 4294967296) (x : Int) = (y : Int) ∧ y < 18446744073709551616 ∧ y = rest * 4294967296 + x := by
        refine ⟨rest * 4294967296 + x, ?_, by omega, rfl⟩
        have e := u64_or_nat (rest * 4294967296) x (by omega) (by omega)
        rw [or_mul rest x 32 (by omega)] at e
        rw [← e]
        rfl
      have HY := Lib.hid hy2; clear hy2
      go_wp2
      go_region
      go_wp2
      exact ⟨ShortRel.step HX.out HY.out hx32 hd0 (by omega) hrd HB.out HO.out hd HV.out HBel.out, by simp [intOf]⟩
    | zero =>
      obtain rfl : z = -1 := by omega
      clear hzk
      have hsl : Sl .u32 wr (.slice (some ⟨w.heap.size, 0, none⟩) la.length la.length) o := by
        have := HB.out.row.sl HB.out.lt la.length (by have := HO.out; omega) (by omega)
        simpa [HO.out] using this
      have HSL := Lib.hid hsl; clear hsl
      go_wp2_with fail
      refine (trim_any (b := 4294967296) HSL.out).mono ?_
      rintro e w' ⟨v', l', rfl, hs', hd', ht', hv', hl', rfl⟩
      go_wp2_with fail
      go_ret2
      have h1 := HV.out
      have h2 := HO.out
      simp only [List.drop_zero] at h1
      refine ⟨v', l', ?_, hs', hd' hd, ht', by rw [hv', h1, Nat.mul_add_div hd0, Nat.div_eq_of_lt hrd, Nat.add_zero], by omega, HBel.out⟩
      rw [h1, Nat.mul_add_mod, Nat.mod_eq_of_lt hrd]
      rfl

#print axioms short_any
end Go.Proofs.YtmbgohaljiiigaaGreatDoor
