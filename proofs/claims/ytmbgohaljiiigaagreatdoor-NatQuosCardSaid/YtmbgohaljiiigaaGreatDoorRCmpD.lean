/- sortesref01.cmp: compares digits. -/
import Derived.Test.YtmbgohaljiiigaaGreatDoorROwn
import Derived.Test.YtmbgohaljiiigaaGreatDoorCompare
namespace Go.Proofs.YtmbgohaljiiigaaGreatDoor
open Go.RowKit Num

/-- z says how m and n compare. -/
def Sgn (z : Int) (m n : Nat) : Prop := (z < 0 ∧ m < n) ∨ (z = 0 ∧ m = n) ∨ (0 < z ∧ n < m)
theorem Sgn.neg {z : Int} {m n : Nat} (h : m < n) (hz : z < 0) : Sgn z m n := .inl ⟨hz, h⟩
theorem Sgn.pos {z : Int} {m n : Nat} (h : n < m) (hz : 0 < z) : Sgn z m n := .inr (.inr ⟨hz, h⟩)
theorem Sgn.eq {z : Int} {m n : Nat} (h : m = n) (hz : z = 0) : Sgn z m n := .inr (.inl ⟨hz, h⟩)

/-- What comes out of a comparison of digits. -/
def RCmpPost (w : World) (m n : Nat) (e : Ending) (w' : World) : Prop := ∃ z : Int, e = .returned (.int .i64 z) ∧ Sgn z m n ∧ -2147483648 ≤ z ∧ z ≤ 2147483648 ∧ Below w.heap.size w w'

set_option maxRecDepth 100000 in
set_option maxHeartbeats 800000 in
theorem rcmp_any {va vb : Value} {la lb : List Nat} {w : World} (ha : Sl .i64 w va la) (hb : Sl .i64 w vb lb) (da : Dig 16777216 la) (db : Dig 16777216 lb) (ta : Tr la) (tb : Tr lb) (hza : la.length ≤ 268435456) (hzb : lb.length ≤ 268435456) :
    Calls Tryz.prog 99 #[va, vb] w (RCmpPost w (vl 16777216 la) (vl 16777216 lb)) := by
  obtain ⟨aa, ca, rfl, hca, hca2, ha⟩ := ha
  obtain ⟨ab, cb, rfl, hcb, hcb2, hb⟩ := hb
  have Ha := Lib.hid ha; have Hb := Lib.hid hb
  clear ha hb
  rcases Nat.lt_trichotomy la.length lb.length with h | h | h
  · have hne : ((la.length : Int) != (lb.length : Int)) = true := by rw [bne_iff_ne]; omega
    go_enter Tryz.func99, Tryz.ntmps99
    go_wp2
    go_ret
    exact ⟨_, rfl, .neg (vl_lt_of_length (by decide) da tb h) (by omega), by omega, by omega, Below.refl _ _⟩
  · generalize hn : la.length = n at *
    have hn' := h.symm
    rw [hn']
    clear h
    have HNa := Lib.hid hn; have HNb := Lib.hid hn'
    clear hn hn'
    go_enter Tryz.func99, Tryz.ntmps99
    go_wp2
    go_loopw [5] (fun i wr => CmpRel la lb n i w wr) (fun i _ => (intOf i + 1).toNat)
    case atStart => exact ⟨n, _, rfl, rfl, Nat.le_refl _, by rw [List.drop_of_length_le (by rw [HNa.out]; exact Nat.le_refl _), List.drop_of_length_le (by rw [HNb.out]; exact Nat.le_refl _)], Below.refl _ _⟩
    case round =>
      obtain ⟨k, z, rfl, hz, hk, hd, hbel⟩ := hrel
      have HD := Lib.hid hd; have HBel := Lib.hid hbel
      clear hd hbel
      cases k with
      | zero =>
        obtain rfl : z = -1 := by omega
        clear hz
        go_wp2
        go_ret
        exact ⟨_, rfl, .eq (congrArg (vl 16777216) (by simpa using HD.out)) rfl, by omega, by omega, HBel.out⟩
      | succ j =>
        obtain rfl : z = (j : Int) := by omega
        clear hz
        obtain ⟨b, off, rfl, hbl, hrow⟩ := Ha.out (by omega)
        obtain ⟨b2, off2, rfl, hbl2, hrow2⟩ := Hb.out (by rw [HNb.out]; omega)
        have hx := (hrow.below hbl HBel.out) j (by rw [HNa.out]; omega)
        have hy := (hrow2.below hbl2 HBel.out) j (by rw [HNb.out]; omega)
        clear hrow hrow2 Ha Hb
        generalize hxe : la.getD j 0 = x at hx
        generalize hye : lb.getD j 0 = y at hy
        have hxB : x < 16777216 := by rw [← hxe]; exact da.get (by decide) j
        have hyB : y < 16777216 := by rw [← hye]; exact db.get (by decide) j
        have HX := Lib.hid hxe; clear hxe
        have HY := Lib.hid hye; clear hye
        go_wp2
        rcases Nat.lt_trichotomy x y with hxy | hxy | hxy
        · have hne : ((x : Int) != (y : Int)) = true := by rw [bne_iff_ne]; omega
          go_region
          go_wp2
          go_region
          go_wp2
          go_ret
          exact ⟨_, rfl, .neg (vl_lt_at da (HNa.out.trans HNb.out.symm) (by rw [HNa.out]; omega) HD.out (by rw [HX.out, HY.out]; exact hxy)) (by omega), by omega, by omega, HBel.out.drew.drew⟩
        · subst hxy
          go_region
          go_wp2
          refine ⟨⟨j, _, rfl, rfl, by omega, ?_, HBel.out.drew⟩, by simp [intOf]⟩
          rw [List.drop_eq_getElem_cons (l := la) (i := j) (by rw [HNa.out]; omega), List.drop_eq_getElem_cons (l := lb) (i := j) (by rw [HNb.out]; omega), HD.out]
          have e1 := HX.out
          have e2 := HY.out
          rw [List.getD_eq_getElem?_getD, List.getElem?_eq_getElem (by rw [HNa.out]; omega)] at e1
          rw [List.getD_eq_getElem?_getD, List.getElem?_eq_getElem (by rw [HNb.out]; omega)] at e2
          simp only [Option.getD_some] at e1 e2
          rw [e1, e2]
        · have hne : ((x : Int) != (y : Int)) = true := by rw [bne_iff_ne]; omega
          go_region
          go_wp2
          go_region
          go_wp2
          go_ret
          exact ⟨_, rfl, .pos (vl_lt_at db (HNb.out.trans HNa.out.symm) (by rw [HNb.out]; omega) HD.out.symm (by rw [HX.out, HY.out]; exact hxy)) (by omega), by omega, by omega, HBel.out.drew.drew⟩
  · have hne : ((la.length : Int) != (lb.length : Int)) = true := by rw [bne_iff_ne]; omega
    go_enter Tryz.func99, Tryz.ntmps99
    go_wp2
    go_ret
    exact ⟨_, rfl, .pos (vl_lt_of_length (by decide) db ta h) (by omega), by omega, by omega, Below.refl _ _⟩

#print axioms rcmp_any
end Go.Proofs.YtmbgohaljiiigaaGreatDoor
