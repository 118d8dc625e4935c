/- The contract of nat.compare. -/
import Derived.Test.YtmbgohaljiiigaaGreatDoorBase
import Derived.RegionTactic
import Derived.ChangeAlike
import Derived.BigRegion
namespace Go.Proofs.YtmbgohaljiiigaaGreatDoor
open Go.RowKit Num

def CmpRel (la lb : List Nat) (n : Nat) (i : Value) (w wr : World) : Prop :=
  ∃ (k : Nat) (z : Int), i = .int .i64 z ∧ z = (k : Int) - 1 ∧ k ≤ n ∧ la.drop k = lb.drop k ∧ Below w.heap.size w wr

set_option maxRecDepth 100000 in
set_option maxHeartbeats 400000 in
/-- **nat.compare**: two numbers without zeros at the end. -/
theorem compare_any {va vb : Value} {la lb : List Nat} {w : World} (ha : Sl .u32 w va la) (hb : Sl .u32 w vb lb) (da : Dig 4294967296 la) (db : Dig 4294967296 lb) (ta : Tr la) (tb : Tr lb) :
    Calls Tryz.prog 114 #[va, vb] w fun e w' => e = .returned (.int .i64 (cmpZ (vl 4294967296 la) (vl 4294967296 lb))) ∧ Below w.heap.size w w' := by
  obtain ⟨aa, ca, rfl, hca, hca2, ha⟩ := ha
  obtain ⟨ab, cb, rfl, hcb, hcb2, hb⟩ := hb
  generalize hZ : cmpZ (vl 4294967296 la) (vl 4294967296 lb) = Z
  have HZ := Lib.hid hZ; clear hZ
  have Ha := Lib.hid ha; have Hb := Lib.hid hb
  clear ha hb
  rcases Nat.lt_trichotomy la.length lb.length with h | h | h
  · have hne : ((la.length : Int) != (lb.length : Int)) = true := by rw [bne_iff_ne]; omega
    go_enter Tryz.func114, Tryz.ntmps114
    go_wp2
    go_ret
    exact ⟨by rw [← HZ.out, cmpZ_lt (vl_lt_of_length (by decide) da tb h)]; rfl, Below.refl _ _⟩
  · generalize hn : la.length = n at *
    have hn' := h.symm
    rw [hn']
    clear h
    have HNa := Lib.hid hn; have HNb := Lib.hid hn'
    clear hn hn'
    go_enter Tryz.func114, Tryz.ntmps114
    go_wp2
    go_loopw [5] (fun i wr => CmpRel la lb n i w wr) (fun i _ => (intOf i + 1).toNat)
    case atStart => exact ⟨n, _, rfl, rfl, Nat.le_refl _, by rw [List.drop_of_length_le (by rw [HNa.out]; exact Nat.le_refl _), List.drop_of_length_le (by rw [HNb.out]; exact Nat.le_refl _)], Below.refl _ _⟩
    case round =>
      obtain ⟨k, z, rfl, hz, hk, hd, hbel⟩ := hrel
      have HD := Lib.hid hd; have HBel := Lib.hid hbel
      clear hd hbel
      cases k with
      | zero =>
        obtain rfl : z = -1 := by omega
        clear hz
        go_wp2
        go_ret
        exact ⟨by rw [← HZ.out, cmpZ_eq (congrArg (vl 4294967296) (by simpa using HD.out))]; rfl, HBel.out⟩
      | succ j =>
        obtain rfl : z = (j : Int) := by omega
        clear hz
        obtain ⟨b, off, rfl, hbl, hrow⟩ := Ha.out (by omega)
        obtain ⟨b2, off2, rfl, hbl2, hrow2⟩ := Hb.out (by rw [HNb.out]; omega)
        have hx := (hrow.below hbl HBel.out) j (by rw [HNa.out]; omega)
        have hy := (hrow2.below hbl2 HBel.out) j (by rw [HNb.out]; omega)
        clear hrow hrow2 Ha Hb
        generalize hxe : la.getD j 0 = x at hx
        generalize hye : lb.getD j 0 = y at hy
        have HX := Lib.hid hxe; clear hxe
        have HY := Lib.hid hye; clear hye
        go_wp2
        rcases Nat.lt_trichotomy x y with hxy | hxy | hxy
        · go_region
          go_wp2
          go_ret
          exact ⟨by rw [← HZ.out, cmpZ_lt (vl_lt_at da (HNa.out.trans HNb.out.symm) (by rw [HNa.out]; omega) HD.out (by rw [HX.out, HY.out]; exact hxy))]; rfl, HBel.out.drew⟩
        · subst hxy
          go_region
          go_wp2
          go_region
          go_wp2
          refine ⟨⟨j, _, rfl, rfl, by omega, ?_, HBel.out.drew.drew⟩, by simp [intOf]⟩
          rw [List.drop_eq_getElem_cons (l := la) (i := j) (by rw [HNa.out]; omega), List.drop_eq_getElem_cons (l := lb) (i := j) (by rw [HNb.out]; omega), HD.out]
          have e1 := HX.out
          have e2 := HY.out
          rw [List.getD_eq_getElem?_getD, List.getElem?_eq_getElem (by rw [HNa.out]; omega)] at e1
          rw [List.getD_eq_getElem?_getD, List.getElem?_eq_getElem (by rw [HNb.out]; omega)] at e2
          simp only [Option.getD_some] at e1 e2
          rw [e1, e2]
        · go_region
          go_wp2
          go_region
          go_wp2
          go_ret
          exact ⟨by rw [← HZ.out, cmpZ_gt (vl_lt_at db (HNb.out.trans HNa.out.symm) (by rw [HNb.out]; omega) HD.out.symm (by rw [HX.out, HY.out]; exact hxy))]; rfl, HBel.out.drew.drew⟩
  · have hne : ((la.length : Int) != (lb.length : Int)) = true := by rw [bne_iff_ne]; omega
    go_enter Tryz.func114, Tryz.ntmps114
    go_wp2
    go_ret
    exact ⟨by rw [← HZ.out, cmpZ_gt (vl_lt_of_length (by decide) db ta h)]; rfl, Below.refl _ _⟩

#print axioms compare_any
end Go.Proofs.YtmbgohaljiiigaaGreatDoor
