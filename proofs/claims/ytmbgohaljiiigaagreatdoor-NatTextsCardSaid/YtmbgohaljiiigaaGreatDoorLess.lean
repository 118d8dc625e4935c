/- The contract of nat.less: the difference of two numbers, the second one not greater. -/
import Derived.Test.YtmbgohaljiiigaaGreatDoorTrim
namespace Go.Proofs.YtmbgohaljiiigaaGreatDoor
open Go.RowKit Num

def LessRel (w : World) (la lb : List Nat) (c i : Value) (wr : World) : Prop :=
  ∃ (k borrow : Nat) (o : List Nat), k ≤ la.length ∧ i = .int .i64 (k : Int) ∧ c = .int .u64 (borrow : Int) ∧ borrow ≤ 1 ∧ Blk wr w.heap.size 79 (ints .u32 o) ∧ o.length = la.length ∧
    Dig 4294967296 o ∧ vl 4294967296 (o.take k) + vl 4294967296 (lb.take k) = vl 4294967296 (la.take k) + borrow * 4294967296 ^ k ∧ Below w.heap.size w wr

theorem LessRel.step {w wr : World} {la lb o : List Nat} {k borrow x y : Nat} {s : Int} (hx : la.getD k 0 = x) (hy : lb.getD k 0 = y) (hs : s = (((18446744073709551616 + x) - borrow - y : Nat) : Int) % 18446744073709551616) (hx32 : x < 4294967296) (hy32 : y < 4294967296)
    (hk : k < la.length) (hcy : borrow ≤ 1) (hB : Blk wr w.heap.size 79 (ints .u32 o)) (ho : o.length = la.length) (hd : Dig 4294967296 o)
    (hv : vl 4294967296 (o.take k) + vl 4294967296 (lb.take k) = vl 4294967296 (la.take k) + borrow * 4294967296 ^ k) (hbel : Below w.heap.size w wr) :
    LessRel w la lb (.int .u64 (s / 9223372036854775808)) (.int .i64 (k + 1)) (wr.setCell ⟨w.heap.size, k, none⟩ (.int .u32 (s % 4294967296))) := by
  obtain ⟨d, b', hd1, hb', he, e1, e2⟩ : ∃ d b' : Nat, d < 4294967296 ∧ b' ≤ 1 ∧ d + y + borrow = x + b' * 4294967296 ∧ s % 4294967296 = (d : Int) ∧ s / 9223372036854775808 = (b' : Int) := by
    rcases Nat.lt_or_ge x (y + borrow) with h | h
    · exact ⟨x + 4294967296 - y - borrow, 1, by omega, by omega, by omega, by omega, by omega⟩
    · exact ⟨x - y - borrow, 0, by omega, by omega, by omega, by omega, by omega⟩
  rw [e1, e2]
  refine ⟨k + 1, b', o.set k d, by omega, rfl, rfl, hb', hB.set _ _, by simpa using ho, hd.set _ _ hd1, ?_, hbel.setCell (Nat.le_refl _) _⟩
  rw [vl_take_set _ _ _ _ (by omega), vl_take_succ', vl_take_succ', hx, hy, Nat.pow_succ]
  generalize 4294967296 ^ k = B at *
  have h1 : B * (d + y + borrow) = B * (x + b' * 4294967296) := by rw [he]
  grind

set_option maxRecDepth 100000 in
set_option maxHeartbeats 400000 in
/-- **nat.less**: the difference. -/
theorem less_any {va vb : Value} {la lb : List Nat} {w : World} (ha : Sl .u32 w va la) (hb : Sl .u32 w vb lb) (da : Dig 4294967296 la) (db : Dig 4294967296 lb)
    (hsa : la.length ≤ 1073741824) (hlb : lb.length ≤ la.length) (hle : vl 4294967296 lb ≤ vl 4294967296 la) :
    Calls Tryz.prog 115 #[va, vb] w fun e w' => ∃ v l, e = .returned v ∧ Sl .u32 w' v l ∧ Dig 4294967296 l ∧ Tr l ∧ vl 4294967296 l = vl 4294967296 la - vl 4294967296 lb ∧ l.length ≤ la.length ∧ Below w.heap.size w w' := by
  obtain ⟨aa, ca, rfl, hca, _, ha⟩ := ha
  obtain ⟨ab, cb, rfl, hcb, _, hb⟩ := hb
  have HLE := Lib.hid hle; clear hle
  have hmk := run_make_row' (P := Tryz.prog) 108 79 (.int .u32 0) 4 Tryz.underlying108 info_u32 rfl .i64 .i64 la.length (by omega) (by omega)
  go_enter Tryz.func115, Tryz.ntmps115
  go_wp2
  go_loopw [6, 14] (fun c i wr => LessRel w la lb c i wr) (fun _ i _ => la.length - (intOf i).toNat)
  case atStart =>
    exact ⟨0, 0, List.replicate la.length 0, by omega, rfl, rfl, by omega, Blk.made _ _ _ _, by simp, Dig.replicate (by decide) _, by simp, (Below.refl _ _).alloc (Nat.le_refl _) _⟩
  case round =>
    obtain ⟨k, borrow, o, hk, rfl, rfl, hcy, hB, ho, hd, hv, hbel⟩ := hrel
    have HB := Lib.hid hB; have HO := Lib.hid ho; have HV := Lib.hid hv; have HBel := Lib.hid hbel
    clear hB ho hv hbel
    rcases Nat.lt_or_ge k la.length with hlt | hge
    · obtain ⟨b, off, rfl, hbl, hrow⟩ := ha (by omega)
      have hx := (hrow.below hbl HBel.out) k hlt
      have hx32 := da.get (by decide) k
      clear hrow ha
      generalize hxe : la.getD k 0 = x at hx hx32
      have HX := Lib.hid hxe; clear hxe
      have hwr := HB.out.get k (by have := HO.out; omega)
      have hfr := HB.out.free k
      rcases Nat.lt_or_ge k lb.length with hlb | hlb
      · obtain ⟨b2, off2, rfl, hbl2, hrow2⟩ := hb (by omega)
        have hy := (hrow2.below hbl2 HBel.out) k hlb
        have hy32 := db.get (by decide) k
        clear hrow2 hb
        generalize hye : lb.getD k 0 = y at hy hy32
        have HY := Lib.hid hye; clear hye
        go_wp2
        exact ⟨LessRel.step HX.out HY.out (by rw [IntKind.wrap_u64, IntKind.wrap_u64]; omega) hx32 hy32 hlt hcy HB.out HO.out hd HV.out HBel.out, by simp [intOf]; omega⟩
      · go_wp2
        exact ⟨LessRel.step HX.out (y := 0) (by rw [List.getD_eq_getElem?_getD, List.getElem?_eq_none hlb]; rfl) (by rw [IntKind.wrap_u64]; omega) hx32 (by omega) hlt hcy HB.out HO.out hd HV.out HBel.out, by simp [intOf]; omega⟩
    · obtain rfl : k = la.length := by omega
      have hsl : Sl .u32 wr (.slice (some ⟨w.heap.size, 0, none⟩) la.length la.length) o := by
        have := HB.out.row.sl HB.out.lt la.length (by have := HO.out; omega) (by omega)
        simpa [HO.out] using this
      have HSL := Lib.hid hsl; clear hsl
      go_wp2_with fail
      refine (trim_any (b := 4294967296) HSL.out).mono ?_
      rintro e w' ⟨v', l', rfl, hs', hd', ht', hv', hl', rfl⟩
      go_wp2_with fail
      go_ret
      have h1 := HV.out
      have h2 := HO.out
      have h3 := HLE.out
      rw [List.take_of_length_le (by omega), List.take_of_length_le hlb, List.take_of_length_le (Nat.le_refl _)] at h1
      have h4 : borrow = 0 := by
        rcases Nat.eq_zero_or_pos borrow with h | h
        · exact h
        · have h5 := vl_lt hd
          rw [h2] at h5
          obtain rfl : borrow = 1 := by omega
          omega
      subst h4
      exact ⟨v', l', rfl, hs', hd' hd, ht', by rw [hv']; omega, by omega, HBel.out⟩

#print axioms less_any
end Go.Proofs.YtmbgohaljiiigaaGreatDoor
