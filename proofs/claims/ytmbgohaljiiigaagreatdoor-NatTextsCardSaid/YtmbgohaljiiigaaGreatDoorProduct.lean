/- The contract of nat.product. -/
import Derived.Test.YtmbgohaljiiigaaGreatDoorTrim
namespace Go.Proofs.YtmbgohaljiiigaaGreatDoor
open Go.RowKit Num

def ProdRel (w : World) (la lb : List Nat) (i : Value) (wr : World) : Prop :=
  ∃ (k : Nat) (o : List Nat), k ≤ la.length ∧ i = .int .i64 (k : Int) ∧ Blk wr w.heap.size 79 (ints .u32 o) ∧ o.length = la.length + lb.length ∧
    Dig 4294967296 o ∧ (∀ t, k + lb.length ≤ t → o.getD t 0 = 0) ∧ vl 4294967296 o = vl 4294967296 (la.take k) * vl 4294967296 lb ∧ Below w.heap.size w wr

def ProdIn (w : World) (la lb : List Nat) (k x : Nat) (c i : Value) (wr : World) : Prop :=
  ∃ (j carry : Nat) (o : List Nat), j ≤ lb.length ∧ i = .int .i64 (j : Int) ∧ c = .int .u64 (carry : Int) ∧ carry < 4294967296 ∧ Blk wr w.heap.size 79 (ints .u32 o) ∧ o.length = la.length + lb.length ∧
    Dig 4294967296 o ∧ (∀ t, k + lb.length ≤ t → o.getD t 0 = 0) ∧
    vl 4294967296 o + carry * 4294967296 ^ (k + j) = vl 4294967296 (la.take k) * vl 4294967296 lb + x * 4294967296 ^ k * vl 4294967296 (lb.take j) ∧ Below w.heap.size w wr

theorem mul32 {x y : Nat} (hx : x < 4294967296) (hy : y < 4294967296) : (x : Int) * (y : Int) ≤ 18446744065119617025 ∧ 0 ≤ (x : Int) * (y : Int) := by
  have h : x * y ≤ 4294967295 * 4294967295 := Nat.mul_le_mul (by omega) (by omega)
  have e : (x : Int) * (y : Int) = ((x * y : Nat) : Int) := by simp
  rw [e]
  omega

theorem ProdIn.step {w wr : World} {la lb o : List Nat} {k j carry x y z : Nat} {s : Int} (hy : lb.getD j 0 = y) (hz : o.getD (k + j) 0 = z) (hs : s = ((x * y + z + carry : Nat) : Int))
    (hx32 : x < 4294967296) (hy32 : y < 4294967296) (hz32 : z < 4294967296) (hk : k < la.length) (hj : j < lb.length) (hcy : carry < 4294967296) (hB : Blk wr w.heap.size 79 (ints .u32 o)) (ho : o.length = la.length + lb.length)
    (hd : Dig 4294967296 o) (hzz : ∀ t, k + lb.length ≤ t → o.getD t 0 = 0)
    (hv : vl 4294967296 o + carry * 4294967296 ^ (k + j) = vl 4294967296 (la.take k) * vl 4294967296 lb + x * 4294967296 ^ k * vl 4294967296 (lb.take j)) (hbel : Below w.heap.size w wr) :
    ProdIn w la lb k x (.int .u64 (s / 4294967296)) (.int .i64 (j + 1)) (wr.setCell ⟨w.heap.size, k + j, none⟩ (.int .u32 (s % 4294967296))) := by
  have hm : x * y ≤ 4294967295 * 4294967295 := Nat.mul_le_mul (by omega) (by omega)
  generalize hxy : x * y = p at *
  have e1 : s % 4294967296 = (((p + z + carry) % 4294967296 : Nat) : Int) := by omega
  have e2 : s / 4294967296 = (((p + z + carry) / 4294967296 : Nat) : Int) := by omega
  rw [e1, e2]
  refine ⟨j + 1, (p + z + carry) / 4294967296, o.set (k + j) ((p + z + carry) % 4294967296), by omega, rfl, rfl, by omega, hB.set _ _, by simpa using ho, hd.set _ _ (by omega), ?_, ?_, hbel.setCell (Nat.le_refl _) _⟩
  · intro t ht
    rw [ldigit_set_ne _ _ _ _ (by omega)]
    exact hzz t ht
  · have h1 := vl_set 4294967296 o (k + j) ((p + z + carry) % 4294967296) (by omega)
    rw [hz] at h1
    rw [vl_take_succ', hy, ← Nat.add_assoc, Nat.pow_succ]
    have h2 := Nat.mod_add_div (p + z + carry) 4294967296
    have h3 : 4294967296 ^ (k + j) = 4294967296 ^ k * 4294967296 ^ j := Nat.pow_add _ _ _
    generalize (p + z + carry) / 4294967296 = q at *
    generalize (p + z + carry) % 4294967296 = r at *
    generalize vl 4294967296 (la.take k) * vl 4294967296 lb = P at *
    generalize vl 4294967296 (lb.take j) = T at *
    generalize vl 4294967296 o = V at *
    generalize vl 4294967296 (o.set (k + j) r) = V' at *
    have h4 : x * 4294967296 ^ k * (T + 4294967296 ^ j * y) = x * 4294967296 ^ k * T + 4294967296 ^ (k + j) * p := by rw [h3, ← hxy]; grind
    have h5 : q * (4294967296 ^ (k + j) * 4294967296) = 4294967296 ^ (k + j) * (4294967296 * q) := by grind
    rw [h4, h5]
    generalize 4294967296 ^ (k + j) = B at *
    have h6 : B * r + B * (4294967296 * q) = B * p + B * z + B * carry := by rw [← Nat.mul_add, h2]; grind
    have h7 : B * carry = carry * B := Nat.mul_comm _ _
    omega

set_option maxRecDepth 100000 in
set_option maxHeartbeats 800000 in
/-- **nat.product**: the product. -/
theorem product_any {va vb : Value} {la lb : List Nat} {w : World} (ha : Sl .u32 w va la) (hb : Sl .u32 w vb lb) (da : Dig 4294967296 la) (db : Dig 4294967296 lb)
    (hsa : la.length ≤ 1073741824) (hsb : lb.length ≤ 1073741824) :
    Calls Tryz.prog 105 #[va, vb] w fun e w' => ∃ v l, e = .returned v ∧ Sl .u32 w' v l ∧ Dig 4294967296 l ∧ Tr l ∧ vl 4294967296 l = vl 4294967296 la * vl 4294967296 lb ∧ l.length ≤ la.length + lb.length ∧ Below w.heap.size w w' := by
  obtain ⟨aa, ca, rfl, hca, _, ha⟩ := ha
  obtain ⟨ab, cb, rfl, hcb, _, hb⟩ := hb
  have hmk := run_make_row' (P := Tryz.prog) 108 79 (.int .u32 0) 4 Tryz.underlying108 info_u32 rfl .i64 .i64 (la.length + lb.length) (by omega) (by omega)
  rw [Int.natCast_add] at hmk
  go_enter Tryz.func105, Tryz.ntmps105
  go_wp2
  go_loopw [20] (fun i wr => ProdRel w la lb i wr) (fun i _ => la.length - (intOf i).toNat)
  case atStart =>
    exact ⟨0, List.replicate (la.length + lb.length) 0, by omega, rfl, Blk.made _ _ _ _, by simp, Dig.replicate (by decide) _, fun j _ => by simp [List.getElem?_replicate]; split <;> rfl, by simp [vl_zeros], (Below.refl _ _).alloc (Nat.le_refl _) _⟩
  case round =>
    obtain ⟨k, o, hk, rfl, hB, ho, hd, hz, hv, hbel⟩ := hrel
    have HB := Lib.hid hB; have HO := Lib.hid ho; have HZ := Lib.hid hz; have HV := Lib.hid hv; have HBel := Lib.hid hbel
    clear hB ho hz hv hbel
    rcases Nat.lt_or_ge k la.length with hlt | hge
    · obtain ⟨b, off, rfl, hbl, hrow⟩ := ha (by omega)
      have hx := (hrow.below hbl HBel.out) k hlt
      have hx32 := da.get (by decide) k
      clear hrow ha
      generalize hxe : la.getD k 0 = x at hx hx32
      have HX := Lib.hid hxe; clear hxe
      obtain ⟨wo, rfl⟩ : ∃ wo : World, wo = wr := ⟨_, rfl⟩
      go_wp2
      go_loopw [8, 27] (fun c i wr => ProdIn w la lb k x c i wr) (fun _ i _ => lb.length - (intOf i).toNat)
      case atStart =>
        exact ⟨0, 0, o, by omega, rfl, rfl, by omega, HB.out, HO.out, hd, HZ.out, by simp [HV.out], HBel.out⟩
      case round =>
        obtain ⟨j, carry, o2, hj, rfl, rfl, hcy, hB2, ho2, hd2, hz2, hv2, hbel2⟩ := hrel
        clear hd HB HO HZ HV HBel hx
        have HB := Lib.hid hB2; have HO := Lib.hid ho2; have HZ := Lib.hid hz2; have HV := Lib.hid hv2; have HBel := Lib.hid hbel2
        clear hB2 ho2 hz2 hv2 hbel2
        rcases Nat.lt_or_ge j lb.length with hlb | hlb
        · obtain ⟨b2, off2, rfl, hbl2, hrow2⟩ := hb (by omega)
          have hy := (hrow2.below hbl2 HBel.out) j hlb
          have hy32 := db.get (by decide) j
          clear hrow2 hb
          generalize hye : lb.getD j 0 = y at hy hy32
          have HY := Lib.hid hye; clear hye
          have hw := HB.out.get (k + j) (by have := HO.out; omega)
          have hf := HB.out.free (k + j)
          have hw32 := hd2.get (by decide) (k + j)
          generalize hze : o2.getD (k + j) 0 = z at hw hw32
          have HZE := Lib.hid hze; clear hze
          obtain ⟨hm1, hm2⟩ := mul32 hx32 hy32
          go_wp2
          exact ⟨ProdIn.step HY.out HZE.out (by simp) hx32 hy32 hw32 hlt hlb hcy HB.out HO.out hd2 HZ.out HV.out HBel.out, by simp [intOf]; omega⟩
        · obtain rfl : j = lb.length := by omega
          have hw := HB.out.get (k + lb.length) (by have := HO.out; omega)
          have hf := HB.out.free (k + lb.length)
          go_wp2
          refine ⟨⟨k + 1, o2.set (k + lb.length) carry, by omega, rfl, HB.out.set _ _, by simpa using HO.out, hd2.set _ _ (by omega), ?_, ?_, HBel.out.setCell (Nat.le_refl _) _⟩, by simp [intOf]; omega⟩
          · intro t ht
            rw [ldigit_set_ne _ _ _ _ (by omega)]
            exact HZ.out t (by omega)
          · have h1 := vl_set 4294967296 o2 (k + lb.length) carry (by have := HO.out; omega)
            rw [HZ.out _ (Nat.le_refl _)] at h1
            have h2 := HV.out
            rw [List.take_of_length_le (Nat.le_refl _)] at h2
            rw [vl_take_succ', HX.out, Nat.add_mul]
            have h3 : 4294967296 ^ k * x * vl 4294967296 lb = x * 4294967296 ^ k * vl 4294967296 lb := by rw [Nat.mul_comm x]
            have h4 : 4294967296 ^ (k + lb.length) * carry = carry * 4294967296 ^ (k + lb.length) := Nat.mul_comm _ _
            omega
    · obtain rfl : k = la.length := by omega
      have hsl : Sl .u32 wr (.slice (some ⟨w.heap.size, 0, none⟩) (la.length + lb.length) (la.length + lb.length)) o := by
        have := HB.out.row.sl HB.out.lt (la.length + lb.length) (by have := HO.out; omega) (by omega)
        simpa [HO.out] using this
      have HSL := Lib.hid hsl; clear hsl
      go_wp2_with fail
      refine (trim_any (b := 4294967296) HSL.out).mono ?_
      rintro e w' ⟨v', l', rfl, hs', hd', ht', hv', hl', rfl⟩
      go_wp2_with fail
      go_ret
      have h1 := HV.out
      have h2 := HO.out
      rw [List.take_of_length_le (Nat.le_refl _)] at h1
      exact ⟨v', l', rfl, hs', hd' hd, ht', by rw [hv', h1], by omega, HBel.out⟩

#print axioms product_any
end Go.Proofs.YtmbgohaljiiigaaGreatDoor
