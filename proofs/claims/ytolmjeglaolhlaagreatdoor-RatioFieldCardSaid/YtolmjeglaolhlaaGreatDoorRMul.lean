/- sortesref01.Mul: the product. -/
import Derived.Test.YtolmjeglaolhlaaGreatDoorROwn
import Derived.Test.YtolmjeglaolhlaaGreatDoorPlain
import Derived.Test.YtolmjeglaolhlaaGreatDoorRNumber
import Derived.Deep.QuietTactic
import Derived.BigQuiet
import Derived.IntWalk
namespace Go.Proofs.YtolmjeglaolhlaaGreatDoor
open Go.RowKit Num

def RProdRel (w : World) (la lb : List Nat) (i : Value) (wr : World) : Prop :=
  ∃ (k : Nat) (o : List Nat), k ≤ la.length ∧ i = .int .i64 (k : Int) ∧ Blk wr w.heap.size 3 (ints .i64 o) ∧ o.length = la.length + lb.length ∧
    Dig 16777216 o ∧ (∀ t, k + lb.length ≤ t → o.getD t 0 = 0) ∧ vl 16777216 o = vl 16777216 (la.take k) * vl 16777216 lb ∧ Below w.heap.size w wr

def RProdIn (w : World) (la lb : List Nat) (k x : Nat) (c i : Value) (wr : World) : Prop :=
  ∃ (j carry : Nat) (o : List Nat), j ≤ lb.length ∧ i = .int .i64 (j : Int) ∧ c = .int .i64 (carry : Int) ∧ carry < 16777216 ∧ Blk wr w.heap.size 3 (ints .i64 o) ∧ o.length = la.length + lb.length ∧
    Dig 16777216 o ∧ (∀ t, k + lb.length ≤ t → o.getD t 0 = 0) ∧
    vl 16777216 o + carry * 16777216 ^ (k + j) = vl 16777216 (la.take k) * vl 16777216 lb + x * 16777216 ^ k * vl 16777216 (lb.take j) ∧ Below w.heap.size w wr

theorem belowDrewN {B : Nat} {a w : World} (h : Below B a w) (n : Nat) : Below B a (w.drewN n) := ⟨h.os, h.tape, h.output, h.size, h.block⟩

theorem mul24 {x y : Nat} (hx : x < 16777216) (hy : y < 16777216) : x * y ≤ 281474943156225 := by
  have h : x * y ≤ 16777215 * 16777215 := Nat.mul_le_mul (by omega) (by omega)
  omega

theorem RProdIn.step {w wr : World} {la lb o : List Nat} {k j carry x y z p : Nat} (hy : lb.getD j 0 = y) (hz : o.getD (k + j) 0 = z) (hp : p = x * y)
    (hx32 : x < 16777216) (hy32 : y < 16777216) (hz32 : z < 16777216) (hk : k < la.length) (hj : j < lb.length) (hcy : carry < 16777216) (hB : Blk wr w.heap.size 3 (ints .i64 o)) (ho : o.length = la.length + lb.length)
    (hd : Dig 16777216 o) (hzz : ∀ t, k + lb.length ≤ t → o.getD t 0 = 0)
    (hv : vl 16777216 o + carry * 16777216 ^ (k + j) = vl 16777216 (la.take k) * vl 16777216 lb + x * 16777216 ^ k * vl 16777216 (lb.take j)) (hbel : Below w.heap.size w wr)
    (zc zi zv : Int) (hzc : zc = (((z + p + carry) / 16777216 : Nat) : Int)) (hzi : zi = (j : Int) + 1) (hzv : zv = (((z + p + carry) % 16777216 : Nat) : Int)) :
    RProdIn w la lb k x (.int .i64 zc) (.int .i64 zi) (wr.setCell ⟨w.heap.size, k + j, none⟩ (.int .i64 zv)) := by
  have hm := mul24 hx32 hy32
  rw [← hp] at hm
  rw [hzc, hzi, hzv]
  refine ⟨j + 1, (z + p + carry) / 16777216, o.set (k + j) ((z + p + carry) % 16777216), by omega, rfl, rfl, by omega, hB.set _ _, by simpa using ho, hd.set _ _ (by omega), ?_, ?_, hbel.setCell (Nat.le_refl _) _⟩
  · intro t ht
    rw [ldigit_set_ne _ _ _ _ (by omega)]
    exact hzz t ht
  · have h1 := vl_set 16777216 o (k + j) ((z + p + carry) % 16777216) (by omega)
    rw [hz] at h1
    rw [vl_take_succ', hy, ← Nat.add_assoc, Nat.pow_succ]
    have h2 := Nat.mod_add_div (z + p + carry) 16777216
    have h3 : 16777216 ^ (k + j) = 16777216 ^ k * 16777216 ^ j := Nat.pow_add _ _ _
    generalize (z + p + carry) / 16777216 = q at *
    generalize (z + p + carry) % 16777216 = r at *
    generalize vl 16777216 (la.take k) * vl 16777216 lb = P at *
    generalize vl 16777216 (lb.take j) = T at *
    generalize vl 16777216 o = V at *
    generalize vl 16777216 (o.set (k + j) r) = V' at *
    have h4 : x * 16777216 ^ k * (T + 16777216 ^ j * y) = x * 16777216 ^ k * T + 16777216 ^ (k + j) * p := by rw [h3, hp]; grind
    have h5 : q * (16777216 ^ (k + j) * 16777216) = 16777216 ^ (k + j) * (16777216 * q) := by grind
    rw [h4, h5]
    generalize 16777216 ^ (k + j) = B at *
    have h6 : B * r + B * (16777216 * q) = B * p + B * z + B * carry := by rw [← Nat.mul_add, h2]; grind
    have h7 : B * carry = carry * B := Nat.mul_comm _ _
    omega

set_option maxRecDepth 100000 in
set_option maxHeartbeats 400000 in
theorem RMul_small (a b : ByteArray) (w : World) (ha : a.size ≤ 100000000) (hb : b.size ≤ 100000000) (h1 : SN a < 256 ^ 3) (h2 : SN b < 256 ^ 4) :
    Calls Tryz.prog 71 #[.string a, .string b] w fun e w' => e = .returned (.string (Enc (SN a * SN b))) ∧ Below w.heap.size w w' := by
  have c1 := fun w => small_yes a 3 w (by omega) (by decide) h1
  have c2 := fun w => small_yes b 4 w (by omega) (by decide) h2
  have hm : SN a * SN b ≤ 72057594037927936 := Nat.le_trans (Nat.mul_le_mul (Nat.le_of_lt h1) (Nat.le_of_lt h2)) (by decide)
  have c3 := fun w => ROfN_any ((SN a * SN b : Nat) : Int) w (by omega)
  rw [Int.toNat_natCast, Int.natCast_mul] at c3
  have hm2 : (SN a : Int) * (SN b : Int) ≤ 72057594037927936 := by rw [← Int.natCast_mul]; omega
  have hm3 : 0 ≤ (SN a : Int) * (SN b : Int) := by rw [← Int.natCast_mul]; omega
  have C1 := Lib.hid c1; have C2 := Lib.hid c2; have C3 := Lib.hid c3
  clear c1 c2 c3 hm h1 h2
  go_enter Tryz.func71, Tryz.ntmps71
  go_wp2_with fail
  refine (C1.out _).mono ?_
  rintro _ _ ⟨rfl, rfl⟩
  go_wp2_with fail
  refine (C2.out _).mono ?_
  rintro _ _ ⟨rfl, rfl⟩
  go_wp2_with fail
  refine (C3.out _).mono ?_
  rintro _ _ ⟨rfl, hb⟩
  go_wp2_with fail
  go_ret
  exact ⟨rfl, hb⟩

set_option maxRecDepth 100000 in
set_option maxHeartbeats 4000000 in
theorem RMul_large (a b : ByteArray) (w : World) (ha : a.size ≤ 100000000) (hb : b.size ≤ 100000000) (hno : ¬ (SN a < 256 ^ 3 ∧ SN b < 256 ^ 4)) :
    Calls Tryz.prog 71 #[.string a, .string b] w fun e w' => e = .returned (.string (Enc (SN a * SN b))) ∧ Below w.heap.size w w' := by
  have hbb : (decide (SN a < 256 ^ 3) && decide (SN b < 256 ^ 4)) = false := by
    rw [Bool.and_eq_false_iff]
    rcases Nat.lt_or_ge (SN a) (256 ^ 3) with h | h
    · right; rw [decide_eq_false_iff_not]; exact fun h2 => hno ⟨h, h2⟩
    · left; rw [decide_eq_false_iff_not]; omega
  have c1 := fun w => small_any a 3 w (by omega) (by decide) _ rfl
  have c2 := fun w => small_any b 4 w (by omega) (by decide) _ rfl
  have c3 := fun w => rof_any a w (by omega)
  have c4 := fun w => rof_any b w (by omega)
  generalize decide (SN a < 256 ^ 3) = p1 at *
  generalize decide (SN b < 256 ^ 4) = p2 at *
  have C1 := Lib.hid c1; have C2 := Lib.hid c2; have C3 := Lib.hid c3; have C4 := Lib.hid c4
  clear c1 c2 c3 c4 hno
  obtain ⟨A, hA⟩ : ∃ A, A = SN a * SN b := ⟨_, rfl⟩
  rw [← hA]
  have HA := Lib.hid hA; clear hA
  have hmx : Tryz.prog.follows .mixedOrders = true := by kernel_rfl
  have hpp : (p1 = false) ∨ (p1 = true ∧ p2 = false) := by cases p1 <;> cases p2 <;> simp_all
  clear hbb
  rcases hpp with rfl | ⟨rfl, rfl⟩
  all_goals
    go_enter Tryz.func71, Tryz.ntmps71
    go_wp2_with fail
    refine (C1.out _).mono ?_
    rintro _ _ ⟨z1, rfl, -, rfl⟩
    go_wp2_with fail
    refine (C2.out _).mono ?_
    rintro _ _ ⟨z2, rfl, -, rfl⟩
    go_wp2_with fail
    refine (C3.out _).mono ?_
    rintro _ w1 ⟨va, la, rfl, hsa, hda, hta, hva, hla, hb1⟩
    have HVA := Lib.hid hva; clear hva
    go_wp2_with fail
    refine (C4.out _).mono ?_
    rintro _ w2 ⟨vb, lb, rfl, hsb, hdb, htb, hvb, hlb, hb2⟩
    have HVB := Lib.hid hvb; clear hvb
    have hsa2 := hsa.below hb2
    obtain ⟨aa, ca, rfl, hca, _, hra⟩ := hsa2
    obtain ⟨ab, cb, rfl, hcb, _, hrb⟩ := hsb
    have HW := Lib.hid (hb1.trans (hb2.mono hb1.size))
    have hsz := Nat.le_trans hb1.size hb2.size
    have hmk := run_make_row' (P := Tryz.prog) 76 3 (.int .i64 0) 8 Tryz.underlying76 info_int rfl .i64 .i64 (la.length + lb.length) (by omega) (by omega)
    rw [Int.natCast_add] at hmk
    have hla2 : la.length ≤ 33333334 := by omega
    have hlb2 : lb.length ≤ 33333334 := by omega
    have HRA := Lib.hid hra; have HRB := Lib.hid hrb; have HDA := Lib.hid hda; have HDB := Lib.hid hdb
    clear hra hrb hda hdb hsa hb1 hb2 hta htb
    go_wp2
    go_loopw [12] (fun i wr => RProdRel w2 la lb i wr) (fun i _ => la.length - (intOf i).toNat)
    case atStart =>
      exact ⟨0, List.replicate (la.length + lb.length) 0, by omega, rfl, Blk.made _ _ _ _, by simp, Dig.replicate (by decide) _, fun j _ => by simp [List.getElem?_replicate]; split <;> rfl, by simp [vl_zeros], (Below.refl _ _).alloc (Nat.le_refl _) _⟩
    case round =>
      clear hmk
      obtain ⟨k, o, hk, rfl, hB, ho, hd, hz, hv, hbel⟩ := hrel
      have HB := Lib.hid hB; have HO := Lib.hid ho; have HZ := Lib.hid hz; have HV := Lib.hid hv; have HBel := Lib.hid hbel; have HD := Lib.hid hd
      clear hB ho hz hv hbel hd
      rcases Nat.lt_or_ge k la.length with hlt | hge
      · obtain ⟨b1, off, rfl, hbl, hrow⟩ := HRA.out (by omega)
        have hxx : ∃ x, la.getD k 0 = x := ⟨_, rfl⟩
        obtain ⟨x, hxe⟩ := hxx
        have hx32 : x < 16777216 := by rw [← hxe]; exact HDA.out.get (by decide) k
        have hrx := hrow k hlt
        rw [hxe] at hrx
        have HX := Lib.hid hxe; have HRX := Lib.hid hrx
        clear hrow hrx hxe HRA
        obtain ⟨wo, rfl⟩ : ∃ wo : World, wo = wr := ⟨_, rfl⟩
        go_wp2
        go_loopw [13, 14] (fun c i wr => RProdIn w2 la lb k x c i wr) (fun _ i _ => lb.length - (intOf i).toNat)
        case atStart =>
          exact ⟨0, 0, o, by omega, rfl, rfl, by omega, HB.out, HO.out, HD.out, HZ.out, by simp [HV.out], HBel.out⟩
        case round =>
          obtain ⟨j, carry, o2, hj, rfl, rfl, hcy, hB2, ho2, hd2, hz2, hv2, hbel2⟩ := hrel
          clear HB HO HZ HV HBel HD
          have HB := Lib.hid hB2; have HO := Lib.hid ho2; have HZ := Lib.hid hz2; have HV := Lib.hid hv2; have HBel := Lib.hid hbel2; have HD := Lib.hid hd2
          clear hB2 ho2 hz2 hv2 hbel2 hd2
          rcases Nat.lt_or_ge j lb.length with hlb3 | hlb3
          · obtain ⟨b2, off2, rfl, hbl2, hrow2⟩ := HRB.out (by omega)
            have hy := (hrow2.below hbl2 HBel.out) j hlb3
            have hx := (HBel.out.cell (p := ⟨b1, off + k, none⟩) hbl).trans HRX.out
            obtain ⟨y, hye⟩ : ∃ y, lb.getD j 0 = y := ⟨_, rfl⟩
            have hy32 : y < 16777216 := by rw [← hye]; exact HDB.out.get (by decide) j
            rw [hye] at hy
            have HY := Lib.hid hye; clear hye hrow2 HRB
            have hw := HB.out.get (k + j) (by have := HO.out; omega)
            have hf := HB.out.free (k + j)
            have hw32 := HD.out.get (by decide) (k + j)
            generalize hze : o2.getD (k + j) 0 = z at hw hw32
            have HZE := Lib.hid hze; clear hze
            have hm := mul24 hx32 hy32
            obtain ⟨p, hp, HP⟩ : ∃ p : Nat, (x : Int) * (y : Int) = (p : Int) ∧ Hid (p = x * y) := ⟨x * y, by simp, Lib.hid rfl⟩
            have hpb : p ≤ 281474943156225 := by rw [HP.out]; exact hm
            clear hm
            have ek : IntKind.i64.wrap ((k : Int) + (j : Int)) = (k : Int) + (j : Int) := IntWalk.i64_in _ (by omega)
            have ek0 : (0 : Int) ≤ (k : Int) + (j : Int) := by omega
            have ek1 : (k : Int) + (j : Int) < (la.length : Int) + (lb.length : Int) := by omega
            have ekn : ((k : Int) + (j : Int)).toNat = k + j := by omega
            have ep : IntKind.i64.wrap (p : Int) = (p : Int) := IntWalk.i64_in _ (by omega)
            have es : IntKind.i64.wrap ((z : Int) + (p : Int)) = (z : Int) + (p : Int) := IntWalk.i64_in _ (by omega)
            have es2 : IntKind.i64.wrap ((z : Int) + (p : Int) + (carry : Int)) = (z : Int) + (p : Int) + (carry : Int) := IntWalk.i64_in _ (by omega)
            have ei0 : (0 : Int) ≤ (k : Int) := by omega
            have ei1 : (k : Int) < (la.length : Int) := by omega
            have ej0 : (0 : Int) ≤ (j : Int) := by omega
            have ej1 : (j : Int) < (lb.length : Int) := by omega
            go_wp2_with fail
            go_quiet (fail)
            clear ek ek0 ek1 ekn ep es es2
            go_wp2
            have hbw : Below w2.heap.size w2 (wr.drewN nq) := belowDrewN HBel.out nq
            have hbk : Blk (wr.drewN nq) w2.heap.size 3 (ints .i64 o2) := HB.out
            exact ⟨RProdIn.step HY.out HZE.out HP.out hx32 hy32 hw32 hlt hlb3 hcy hbk HO.out HD.out HZ.out HV.out hbw _ _ _ (by omega) rfl (by omega), by simp only [intOf]; omega⟩
          · obtain rfl : j = lb.length := by omega
            have hw := HB.out.get (k + lb.length) (by have := HO.out; omega)
            have hf := HB.out.free (k + lb.length)
            go_wp2
            refine ⟨⟨k + 1, o2.set (k + lb.length) carry, by omega, rfl, HB.out.set _ _, by simpa using HO.out, HD.out.set _ _ (by omega), ?_, ?_, HBel.out.setCell (Nat.le_refl _) _⟩, by simp [intOf]; omega⟩
            · intro t ht
              rw [ldigit_set_ne _ _ _ _ (by omega)]
              exact HZ.out t (by omega)
            · have h1 := vl_set 16777216 o2 (k + lb.length) carry (by have := HO.out; omega)
              rw [HZ.out _ (Nat.le_refl _)] at h1
              have h2 := HV.out
              rw [List.take_of_length_le (Nat.le_refl _)] at h2
              rw [vl_take_succ', HX.out, Nat.add_mul]
              have h3 : 16777216 ^ k * x * vl 16777216 lb = x * 16777216 ^ k * vl 16777216 lb := by rw [Nat.mul_comm x]
              have h4 : 16777216 ^ (k + lb.length) * carry = carry * 16777216 ^ (k + lb.length) := Nat.mul_comm _ _
              omega
      · obtain rfl : k = la.length := by omega
        have hsl : Sl .i64 wr (.slice (some ⟨w2.heap.size, 0, none⟩) (la.length + lb.length) (la.length + lb.length)) o := by
          have := HB.out.row.sl HB.out.lt (la.length + lb.length) (by have := HO.out; omega) (by omega)
          simpa [HO.out] using this
        have HSL := Lib.hid hsl; clear hsl
        go_wp2_with fail
        refine (rnumber_any HSL.out HD.out (by have := HO.out; omega)).mono ?_
        rintro _ w3 ⟨rfl, hb3⟩
        go_wp2_with fail
        go_ret
        refine ⟨?_, (HW.out.trans (HBel.out.mono hsz)).trans (hb3.mono (Nat.le_trans hsz HBel.out.size))⟩
        have h := HV.out
        rw [List.take_of_length_le (Nat.le_refl _), HVA.out, HVB.out, ← HA.out] at h
        rw [← h]
        rfl

/-- **sortesref01.Mul**. -/
theorem RMul_any (a b : ByteArray) (w : World) (ha : a.size ≤ 100000000) (hb : b.size ≤ 100000000) :
    Calls Tryz.prog 71 #[.string a, .string b] w fun e w' => e = .returned (.string (Enc (SN a * SN b))) ∧ Below w.heap.size w w' := by
  by_cases h : SN a < 256 ^ 3 ∧ SN b < 256 ^ 4
  · exact RMul_small a b w ha hb h.1 h.2
  · exact RMul_large a b w ha hb h

#print axioms RMul_any
end Go.Proofs.YtolmjeglaolhlaaGreatDoor
