/- Shifts of slices of digits. -/
import Derived.RegionTactic
import Derived.ChangeAlike
import Derived.BigRegion
import Derived.Test.YtolmjeglaolhlaaGreatDoorBase

/- The contract of nat.up: the digits shifted. -/
namespace Go.Proofs.YtolmjeglaolhlaaGreatDoor
open Go.RowKit Num

def UpRel (w : World) (la : List Nat) (n : Nat) (i : Value) (wr : World) : Prop :=
  ∃ (k : Nat) (o : List Nat), k ≤ la.length ∧ i = .int .i64 (k : Int) ∧ Blk wr w.heap.size 30 (ints .u32 o) ∧ o.length = la.length + 1 ∧
    Dig 4294967296 o ∧ (∀ j, k < j → o.getD j 0 = 0) ∧ o.getD k 0 < 2 ^ n ∧ vl 4294967296 o = vl 4294967296 (la.take k) * 2 ^ n ∧ Below w.heap.size w wr

theorem pow2_le_32 {n : Nat} (h : n ≤ 32) : 2 ^ n ≤ 4294967296 := Nat.le_trans (Nat.pow_le_pow_right (by omega) h) (by decide)

theorem pow2_split {n : Nat} (h : n ≤ 32) : 2 ^ n * 2 ^ (32 - n) = 4294967296 := by
  rw [← Nat.pow_add, show n + (32 - n) = 32 by omega]

theorem shl_div {x n : Nat} (hx : x < 4294967296) (hn : n ≤ 32) : x * 2 ^ n / 4294967296 < 2 ^ n := by
  have _ := hn
  rw [Nat.div_lt_iff_lt_mul (by decide), Nat.mul_comm (2 ^ n)]
  exact Nat.mul_lt_mul_of_pos_right hx (Nat.pow_pos (by omega))

theorem shl_mod {x n : Nat} (hn : n ≤ 32) : ∃ a, x * 2 ^ n % 4294967296 = a * 2 ^ n := by
  refine ⟨x % 2 ^ (32 - n), ?_⟩
  rw [← pow2_split hn, Nat.mul_comm x, Nat.mul_mod_mul_left, Nat.mul_comm]

theorem UpRel.step {w wr : World} {la o : List Nat} {n k x y p : Nat} (hx : la.getD k 0 = x) (hy : o.getD k 0 = y) (hp : p = x * 2 ^ n) (hx32 : x < 4294967296) (hn : n < 32) (hk : k < la.length)
    (hB : Blk wr w.heap.size 30 (ints .u32 o)) (ho : o.length = la.length + 1) (hd : Dig 4294967296 o) (hz : ∀ j, k < j → o.getD j 0 = 0) (hz1 : o.getD k 0 < 2 ^ n)
    (hv : vl 4294967296 o = vl 4294967296 (la.take k) * 2 ^ n) (hbel : Below w.heap.size w wr) :
    UpRel w la n (.int .i64 (k + 1)) ((wr.setCell ⟨w.heap.size, k, none⟩ (.int .u32 (bits .or .u32 (y : Int) ((p : Int) % 4294967296)))).setCell ⟨w.heap.size, k + 1, none⟩ (.int .u32 ((p : Int) / 4294967296))) := by
  have hlt := shl_div hx32 (show n ≤ 32 by omega)
  obtain ⟨a, ha⟩ := shl_mod (x := x) (show n ≤ 32 by omega)
  rw [← hp] at hlt ha
  have h32 := pow2_le_32 (show n ≤ 32 by omega)
  rw [hy] at hz1
  have hm : p % 4294967296 < 4294967296 := Nat.mod_lt _ (by decide)
  have e1 : bits .or .u32 (y : Int) ((p : Int) % 4294967296) = ((y + p % 4294967296 : Nat) : Int) := by
    have h := u32_or_nat y (p % 4294967296) (by omega) hm
    rw [ha, Nat.or_comm, or_mul a y n hz1, ← ha, Nat.add_comm] at h
    rw [show (p : Int) % 4294967296 = ((p % 4294967296 : Nat) : Int) by omega]
    exact h
  have hsum : y + p % 4294967296 < 4294967296 := by
    rw [ha] at hm ⊢
    have h4 := pow2_split (show n ≤ 32 by omega)
    have h5 : a < 2 ^ (32 - n) := by
      rw [← h4, Nat.mul_comm a] at hm
      exact Nat.lt_of_mul_lt_mul_left hm
    have h6 : (a + 1) * 2 ^ n ≤ 2 ^ (32 - n) * 2 ^ n := Nat.mul_le_mul_right _ h5
    rw [Nat.add_mul, Nat.mul_comm (2 ^ (32 - n)), h4] at h6
    omega
  rw [e1, show (p : Int) / 4294967296 = ((p / 4294967296 : Nat) : Int) by omega]
  refine ⟨k + 1, (o.set k (y + p % 4294967296)).set (k + 1) (p / 4294967296), by omega, rfl, (hB.set _ _).set _ _, by simpa using ho, (hd.set _ _ hsum).set _ _ (by omega), ?_, ?_, ?_, (hbel.setCell (Nat.le_refl _) _).setCell (Nat.le_refl _) _⟩
  · intro j hj
    rw [ldigit_set_ne _ _ _ _ (by omega), ldigit_set_ne _ _ _ _ (by omega)]
    exact hz j (by omega)
  · rw [getD_set _ _ _ _ (by simp; omega), if_pos rfl]
    exact hlt
  · have h1 := vl_set 4294967296 o k (y + p % 4294967296) (by omega)
    have h2 := vl_set 4294967296 (o.set k (y + p % 4294967296)) (k + 1) (p / 4294967296) (by simp; omega)
    rw [ldigit_set_ne _ _ _ _ (by omega), hz (k + 1) (by omega)] at h2
    rw [hy, Nat.mul_add] at h1
    rw [vl_take_succ', hx, Nat.add_mul]
    have h3 := Nat.mod_add_div p 4294967296
    have h4 : 4294967296 ^ k * x * 2 ^ n = 4294967296 ^ k * (p % 4294967296) + 4294967296 ^ (k + 1) * (p / 4294967296) := by
      rw [Nat.pow_succ, Nat.mul_assoc, ← hp, Nat.mul_assoc, ← Nat.mul_add, h3]
    omega

set_option maxRecDepth 100000 in
set_option maxHeartbeats 800000 in
/-- **nat.up**. -/
theorem up_any {va : Value} {la : List Nat} {w : World} (n : Nat) (ha : Sl .u32 w va la) (da : Dig 4294967296 la) (hn : n < 32) (hsa : la.length ≤ 1073741824) :
    Calls Tryz.prog 104 #[va, .int .i64 (n : Int)] w fun e w' => ∃ l, e = .returned (.slice (some ⟨w.heap.size, 0, none⟩) (la.length + 1) (la.length + 1)) ∧ Blk w' w.heap.size 30 (ints .u32 l) ∧ l.length = la.length + 1 ∧ Dig 4294967296 l ∧ vl 4294967296 l = vl 4294967296 la * 2 ^ n ∧ Below w.heap.size w w' := by
  obtain ⟨aa, ca, rfl, hca, _, ha⟩ := ha
  have hmk := run_make_row' (P := Tryz.prog) 80 30 (.int .u32 0) 4 Tryz.underlying80 info_u32 rfl .i64 .i64 (la.length + 1) (by omega) (by omega)
  rw [show ((la.length + 1 : Nat) : Int) = (la.length : Int) + 1 from rfl] at hmk
  go_enter Tryz.func104, Tryz.ntmps104
  go_wp2
  go_loopw [15] (fun i wr => UpRel w la n i wr) (fun i _ => la.length - (intOf i).toNat)
  case atStart =>
    exact ⟨0, List.replicate (la.length + 1) 0, by omega, rfl, Blk.made _ _ _ _, by simp, Dig.replicate (by decide) _, fun j _ => by simp [List.getElem?_replicate]; split <;> rfl, by simp; exact Nat.pow_pos (by omega), by simp [vl_zeros], (Below.refl _ _).alloc (Nat.le_refl _) _⟩
  case round =>
    obtain ⟨k, o, hk, rfl, hB, ho, hd, hz, hz1, hv, hbel⟩ := hrel
    have HB := Lib.hid hB; have HO := Lib.hid ho; have HZ := Lib.hid hz; have HZ1 := Lib.hid hz1; have HV := Lib.hid hv; have HBel := Lib.hid hbel
    clear hB ho hz hz1 hv hbel
    rcases Nat.lt_or_ge k la.length with hlt | hge
    · obtain ⟨b, off, rfl, hbl, hrow⟩ := ha (by omega)
      have hx := (hrow.below hbl HBel.out) k hlt
      have hx32 := da.get (by decide) k
      clear hrow ha
      generalize hxe : la.getD k 0 = x at hx hx32
      have HX := Lib.hid hxe; clear hxe
      have hwr := HB.out.get k (by have := HO.out; omega)
      have hfr := HB.out.free k
      generalize hye : o.getD k 0 = y at hwr
      have HY := Lib.hid hye; clear hye
      have hwr1 := HB.out.get (k + 1) (by have := HO.out; omega)
      have hfr1 := HB.out.free (k + 1)
      generalize o.getD (k + 1) 0 = z at hwr1
      obtain ⟨p, hp, hp1, hp2⟩ : ∃ p : Nat, IntKind.u64.wrap ((x : Int) * 2 ^ n) = (p : Int) ∧ p < 18446744073709551616 ∧ p = x * 2 ^ n := by
        have h1 := pow2_le_32 (show n ≤ 32 by omega)
        have h2 : x * 2 ^ n ≤ 4294967295 * 4294967296 := Nat.mul_le_mul (by omega) h1
        refine ⟨x * 2 ^ n, ?_, by omega, rfl⟩
        have e : (x : Int) * 2 ^ n = ((x * 2 ^ n : Nat) : Int) := by simp
        rw [e, IntKind.wrap_u64]
        omega
      have HP := Lib.hid hp2; clear hp2
      go_wp2
      exact ⟨UpRel.step HX.out HY.out HP.out hx32 hn hlt HB.out HO.out hd HZ.out HZ1.out HV.out HBel.out, by simp [intOf]; omega⟩
    · obtain rfl : k = la.length := by omega
      go_wp2_with fail
      go_ret
      have h1 := HV.out
      rw [List.take_of_length_le (Nat.le_refl _)] at h1
      exact ⟨o, rfl, HB.out, HO.out, hd, h1, HBel.out⟩

end Go.Proofs.YtolmjeglaolhlaaGreatDoor

/- The contract of nat.down: the digits shifted back. -/
namespace Go.Proofs.YtolmjeglaolhlaaGreatDoor
open Go.RowKit Num

def DownRel (w : World) (la : List Nat) (n : Nat) (i : Value) (wr : World) : Prop :=
  ∃ (k : Nat) (o : List Nat), k ≤ la.length ∧ i = .int .i64 (k : Int) ∧ Blk wr w.heap.size 30 (ints .u32 o) ∧ o.length = la.length ∧
    Dig 4294967296 o ∧ 2 ^ n * vl 4294967296 (o.take k) + la.getD 0 0 % 2 ^ n = vl 4294967296 (la.take k) + 4294967296 ^ k * (la.getD k 0 % 2 ^ n) ∧ Below w.heap.size w wr

theorem shl_mod' (x : Nat) {m n : Nat} (h : m + n = 32) : x * 2 ^ m % 4294967296 = (x % 2 ^ n) * 2 ^ m := by
  have e : 4294967296 = 2 ^ m * 2 ^ n := by rw [← Nat.pow_add, h]
  rw [e, Nat.mul_comm x, Nat.mul_mod_mul_left, Nat.mul_comm]

theorem DownRel.core {w wr : World} {la o : List Nat} {n m k x x1 q D : Nat} (hx : la.getD k 0 = x) (hx1 : la.getD (k + 1) 0 = x1) (hq : q = x / 2 ^ n) (hmn : m + n = 32) (hD : D = q + (x1 % 2 ^ n) * 2 ^ m) (hx32 : x < 4294967296) (hk : k < la.length)
    (hB : Blk wr w.heap.size 30 (ints .u32 (o.set k D))) (ho : o.length = la.length) (hd : Dig 4294967296 o)
    (hv : 2 ^ n * vl 4294967296 (o.take k) + la.getD 0 0 % 2 ^ n = vl 4294967296 (la.take k) + 4294967296 ^ k * (la.getD k 0 % 2 ^ n)) (hbel : Below w.heap.size w wr) :
    DownRel w la n (.int .i64 (k + 1)) wr := by
  have e32 : 2 ^ n * 2 ^ m = 4294967296 := by rw [← Nat.pow_add, Nat.add_comm, hmn]
  have hn0 : 0 < 2 ^ n := Nat.pow_pos (by omega)
  have hq1 : q < 2 ^ m := by
    rw [hq, Nat.div_lt_iff_lt_mul hn0, Nat.mul_comm, e32]; exact hx32
  have hr : x1 % 2 ^ n < 2 ^ n := Nat.mod_lt _ hn0
  have hD32 : D < 4294967296 := by
    have h1 : (x1 % 2 ^ n + 1) * 2 ^ m ≤ 2 ^ n * 2 ^ m := Nat.mul_le_mul_right _ hr
    rw [Nat.add_mul, e32] at h1
    omega
  refine ⟨k + 1, o.set k D, by omega, rfl, hB, by simpa using ho, hd.set _ _ hD32, ?_, hbel⟩
  rw [vl_take_set _ _ _ _ (by omega), vl_take_succ', hx1]
  rw [hx] at hv ⊢
  have h2 := Nat.mod_add_div x (2 ^ n)
  rw [← hq] at h2
  generalize x % 2 ^ n = r at *
  generalize x1 % 2 ^ n = r1 at *
  rw [Nat.pow_succ]
  subst hD
  generalize 4294967296 ^ k = B at *
  generalize vl 4294967296 (o.take k) = V at *
  generalize vl 4294967296 (la.take k) = U at *
  rw [← e32]
  generalize 2 ^ n = N at *
  generalize 2 ^ m = M at *
  grind

theorem DownRel.step2 {w wr : World} {la o : List Nat} {n m k x x1 q p : Nat} (hx : la.getD k 0 = x) (hx1 : la.getD (k + 1) 0 = x1) (hq : q = x / 2 ^ n) (hmn : m + n = 32) (hp : p = x1 * 2 ^ m) (hx32 : x < 4294967296) (hk : k < la.length)
    (hB : Blk wr w.heap.size 30 (ints .u32 o)) (ho : o.length = la.length) (hd : Dig 4294967296 o)
    (hv : 2 ^ n * vl 4294967296 (o.take k) + la.getD 0 0 % 2 ^ n = vl 4294967296 (la.take k) + 4294967296 ^ k * (la.getD k 0 % 2 ^ n)) (hbel : Below w.heap.size w wr) :
    DownRel w la n (.int .i64 (k + 1)) ((wr.setCell ⟨w.heap.size, k, none⟩ (.int .u32 (q : Int))).setCell ⟨w.heap.size, k, none⟩ (.int .u32 (bits .or .u32 (q : Int) ((p : Int) % 4294967296)))).drew := by
  have hn0 : 0 < 2 ^ n := Nat.pow_pos (by omega)
  have e32 : 2 ^ n * 2 ^ m = 4294967296 := by rw [← Nat.pow_add, Nat.add_comm, hmn]
  have hq1 : q < 2 ^ m := by
    rw [hq, Nat.div_lt_iff_lt_mul hn0, Nat.mul_comm, e32]; exact hx32
  have hq2 := pow2_le_32 (show m ≤ 32 by omega)
  have hm := shl_mod' x1 hmn
  rw [← hp] at hm
  have hm2 : p % 4294967296 < 4294967296 := Nat.mod_lt _ (by decide)
  have e1 : bits .or .u32 (q : Int) ((p : Int) % 4294967296) = ((q + (x1 % 2 ^ n) * 2 ^ m : Nat) : Int) := by
    have h := u32_or_nat q (p % 4294967296) (by omega) hm2
    rw [show (p : Int) % 4294967296 = ((p % 4294967296 : Nat) : Int) by omega, h, hm, Nat.or_comm, or_mul _ _ _ hq1, Nat.add_comm]
  rw [e1]
  have hB2 := ((hB.set k q).set k (q + (x1 % 2 ^ n) * 2 ^ m)).drew
  rw [List.set_set] at hB2
  exact DownRel.core hx hx1 hq hmn rfl hx32 hk hB2 ho hd hv (((hbel.setCell (Nat.le_refl _) _).setCell (Nat.le_refl _) _).drew)

theorem DownRel.step1 {w wr : World} {la o : List Nat} {n m k x q : Nat} (hx : la.getD k 0 = x) (hq : q = x / 2 ^ n) (hmn : m + n = 32) (hx32 : x < 4294967296) (hk : k < la.length) (hk1 : la.length ≤ k + 1)
    (hB : Blk wr w.heap.size 30 (ints .u32 o)) (ho : o.length = la.length) (hd : Dig 4294967296 o)
    (hv : 2 ^ n * vl 4294967296 (o.take k) + la.getD 0 0 % 2 ^ n = vl 4294967296 (la.take k) + 4294967296 ^ k * (la.getD k 0 % 2 ^ n)) (hbel : Below w.heap.size w wr) :
    DownRel w la n (.int .i64 (k + 1)) (wr.setCell ⟨w.heap.size, k, none⟩ (.int .u32 (q : Int))) :=
  DownRel.core (x1 := 0) hx (by rw [List.getD_eq_getElem?_getD, List.getElem?_eq_none hk1]; rfl) hq hmn (by simp) hx32 hk (hB.set k q) ho hd hv (hbel.setCell (Nat.le_refl _) _)

set_option maxRecDepth 100000 in
set_option maxHeartbeats 800000 in
/-- **nat.down**. -/
theorem down_any {va : Value} {la : List Nat} {w : World} (n : Nat) (ha : Sl .u32 w va la) (da : Dig 4294967296 la) (hn : n < 32) (hsa : la.length ≤ 1073741824) :
    Calls Tryz.prog 108 #[va, .int .i64 (n : Int)] w fun e w' => ∃ v l, e = .returned v ∧ Sl .u32 w' v l ∧ Dig 4294967296 l ∧ Tr l ∧ vl 4294967296 l = vl 4294967296 la / 2 ^ n ∧ l.length ≤ la.length ∧ Below w.heap.size w w' := by
  obtain ⟨aa, ca, rfl, hca, _, ha⟩ := ha
  have hmk := run_make_row' (P := Tryz.prog) 80 30 (.int .u32 0) 4 Tryz.underlying80 info_u32 rfl .i64 .i64 la.length (by omega) (by omega)
  obtain ⟨m, hm, hmn⟩ : ∃ m : Nat, (32 : Int) - (n : Int) = (m : Int) ∧ m + n = 32 := ⟨32 - n, by omega, by omega⟩
  have HMN := Lib.hid hmn
  have hm32 : m ≤ 32 := by omega
  clear hmn
  go_enter Tryz.func108, Tryz.ntmps108
  go_wp2
  go_loopw [13] (fun i wr => DownRel w la n i wr) (fun i _ => la.length - (intOf i).toNat)
  case atStart =>
    exact ⟨0, List.replicate la.length 0, by omega, rfl, Blk.made _ _ _ _, by simp, Dig.replicate (by decide) _, by simp, (Below.refl _ _).alloc (Nat.le_refl _) _⟩
  case round =>
    obtain ⟨k, o, hk, rfl, hB, ho, hd, hv, hbel⟩ := hrel
    have HB := Lib.hid hB; have HO := Lib.hid ho; have HV := Lib.hid hv; have HBel := Lib.hid hbel
    clear hB ho hv hbel
    rcases Nat.lt_or_ge k la.length with hlt | hge
    · obtain ⟨b, off, rfl, hbl, hrow⟩ := ha (by omega)
      clear ha
      have hx := (hrow.below hbl HBel.out) k hlt
      have hx32 := da.get (by decide) k
      generalize hxe : la.getD k 0 = x at hx hx32
      have HX := Lib.hid hxe; clear hxe
      have hwr := HB.out.get k (by have := HO.out; omega)
      have hfr := HB.out.free k
      generalize o.getD k 0 = y at hwr
      obtain ⟨q, hq, hq2, hq3⟩ : ∃ q : Nat, (x : Int) / 2 ^ n = (q : Int) ∧ q = x / 2 ^ n ∧ q < 4294967296 :=
        ⟨x / 2 ^ n, by simp, rfl, Nat.lt_of_le_of_lt (Nat.div_le_self _ _) hx32⟩
      have HQ := Lib.hid hq2; clear hq2
      rcases Nat.lt_or_ge (k + 1) la.length with hlt1 | hge1
      · have hx1 := (hrow.below hbl HBel.out) (k + 1) hlt1
        have hx132 := da.get (by decide) (k + 1)
        generalize hxe1 : la.getD (k + 1) 0 = x1 at hx1 hx132
        have HX1 := Lib.hid hxe1; clear hxe1 hrow
        obtain ⟨p, hp, hp1, hp2⟩ : ∃ p : Nat, IntKind.u64.wrap ((x1 : Int) * 2 ^ m) = (p : Int) ∧ p < 18446744073709551616 ∧ p = x1 * 2 ^ m := by
          have h1 := pow2_le_32 hm32
          have h2 : x1 * 2 ^ m ≤ 4294967295 * 4294967296 := Nat.mul_le_mul (by omega) h1
          refine ⟨x1 * 2 ^ m, ?_, by omega, rfl⟩
          have e : (x1 : Int) * 2 ^ m = ((x1 * 2 ^ m : Nat) : Int) := by simp
          rw [e, IntKind.wrap_u64]
          omega
        have HP := Lib.hid hp2; clear hp2
        go_wp2
        go_region
        go_wp2
        exact ⟨DownRel.step2 HX.out HX1.out HQ.out HMN.out HP.out hx32 hlt HB.out HO.out hd HV.out HBel.out, by simp [intOf]; omega⟩
      · clear hrow
        go_wp2
        exact ⟨DownRel.step1 HX.out HQ.out HMN.out hx32 hlt hge1 HB.out HO.out hd HV.out HBel.out, by simp [intOf]; omega⟩
    · obtain rfl : k = la.length := by omega
      have hsl : Sl .u32 wr (.slice (some ⟨w.heap.size, 0, none⟩) la.length la.length) o := by
        have := HB.out.row.sl HB.out.lt la.length (by have := HO.out; omega) (by omega)
        simpa [HO.out] using this
      have HSL := Lib.hid hsl; clear hsl
      go_wp2_with fail
      refine (trim_any (b := 4294967296) HSL.out).mono ?_
      rintro e w' ⟨v', l', rfl, hs', hd', ht', hv', hl', rfl⟩
      go_wp2_with fail
      go_ret
      have h1 := HV.out
      have h2 := HO.out
      rw [List.take_of_length_le (by omega), List.take_of_length_le (Nat.le_refl _), List.getD_eq_getElem?_getD (i := la.length), List.getElem?_eq_none (Nat.le_refl _)] at h1
      refine ⟨v', l', rfl, hs', hd' hd, ht', ?_, by omega, HBel.out⟩
      rw [hv']
      simp only [Option.getD_none, Nat.zero_mod, Nat.mul_zero, Nat.add_zero] at h1
      rw [← h1, Nat.mul_add_div (Nat.pow_pos (by omega)), Nat.div_eq_of_lt (Nat.mod_lt _ (Nat.pow_pos (by omega))), Nat.add_zero]

#print axioms down_any
end Go.Proofs.YtolmjeglaolhlaaGreatDoor
