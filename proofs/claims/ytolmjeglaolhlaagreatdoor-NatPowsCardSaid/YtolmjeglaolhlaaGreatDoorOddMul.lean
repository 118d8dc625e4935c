/- The Montgomery product: nat.odd.mul. -/
import Derived.Test.YtolmjeglaolhlaaGreatDoorOddNew
import Derived.Test.YtolmjeglaolhlaaGreatDoorLims
import Derived.Deep.DeepCutAuto
namespace Go.Proofs.YtolmjeglaolhlaaGreatDoor
open Go.RowKit Num

/-- Between two rounds of the outer loop. -/
def MulRel (W : World) (A M : Nat) (lb lm : List Nat) (i : Value) (wr : World) : Prop :=
  ∃ (j : Nat) (o : List Nat) (Q : Nat), j ≤ lb.length ∧ i = .int .i64 (j : Int) ∧ Blk wr W.heap.size 30 (ints .u32 o) ∧ o.length = lm.length + 2 ∧ Dig 4294967296 o ∧
    vl 4294967296 (o.take (lm.length + 1)) * 4294967296 ^ j = A * vl 4294967296 (lb.take j) + Q * M ∧ vl 4294967296 (o.take (lm.length + 1)) < 2 * M ∧ Below W.heap.size W wr

/-- In the loop that adds y times a. -/
def AddIn (W : World) (la o0 : List Nat) (y : Nat) (c i : Value) (wr : World) : Prop :=
  ∃ (j carry : Nat) (o : List Nat), j ≤ la.length ∧ i = .int .i64 (j : Int) ∧ c = .int .u64 (carry : Int) ∧ carry < 4294967296 ∧ Blk wr W.heap.size 30 (ints .u32 o) ∧ o.length = la.length + 2 ∧ Dig 4294967296 o ∧
    (∀ t, j ≤ t → o.getD t 0 = o0.getD t 0) ∧ vl 4294967296 (o.take j) + carry * 4294967296 ^ j = vl 4294967296 (o0.take j) + y * vl 4294967296 (la.take j) ∧ Below W.heap.size W wr

/-- In the loop that adds q times the modulus and shifts by a digit. -/
def ShiftIn (W : World) (lm o1 : List Nat) (q : Nat) (c i : Value) (wr : World) : Prop :=
  ∃ (j carry : Nat) (o : List Nat), j + 1 ≤ lm.length ∧ i = .int .i64 ((j : Int) + 1) ∧ c = .int .u64 (carry : Int) ∧ carry < 4294967296 ∧ Blk wr W.heap.size 30 (ints .u32 o) ∧ o.length = lm.length + 2 ∧ Dig 4294967296 o ∧
    (∀ t, j + 1 ≤ t → o.getD t 0 = o1.getD t 0) ∧ 4294967296 * (vl 4294967296 (o.take j) + carry * 4294967296 ^ j) = vl 4294967296 (o1.take (j + 1)) + q * vl 4294967296 (lm.take (j + 1)) ∧ Below W.heap.size W wr

theorem AddIn.step {W wr : World} {la o0 o : List Nat} {j carry x y z : Nat} {s : Int} (hx : la.getD j 0 = x) (hz : o.getD j 0 = z) (hs : s = ((z + x * y + carry : Nat) : Int))
    (hx32 : x < 4294967296) (hy32 : y < 4294967296) (hz32 : z < 4294967296) (hj : j < la.length) (hcy : carry < 4294967296) (hB : Blk wr W.heap.size 30 (ints .u32 o)) (ho : o.length = la.length + 2)
    (hd : Dig 4294967296 o) (hzz : ∀ t, j ≤ t → o.getD t 0 = o0.getD t 0)
    (hv : vl 4294967296 (o.take j) + carry * 4294967296 ^ j = vl 4294967296 (o0.take j) + y * vl 4294967296 (la.take j)) (hbel : Below W.heap.size W wr) :
    AddIn W la o0 y (.int .u64 (s / 4294967296)) (.int .i64 (j + 1)) (wr.setCell ⟨W.heap.size, j, none⟩ (.int .u32 (s % 4294967296))) := by
  have hm : x * y ≤ 4294967295 * 4294967295 := Nat.mul_le_mul (by omega) (by omega)
  generalize hxy : x * y = p at *
  have e1 : s % 4294967296 = (((z + p + carry) % 4294967296 : Nat) : Int) := by omega
  have e2 : s / 4294967296 = (((z + p + carry) / 4294967296 : Nat) : Int) := by omega
  rw [e1, e2]
  refine ⟨j + 1, (z + p + carry) / 4294967296, o.set j ((z + p + carry) % 4294967296), by omega, rfl, rfl, by omega, hB.set _ _, by simpa using ho, hd.set _ _ (by omega), ?_, ?_, hbel.setCell (Nat.le_refl _) _⟩
  · intro t ht
    rw [ldigit_set_ne _ _ _ _ (by omega)]
    exact hzz t (by omega)
  · rw [vl_take_set 4294967296 o j _ (by omega), vl_take_succ', vl_take_succ' 4294967296 la, ← hzz j (Nat.le_refl _), hz, hx, Nat.pow_succ]
    have h2 := Nat.mod_add_div (z + p + carry) 4294967296
    generalize (z + p + carry) / 4294967296 = q at *
    generalize (z + p + carry) % 4294967296 = r at *
    have e3 : y * (vl 4294967296 (la.take j) + 4294967296 ^ j * x) = y * vl 4294967296 (la.take j) + 4294967296 ^ j * p := by rw [← hxy]; grind
    have e4 : q * (4294967296 ^ j * 4294967296) = 4294967296 ^ j * (4294967296 * q) := by grind
    rw [e3, e4]
    generalize 4294967296 ^ j = B at *
    generalize vl 4294967296 (o.take j) = V at *
    generalize vl 4294967296 (o0.take j) = V0 at *
    generalize y * vl 4294967296 (la.take j) = V1 at *
    have h6 : B * r + B * (4294967296 * q) = B * z + B * p + B * carry := by rw [← Nat.mul_add, h2]; grind
    have h7 : B * carry = carry * B := Nat.mul_comm _ _
    omega

theorem ShiftIn.step {W wr : World} {lm o1 o : List Nat} {j carry m q z : Nat} {s : Int} (hx : lm.getD (j + 1) 0 = m) (hz : o.getD (j + 1) 0 = z) (hs : s = ((z + q * m + carry : Nat) : Int))
    (hx32 : m < 4294967296) (hy32 : q < 4294967296) (hz32 : z < 4294967296) (hj : j + 1 < lm.length) (hcy : carry < 4294967296) (hB : Blk wr W.heap.size 30 (ints .u32 o)) (ho : o.length = lm.length + 2)
    (hd : Dig 4294967296 o) (hzz : ∀ t, j + 1 ≤ t → o.getD t 0 = o1.getD t 0)
    (hv : 4294967296 * (vl 4294967296 (o.take j) + carry * 4294967296 ^ j) = vl 4294967296 (o1.take (j + 1)) + q * vl 4294967296 (lm.take (j + 1))) (hbel : Below W.heap.size W wr) :
    ShiftIn W lm o1 q (.int .u64 (s / 4294967296)) (.int .i64 ((j : Int) + 1 + 1)) (wr.setCell ⟨W.heap.size, j, none⟩ (.int .u32 (s % 4294967296))) := by
  have hm : q * m ≤ 4294967295 * 4294967295 := Nat.mul_le_mul (by omega) (by omega)
  generalize hxy : q * m = p at *
  have e1 : s % 4294967296 = (((z + p + carry) % 4294967296 : Nat) : Int) := by omega
  have e2 : s / 4294967296 = (((z + p + carry) / 4294967296 : Nat) : Int) := by omega
  rw [e1, e2]
  refine ⟨j + 1, (z + p + carry) / 4294967296, o.set j ((z + p + carry) % 4294967296), by omega, rfl, rfl, by omega, hB.set _ _, by simpa using ho, hd.set _ _ (by omega), ?_, ?_, hbel.setCell (Nat.le_refl _) _⟩
  · intro t ht
    rw [ldigit_set_ne _ _ _ _ (by omega)]
    exact hzz t (by omega)
  · rw [vl_take_set 4294967296 o j _ (by omega), vl_take_succ' _ o1, vl_take_succ' 4294967296 lm, ← hzz (j + 1) (Nat.le_refl _), hz, hx]
    have h2 := Nat.mod_add_div (z + p + carry) 4294967296
    generalize (z + p + carry) / 4294967296 = u at *
    generalize (z + p + carry) % 4294967296 = r at *
    have e3 : q * (vl 4294967296 (lm.take (j + 1)) + 4294967296 ^ (j + 1) * m) = q * vl 4294967296 (lm.take (j + 1)) + 4294967296 ^ (j + 1) * p := by rw [← hxy]; grind
    rw [e3]
    generalize vl 4294967296 (o.take j) = V at *
    generalize vl 4294967296 (o1.take (j + 1)) = V0 at *
    generalize q * vl 4294967296 (lm.take (j + 1)) = V1 at *
    rw [Nat.pow_succ] at *
    generalize 4294967296 ^ j = B at *
    have h6 : B * 4294967296 * r + B * 4294967296 * (4294967296 * u) = B * 4294967296 * z + B * 4294967296 * p + B * 4294967296 * carry := by rw [← Nat.mul_add, h2]; grind
    have h7 : 4294967296 * (V + B * r + u * (B * 4294967296)) = 4294967296 * V + (B * 4294967296 * r + B * 4294967296 * (4294967296 * u)) := by grind
    rw [h7, h6]
    have h8 : 4294967296 * (V + carry * B) = 4294967296 * V + B * 4294967296 * carry := by grind
    omega

/-- The second cell from the end, after the first inner loop. -/
theorem add_end {o o0 la : List Nat} {k carry y z : Nat} (hk : la.length = k) (ho : o.length = k + 2) (hv : vl 4294967296 (o.take k) + carry * 4294967296 ^ k = vl 4294967296 (o0.take k) + y * vl 4294967296 (la.take k))
    (hz : o.getD k 0 = z) (hzz : o.getD k 0 = o0.getD k 0) :
    vl 4294967296 ((o.set k ((z + carry) % 4294967296)).set (k + 1) ((z + carry) / 4294967296)) = vl 4294967296 (o0.take (k + 1)) + y * vl 4294967296 la := by
  rw [vl_take_succ', ← hzz, hz]
  have e1 : la.take k = la := by rw [← hk]; exact List.take_of_length_le (Nat.le_refl _)
  rw [e1] at hv
  have h1 : vl 4294967296 ((o.set k ((z + carry) % 4294967296)).set (k + 1) ((z + carry) / 4294967296)) = vl 4294967296 (((o.set k ((z + carry) % 4294967296)).set (k + 1) ((z + carry) / 4294967296)).take (k + 2)) := by
    rw [List.take_of_length_le (by simp; omega)]
  rw [h1, vl_take_set _ _ (k + 1) _ (by simp; omega), vl_take_set _ _ k _ (by omega)]
  have h2 := Nat.mod_add_div (z + carry) 4294967296
  generalize (z + carry) / 4294967296 = u at *
  generalize (z + carry) % 4294967296 = r at *
  rw [Nat.pow_succ]
  generalize 4294967296 ^ k = B at *
  have h6 : B * r + B * (4294967296 * u) = B * z + B * carry := by rw [← Nat.mul_add, h2]; grind
  have h7 : B * carry = carry * B := Nat.mul_comm _ _
  have h8 : B * 4294967296 * u = B * (4294967296 * u) := by grind
  omega

/-- The last cell is small. -/
theorem top_small {o : List Nat} {k M A T y : Nat} (ho : o.length = k + 2) (hM : M < 4294967296 ^ k) (hA : A < M) (hy : y < 4294967296) (hT : T < 2 * M) (hv : vl 4294967296 o = T + y * A) : o.getD (k + 1) 0 ≤ 1 := by
  have h1 : vl 4294967296 o = vl 4294967296 (o.take (k + 1)) + 4294967296 ^ (k + 1) * o.getD (k + 1) 0 := by
    rw [← vl_take_succ', List.take_of_length_le (by omega)]
  have h2 : y * A ≤ 4294967295 * M := Nat.mul_le_mul (by omega) (by omega)
  have h3 : 4294967297 * M < 4294967297 * 4294967296 ^ k := Nat.mul_lt_mul_of_pos_left hM (by omega)
  rcases Nat.lt_or_ge (o.getD (k + 1) 0) 2 with h | h
  · omega
  · exfalso
    have h4 : 4294967296 ^ (k + 1) * 2 ≤ 4294967296 ^ (k + 1) * o.getD (k + 1) 0 := Nat.mul_le_mul_left _ h
    rw [Nat.pow_succ] at h1 h4
    have h5 : 0 < 4294967296 ^ k := Nat.pow_pos (by omega)
    generalize y * A = U at *
    generalize o.getD (k + 1) 0 = G at *
    generalize 4294967296 ^ k * 4294967296 * G = H at *
    generalize 4294967296 ^ k = B at *
    omega

/-- After the second inner loop. -/
theorem shift_end {o o1 lm : List Nat} {k carry q z g : Nat} (hm : lm.length = k + 1) (ho : o.length = k + 3) (ho1 : o1.length = k + 3)
    (hv : 4294967296 * (vl 4294967296 (o.take k) + carry * 4294967296 ^ k) = vl 4294967296 (o1.take (k + 1)) + q * vl 4294967296 (lm.take (k + 1)))
    (hz : o.getD (k + 1) 0 = z) (hg : o.getD (k + 2) 0 = g) (hzz : ∀ t, k + 1 ≤ t → o.getD t 0 = o1.getD t 0) :
    vl 4294967296 (((o.set k ((z + carry) % 4294967296)).set (k + 1) (g + (z + carry) / 4294967296)).take (k + 2)) * 4294967296 = vl 4294967296 o1 + q * vl 4294967296 lm := by
  have e1 : lm.take (k + 1) = lm := by rw [← hm]; exact List.take_of_length_le (Nat.le_refl _)
  rw [e1] at hv
  rw [vl_take_set _ _ (k + 1) _ (by simp; omega), vl_take_set _ _ k _ (by omega)]
  have h1 : vl 4294967296 o1 = vl 4294967296 (o1.take (k + 3)) := by rw [List.take_of_length_le (by omega)]
  rw [h1, vl_take_succ' _ _ (k + 2), vl_take_succ' _ _ (k + 1), ← hzz (k + 1) (by omega), ← hzz (k + 2) (by omega), hz, hg]
  have h2 := Nat.mod_add_div (z + carry) 4294967296
  generalize (z + carry) / 4294967296 = u at *
  generalize (z + carry) % 4294967296 = r at *
  generalize vl 4294967296 (o.take k) = V at *
  generalize vl 4294967296 (o1.take (k + 1)) = V0 at *
  generalize q * vl 4294967296 lm = V1 at *
  rw [show (4294967296 : Nat) ^ (k + 2) = 4294967296 ^ k * 4294967296 * 4294967296 by rw [Nat.pow_succ, Nat.pow_succ], Nat.pow_succ]
  generalize 4294967296 ^ k = B at *
  have h6 : B * 4294967296 * r + B * 4294967296 * (4294967296 * u) = B * 4294967296 * z + B * 4294967296 * carry := by rw [← Nat.mul_add, h2]; grind
  have h7 : 4294967296 * (V + carry * B) = 4294967296 * V + B * 4294967296 * carry := by grind
  have h8 : (V + B * r + B * 4294967296 * (g + u)) * 4294967296 = 4294967296 * V + (B * 4294967296 * r + B * 4294967296 * (4294967296 * u)) + B * 4294967296 * 4294967296 * g := by grind
  rw [h8, h6]
  omega

/-- The state behind the box and the made row. -/
theorem mul_start {W : World} {A M : Nat} {lb lm : List Nat} (hM : 0 < M) : MulRel W A M lb lm (.int .i64 0) (W.alloc (.cells (madeCells #[Value.int .u32 0] (lm.length + 2)) 30)) :=
  ⟨0, List.replicate (lm.length + 2) 0, 0, by omega, rfl, Blk.made _ _ _ _, by simp, Dig.replicate (by decide) _, by simp [List.take_replicate, vl_zeros], by simp [List.take_replicate, vl_zeros, hM], (Below.refl _ _).alloc (Nat.le_refl _) _⟩

theorem u32_mod (z : Nat) : ((z : Int) % 4294967296) = ((z % 4294967296 : Nat) : Int) := by simp
theorem u32_div (z : Nat) : ((z : Int) / 4294967296) = ((z / 4294967296 : Nat) : Int) := by simp

set_option maxRecDepth 100000 in
set_option maxHeartbeats 2000000 in
/-- **nat.odd.mul**. -/
theorem mul_any {vm va vb : Value} {lm la lb : List Nat} {m : Nat} {w : World} (hm : Sl .u32 w vm lm) (ha : Sl .u32 w va la) (hb : Sl .u32 w vb lb) (dm : Dig 4294967296 lm) (da : Dig 4294967296 la) (db : Dig 4294967296 lb)
    (tm : Tr lm) (hn : OddN (lm.getD 0 0) m) (hla : la.length = lm.length) (hlb : lb.length = lm.length) (hpos : 0 < lm.length) (hsz : lm.length ≤ 1073741000) (hA : vl 4294967296 la < vl 4294967296 lm) :
    Calls Tryz.prog 111 #[.agg #[vm, .int .u32 (m : Int)], va, vb] w fun e w' => ∃ v l, e = .returned v ∧ Sl .u32 w' v l ∧ Dig 4294967296 l ∧ l.length = lm.length ∧ vl 4294967296 l < vl 4294967296 lm ∧
      vl 4294967296 l * 4294967296 ^ lm.length % vl 4294967296 lm = vl 4294967296 la * vl 4294967296 lb % vl 4294967296 lm ∧ Below w.heap.size w w' := by
  have hMlt := vl_lt dm
  have hM0 : 0 < vl 4294967296 lm := by omega
  have hm0 := hm
  obtain ⟨am, cm, rfl, hcm, hcm2, hm1⟩ := hm
  obtain ⟨aa, ca, rfl, hca, _, ha⟩ := ha
  obtain ⟨ab, cb, rfl, hcb, _, hb⟩ := hb
  have hmk := run_make_row' (P := Tryz.prog) 80 30 (.int .u32 0) 4 Tryz.underlying80 info_u32 rfl .i64 .i64 (lm.length + 2) (by omega) (by omega)
  rw [show ((lm.length + 2 : Nat) : Int) = (lm.length : Int) + 2 by simp] at hmk
  obtain ⟨bm, om, rfl, hbm, hrm⟩ := hm1 hpos
  obtain ⟨ba, oa, rfl, hba, hra⟩ := ha (by omega)
  obtain ⟨bb, ob, rfl, hbb, hrb⟩ := hb (by omega)
  clear ha hb hm1
  rw [hla] at hca
  rw [hlb] at hcb
  rw [hla, hlb]
  have HLA := Lib.hid hla; have HLB := Lib.hid hlb
  clear hla hlb
  go_enter Tryz.func111, Tryz.ntmps111
  go_upto_region 1 with fail
  generalize hWW : w.alloc (.cells #[.slice (some ⟨bm, om, none⟩) lm.length cm, .int .u32 (m : Int)] 86) = W
  have hbo : Blk W w.heap.size 86 [.slice (some ⟨bm, om, none⟩) lm.length cm, .int .u32 (m : Int)] := by rw [← hWW]; exact Blk.new _ _ _
  have hW1 : Below w.heap.size w W := by rw [← hWW]; exact (Below.refl _ _).alloc (Nat.le_refl _) _
  have hbol := hbo.lt
  have hm1 := hm0.below hW1
  have hrm1 := hrm.below hbm hW1
  have hra1 := hra.below hba hW1
  have hrb1 := hrb.below hbb hW1
  have hbm1 := Nat.lt_of_lt_of_le hbm hW1.size
  have hba1 := Nat.lt_of_lt_of_le hba hW1.size
  have hbb1 := Nat.lt_of_lt_of_le hbb hW1.size
  clear hWW hrm hra hrb hm0 hbm hba hbb
  have HW1 := Lib.hid hW1; have HM1 := Lib.hid hm1; have HRM := Lib.hid hrm1; have HRA := Lib.hid hra1; have HRB := Lib.hid hrb1; have HBO := Lib.hid hbo; have HMP := Lib.hid hM0; have HLT := Lib.hid hMlt; have HTM := Lib.hid tm; have HN := Lib.hid hn; have HAA := Lib.hid hA
  generalize hVe : w.heap.size = V at *
  have HVE := Lib.hid hVe; clear hVe
  have hv0 : W.cell? ⟨V, 0, none⟩ = some (.slice (some ⟨bm, om, none⟩) lm.length cm) := hbo.cell 0
  have hv1 : W.cell? ⟨V, 1, none⟩ = some (.int .u32 (m : Int)) := hbo.cell 1
  clear hW1 hm1 hrm1 hra1 hrb1 hbo hMlt tm hn hA
  go_wp2
  go_loopw [28] (fun i wr => MulRel W (vl 4294967296 la) (vl 4294967296 lm) lb lm i wr) (fun i _ => lm.length - (intOf i).toNat)
  case atStart => exact mul_start HMP.out
  case round =>
    obtain ⟨j, o, Q, hj, rfl, hB, ho, hd, hv, h2M, hbel⟩ := hrel
    rw [HLB.out] at hj
    have HB := Lib.hid hB; have HO := Lib.hid ho; have H2M := Lib.hid h2M; have HV := Lib.hid hv; have HBel := Lib.hid hbel; have HD := Lib.hid hd
    clear hB ho h2M hv hbel hd
    rcases Nat.lt_or_ge j lm.length with hlt | hge
    · have hy := (HRB.out.below hbb1 HBel.out) j (by have := HLB.out; omega)
      have hy32 := db.get (by decide) j
      generalize hye : lb.getD j 0 = y at hy hy32
      have HY := Lib.hid hye; clear hye
      obtain ⟨wo, rfl⟩ : ∃ wo : World, wo = wr := ⟨_, rfl⟩
      go_wp2
      have HLT2 := Lib.hid hlt; clear hlt
      go_loopw [11, 34] (fun c i wr => AddIn W la o y c i wr) (fun _ i _ => lm.length - (intOf i).toNat)
      case atStart =>
        exact ⟨0, 0, o, by omega, rfl, rfl, by omega, HB.out, by rw [HO.out, HLA.out], HD.out, fun _ _ => rfl, by simp, HBel.out⟩
      case round =>
        obtain ⟨j1, carry, o2, hj1, rfl, rfl, hcy, hB2, ho2, hd2, hz2, hv2, hbel2⟩ := hrel
        rw [HLA.out] at hj1 ho2
        clear hy HBel
        have HZ := Lib.hid hz2; have HV2 := Lib.hid hv2; have HBel := Lib.hid hbel2; have HD2 := Lib.hid hd2; have HB2 := Lib.hid hB2; have HO2 := Lib.hid ho2
        clear hB2 ho2 hz2 hv2 hbel2 hd2
        rcases Nat.lt_or_ge j1 lm.length with hl1 | hg1
        · have hl1' : j1 < la.length := by rw [HLA.out]; exact hl1
          have HL1 := Lib.hid hl1'; clear hl1'
          have hx := (HRA.out.below hba1 HBel.out) j1 HL1.out
          have hx32 := da.get (by decide) j1
          generalize hxe : la.getD j1 0 = x at hx hx32
          have HX := Lib.hid hxe; clear hxe
          have hw := HB2.out.get j1 (by have := HO2.out; omega)
          have hf := HB2.out.free j1
          have hw32 := HD2.out.get (by decide) j1
          generalize hze : o2.getD j1 0 = z at hw hw32
          have HZE := Lib.hid hze; clear hze
          obtain ⟨hp1, hp2⟩ := mul32 hx32 hy32
          go_wp2
          exact ⟨AddIn.step HX.out HZE.out (by simp) hx32 hy32 hw32 HL1.out hcy HB2.out (by rw [HLA.out]; exact HO2.out) HD2.out HZ.out HV2.out HBel.out, by simp [intOf]; omega⟩
        · obtain rfl : j1 = lm.length := by omega
          have hw := HB2.out.get lm.length (by have := HO2.out; omega)
          have hf := HB2.out.free lm.length
          have hw2 := HB2.out.get (lm.length + 1) (by have := HO2.out; omega)
          have hf2 := HB2.out.free (lm.length + 1)
          have hw32 := HD2.out.get (by decide) lm.length
          generalize hze : o2.getD lm.length 0 = z at hw hw32
          have HZE := Lib.hid hze; clear hze
          have hcy2 : (z + carry) / 4294967296 < 4294967296 := by omega
          go_upto_region 15 with fail
          rw [show ((z : Int) + (carry : Int)) % 4294967296 = (((z + carry) % 4294967296 : Nat) : Int) by simp, show ((z : Int) + (carry : Int)) / 4294967296 = (((z + carry) / 4294967296 : Nat) : Int) by simp]
          have hB1 := (HB2.out.set lm.length ((z + carry) % 4294967296)).set (lm.length + 1) ((z + carry) / 4294967296)
          have hd1 := (HD2.out.set lm.length ((z + carry) % 4294967296) (Nat.mod_lt _ (by decide))).set (lm.length + 1) ((z + carry) / 4294967296) hcy2
          have ho1 : ((o2.set lm.length ((z + carry) % 4294967296)).set (lm.length + 1) ((z + carry) / 4294967296)).length = lm.length + 2 := by simp [HO2.out]
          have hbx := (HBel.out.setCell (p := ⟨W.heap.size, lm.length, none⟩) (Nat.le_refl _) (.int .u32 (((z + carry) % 4294967296 : Nat) : Int))).setCell (p := ⟨W.heap.size, lm.length + 1, none⟩) (Nat.le_refl _) (.int .u32 (((z + carry) / 4294967296 : Nat) : Int))
          have hvl1 : vl 4294967296 ((o2.set lm.length ((z + carry) % 4294967296)).set (lm.length + 1) ((z + carry) / 4294967296)) = vl 4294967296 (o.take (lm.length + 1)) + y * vl 4294967296 la :=
            add_end HLA.out HO2.out HV2.out HZE.out (HZ.out _ (by omega))
          generalize (o2.set lm.length ((z + carry) % 4294967296)).set (lm.length + 1) ((z + carry) / 4294967296) = o1 at hB1 hd1 ho1 hvl1
          generalize (wr.setCell ⟨W.heap.size, lm.length, none⟩ (.int .u32 (((z + carry) % 4294967296 : Nat) : Int))).setCell ⟨W.heap.size, lm.length + 1, none⟩ (.int .u32 (((z + carry) / 4294967296 : Nat) : Int)) = wx at hB1 hbx ⊢
          have hg := top_small ho1 HLT.out HAA.out hy32 H2M.out hvl1
          have HG := Lib.hid hg
          clear hw hf hw2 hf2 hcy2 hg
          have hw0 := hB1.get 0 (by omega)
          have ht32 := hd1.get (by decide) 0
          generalize hte : o1.getD 0 0 = t0 at hw0 ht32
          have hc0 := (hbx.cell (p := ⟨V, 0, none⟩) hbol).trans hv0
          have hc1 := (hbx.cell (p := ⟨V, 1, none⟩) hbol).trans hv1
          have hm0 := (HRM.out.below hbm1 hbx) 0 hpos
          have hm32 := dm.get (by decide) 0
          have hN := HN.out
          generalize hme : lm.getD 0 0 = m0 at hm0 hm32 hN
          rw [Nat.add_zero] at hm0
          obtain ⟨q, hq, hq32⟩ : ∃ q : Nat, ((t0 : Int) * (m : Int)) % 4294967296 = (q : Int) ∧ q < 4294967296 := ⟨(((t0 : Int) * (m : Int)) % 4294967296).toNat, by omega, by omega⟩
          obtain ⟨hp1, hp2⟩ := mul32 hq32 hm32
          have hmq : (t0 + q * m0) % 4294967296 = 0 := by
            obtain ⟨_, x, hx1, hx2⟩ := hN
            exact mont_q hx1 q (by rw [← hx2]; exact hq.symm)
          have HTE := Lib.hid hte; have HME := Lib.hid hme; have HMQ := Lib.hid hmq; have HB1 := Lib.hid hB1; have HD1 := Lib.hid hd1; have HO1 := Lib.hid ho1; have HBX := Lib.hid hbx; have HV1 := Lib.hid hvl1
          clear hte hme hmq hB1 hd1 ho1 hbx hvl1 hN
          go_region
          go_wp2
          go_region
          go_wp2
          clear hw0 hc0 hc1 hm0
          go_loopw [11, 17] (fun c i wr => ShiftIn W lm o1 q c i wr) (fun _ i _ => lm.length - (intOf i).toNat)
          case atStart =>
            refine ⟨0, (t0 + q * m0) / 4294967296, o1, by omega, rfl, by simp, ?_, HB1.out.drew.drew, HO1.out, HD1.out, fun _ _ => rfl, ?_, HBX.out.drew.drew⟩
            · have h : q * m0 ≤ 4294967295 * 4294967295 := Nat.mul_le_mul (by omega) (by omega)
              omega
            · have h := Nat.div_add_mod (t0 + q * m0) 4294967296
              rw [HMQ.out] at h
              rw [vl_take_succ', vl_take_succ', HTE.out, HME.out]
              simp only [List.take_zero, vl_nil, Nat.pow_zero, Nat.one_mul, Nat.zero_add, Nat.mul_one]
              omega
          case round =>
            obtain ⟨j3, cy, o3, hj3, rfl, rfl, hcy3, hB3, ho3, hd3, hz3, hv3, hbel3⟩ := hrel
            have HZ3 := Lib.hid hz3; have HV3 := Lib.hid hv3; have HBel3 := Lib.hid hbel3; have HD3 := Lib.hid hd3; have HB3 := Lib.hid hB3; have HO3 := Lib.hid ho3
            clear hB3 ho3 hz3 hv3 hbel3 hd3
            have hc0 := (HBel3.out.cell (p := ⟨V, 0, none⟩) hbol).trans hv0
            have hw := HB3.out.get (j3 + 1) (by have := HO3.out; omega)
            have hf := HB3.out.free j3
            have hwj := HB3.out.get j3 (by have := HO3.out; omega)
            have hw32 := HD3.out.get (by decide) (j3 + 1)
            generalize hze : o3.getD (j3 + 1) 0 = z3 at hw hw32
            have HZE3 := Lib.hid hze; clear hze
            rcases Nat.lt_or_ge (j3 + 1) lm.length with hl3 | hg3
            · have hx := (HRM.out.below hbm1 HBel3.out) (j3 + 1) hl3
              have hx32 := dm.get (by decide) (j3 + 1)
              generalize hxe : lm.getD (j3 + 1) 0 = x3 at hx hx32
              have HX3 := Lib.hid hxe; clear hxe
              obtain ⟨hp3, hp4⟩ := mul32 hq32 hx32
              have hl3' : (j3 : Int) + 1 < (lm.length : Int) := by omega
              go_wp2
              go_region
              have hwj2 : (wr.drew).cell? ⟨W.heap.size, j3, none⟩ = _ := hwj
              have hf2 : (wr.drew).frozen? ⟨W.heap.size, j3, none⟩ = false := hf
              go_wp2
              exact ⟨ShiftIn.step (s := (z3 : Int) + (q : Int) * (x3 : Int) + (cy : Int)) HX3.out HZE3.out (by simp) hx32 hq32 hw32 hl3 hcy3 HB3.out.drew HO3.out HD3.out HZ3.out HV3.out HBel3.out.drew, by simp [intOf]; omega⟩
            · have hj3' : lm.length = j3 + 1 := by omega
              have hjI : (lm.length : Int) - 1 = (j3 : Int) := by omega
              have hnl : ¬ ((j3 : Int) + 1 < (lm.length : Int)) := by omega
              have hwk : wr.cell? ⟨W.heap.size, lm.length, none⟩ = some (.int .u32 (z3 : Int)) := by rw [hj3']; exact hw
              have HJ := Lib.hid hj3'
              clear hw hj3'
              go_upto_region 24 with fail
              rw [show ((z3 : Int) + (cy : Int)) % 4294967296 = (((z3 + cy) % 4294967296 : Nat) : Int) by simp]
              have hBy := HB3.out.set j3 ((z3 + cy) % 4294967296)
              have hdy := HD3.out.set j3 ((z3 + cy) % 4294967296) (Nat.mod_lt _ (by decide))
              have hby := HBel3.out.setCell (p := ⟨W.heap.size, j3, none⟩) (Nat.le_refl _) (.int .u32 (((z3 + cy) % 4294967296 : Nat) : Int))
              have hge : (o3.set j3 ((z3 + cy) % 4294967296)).getD (lm.length + 1) 0 = o3.getD (lm.length + 1) 0 := ldigit_set_ne _ _ _ _ (by have := HJ.out; omega)
              have hgz := HZ3.out (lm.length + 1) (by have := HJ.out; omega)
              have hyw := hBy.get (lm.length + 1) (by simp only [List.length_set]; have := HO3.out; omega)
              have hyk := hBy.get lm.length (by simp only [List.length_set]; have := HO3.out; omega)
              have hyf := hBy.free lm.length
              rw [hge] at hyw
              generalize hge2 : o3.getD (lm.length + 1) 0 = g at hyw hgz
              have hg1 : g ≤ 1 := by rw [hgz]; exact HG.out
              generalize wr.setCell ⟨W.heap.size, j3, none⟩ (.int .u32 (((z3 + cy) % 4294967296 : Nat) : Int)) = wy at hBy hby hyw hyk hyf ⊢
              have HBY := Lib.hid hBy; have HDY := Lib.hid hdy; have HBYB := Lib.hid hby; have HGE := Lib.hid hge2
              have hsum : ((g : Int) + ((z3 : Int) + (cy : Int)) / 4294967296) = ((g + (z3 + cy) / 4294967296 : Nat) : Int) := by simp
              have HSUM := Lib.hid hsum
              clear hBy hdy hby hge2 hge hgz hsum hwj hc0 hf hwk
              have hcs : (z3 + cy) / 4294967296 < 3 := by omega
              go_wp2
              have hse := shift_end (g := g) HJ.out (by have := HO3.out; have := HJ.out; omega) (by have := HO1.out; have := HJ.out; omega) HV3.out HZE3.out (by have := HGE.out; rw [HJ.out] at this; exact this) HZ3.out
              rw [show j3 + 2 = lm.length + 1 by have := HJ.out; omega, ← HJ.out, HV1.out] at hse
              rw [HSUM.out]
              refine ⟨⟨j + 1, (o3.set j3 ((z3 + cy) % 4294967296)).set lm.length (g + (z3 + cy) / 4294967296), Q + 4294967296 ^ j * q, by rw [HLB.out]; exact HLT2.out, rfl, HBY.out.set _ _, by simp [HO3.out], HDY.out.set _ _ (by omega), ?_, ?_, HBYB.out.setCell (Nat.le_refl _) _⟩, by have := HLT2.out; simp [intOf]; omega⟩
              · rw [vl_take_succ' _ lb, HY.out, Nat.pow_succ]
                exact mont_round HV.out hse
              · exact mont_small HAA.out hy32 hq32 H2M.out hse
    · obtain rfl : j = lm.length := by omega
      have hol : (o.take (lm.length + 1)).length = lm.length + 1 := by rw [List.length_take, HO.out]; omega
      have hsl := (HB.out.row.take (lm.length + 1)).sl HB.out.lt (lm.length + 2) (by omega) (by omega)
      rw [hol] at hsl
      have hc0 := (HBel.out.cell (p := ⟨V, 0, none⟩) hbol).trans hv0
      have hc1 := (HBel.out.cell (p := ⟨V, 1, none⟩) hbol).trans hv1
      have hsm := HM1.out.below HBel.out
      have hdt := HD.out.take (lm.length + 1)
      have hv := HV.out
      rw [show lb.take lm.length = lb from List.take_of_length_le (by rw [HLB.out]; exact Nat.le_refl _)] at hv
      have h2M := H2M.out
      have HOL := Lib.hid hol
      generalize o.take (lm.length + 1) = lt at hsl hdt hv h2M hol
      have HSL := Lib.hid hsl; have HSM := Lib.hid hsm; have HDT := Lib.hid hdt; have HVV := Lib.hid hv; have H2 := Lib.hid h2M; have HOO := Lib.hid hol
      clear hsl hsm hdt hv h2M hol
      go_wp2_with fail
      refine (trim_any (b := 4294967296) HSL.out).mono ?_
      rintro e w' ⟨v1, l1, rfl, hs1, hd1, ht1, hv1', hl1, rfl⟩
      go_wp2_with fail
      refine (compare_any hs1 HSM.out (hd1 HDT.out) dm ht1 HTM.out).mono ?_
      rintro e w2 ⟨rfl, hb2⟩
      have hbV := HBel.out.trans (hb2.mono HBel.out.size)
      have hc02 := (hbV.cell (p := ⟨V, 0, none⟩) hbol).trans hv0
      have hc12 := (hbV.cell (p := ⟨V, 1, none⟩) hbol).trans hv1
      have hs12 := hs1.below hb2
      have hsm2 := HSM.out.below hb2
      rcases Nat.lt_or_ge (vl 4294967296 l1) (vl 4294967296 lm) with hlt | hge2
      · rw [cmpZ_lt hlt]
        have hle : l1.length ≤ lm.length := by
          rcases Nat.lt_or_ge lm.length l1.length with h | h
          · have := vl_lt_of_length (by decide) dm ht1 h; omega
          · exact h
        go_wp2_with fail
        refine (full_any hsm2 hs12 hle (by omega)).mono ?_
        rintro e w3 ⟨v3, rfl, hs3, hb3⟩
        go_wp2_with fail
        go_ret
        refine ⟨v3, _, rfl, hs3, (hd1 HDT.out).append (Dig.replicate (by decide) _), by simp; omega, by rw [vl_append_zeros]; exact hlt, ?_, by rw [HVE.out]; exact HW1.out.trans ((hbV.trans (hb3.mono hbV.size)).mono (Nat.le_of_lt hbol))⟩
        rw [vl_append_zeros, hv1']
        exact mont_end HVV.out (Or.inl rfl)
      · have hle : lm.length ≤ l1.length := by
          rcases Nat.lt_or_ge l1.length lm.length with h | h
          · have := vl_lt_of_length (by decide) (hd1 HDT.out) HTM.out h; omega
          · exact h
        have hz : (0 : Int) ≤ cmpZ (vl 4294967296 l1) (vl 4294967296 lm) := by
          rcases Nat.lt_or_ge (vl 4294967296 lm) (vl 4294967296 l1) with h | h
          · rw [cmpZ_gt h]; decide
          · rw [cmpZ_eq (by omega)]; decide
        generalize cmpZ (vl 4294967296 l1) (vl 4294967296 lm) = Z at hz
        go_wp2_with fail
        refine (less_any hs12 hsm2 (hd1 HDT.out) dm (by have := HOO.out; omega) hle hge2).mono ?_
        rintro e w3 ⟨v3, l3, rfl, hs3, hd3, ht3, hv3, hl3, hb3⟩
        have hbV3 := hbV.trans (hb3.mono hbV.size)
        have hc03 := (hbV3.cell (p := ⟨V, 0, none⟩) hbol).trans hv0
        have hc13 := (hbV3.cell (p := ⟨V, 1, none⟩) hbol).trans hv1
        have h2M := H2.out
        have hlt3 : vl 4294967296 l3 < vl 4294967296 lm := by omega
        have hle3 : l3.length ≤ lm.length := by
          rcases Nat.lt_or_ge lm.length l3.length with h | h
          · have := vl_lt_of_length (by decide) dm ht3 h; omega
          · exact h
        go_wp2_with fail
        refine (full_any (hsm2.below hb3) hs3 hle3 (by omega)).mono ?_
        rintro e w4 ⟨v4, rfl, hs4, hb4⟩
        go_wp2_with fail
        go_ret
        refine ⟨v4, _, rfl, hs4, hd3.append (Dig.replicate (by decide) _), by simp; omega, by rw [vl_append_zeros]; exact hlt3, ?_, by rw [HVE.out]; exact HW1.out.trans ((hbV3.trans (hb4.mono hbV3.size)).mono (Nat.le_of_lt hbol))⟩
        rw [vl_append_zeros]
        exact mont_end HVV.out (Or.inr (by omega))

#print axioms mul_any
end Go.Proofs.YtolmjeglaolhlaaGreatDoor
