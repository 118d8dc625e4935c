/- The contract of nat.sum. -/
import Derived.Test.YtmbgohaljiiigaaGreatDoorTrim
import Derived.Deep.DeepCutAuto
namespace Go.Proofs.YtmbgohaljiiigaaGreatDoor
open Go.RowKit Num

def SumRel (w : World) (la lb : List Nat) (c i : Value) (wr : World) : Prop :=
  ∃ (k carry : Nat) (o : List Nat), k ≤ la.length ∧ i = .int .i64 (k : Int) ∧ c = .int .u64 (carry : Int) ∧ carry ≤ 1 ∧ Blk wr w.heap.size 79 (ints .u32 o) ∧ o.length = la.length + 1 ∧
    Dig 4294967296 o ∧ (∀ j, k ≤ j → o.getD j 0 = 0) ∧ vl 4294967296 (o.take k) + carry * 4294967296 ^ k = vl 4294967296 (la.take k) + vl 4294967296 (lb.take k) ∧ Below w.heap.size w wr

theorem SumRel.step {w wr : World} {la lb o : List Nat} {k carry x y : Nat} {s : Int} (hx : la.getD k 0 = x) (hy : lb.getD k 0 = y) (hs : s = ((x + carry + y : Nat) : Int)) (hx32 : x < 4294967296) (hy32 : y < 4294967296)
    (hk : k < la.length) (hcy : carry ≤ 1) (hB : Blk wr w.heap.size 79 (ints .u32 o)) (ho : o.length = la.length + 1) (hd : Dig 4294967296 o) (hz : ∀ j, k ≤ j → o.getD j 0 = 0)
    (hv : vl 4294967296 (o.take k) + carry * 4294967296 ^ k = vl 4294967296 (la.take k) + vl 4294967296 (lb.take k)) (hbel : Below w.heap.size w wr) :
    SumRel w la lb (.int .u64 (s / 4294967296)) (.int .i64 (k + 1)) (wr.setCell ⟨w.heap.size, k, none⟩ (.int .u32 (s % 4294967296))) := by
  have e1 : s % 4294967296 = (((x + carry + y) % 4294967296 : Nat) : Int) := by omega
  have e2 : s / 4294967296 = (((x + carry + y) / 4294967296 : Nat) : Int) := by omega
  rw [e1, e2]
  refine ⟨k + 1, (x + carry + y) / 4294967296, o.set k ((x + carry + y) % 4294967296), by omega, rfl, rfl, by omega, hB.set _ _, by simpa using ho, hd.set _ _ (by omega), ?_, ?_, hbel.setCell (Nat.le_refl _) _⟩
  · intro j hj
    rw [ldigit_set_ne _ _ _ _ (by omega)]
    exact hz j (by omega)
  · rw [vl_take_set _ _ _ _ (by omega), vl_take_succ', vl_take_succ', hx, hy, Nat.pow_succ]
    have := Nat.mod_add_div (x + carry + y) 4294967296
    generalize (x + carry + y) / 4294967296 = q at *
    generalize (x + carry + y) % 4294967296 = r at *
    generalize 4294967296 ^ k = B at *
    grind

/-- The two arguments, the longer one first. -/
def SumArgs (w : World) (S n : Nat) (v0 v1 : Value) (wx : World) : Prop :=
  w = wx ∧ ∃ (aa ab : Option Addr) (ca cb : Nat) (la lb : List Nat), v0 = .slice aa la.length ca ∧ v1 = .slice ab lb.length cb ∧ lb.length ≤ la.length ∧ la.length ≤ n ∧ la.length ≤ ca ∧ lb.length ≤ cb ∧
    (0 < la.length → ∃ b off, aa = some ⟨b, off, none⟩ ∧ b < w.heap.size ∧ Row .u32 w b off la) ∧ (0 < lb.length → ∃ b off, ab = some ⟨b, off, none⟩ ∧ b < w.heap.size ∧ Row .u32 w b off lb) ∧
    Dig 4294967296 la ∧ Dig 4294967296 lb ∧ vl 4294967296 la + vl 4294967296 lb = S

set_option maxHeartbeats 400000 in
/-- **nat.sum**: the sum of two numbers. -/
theorem sum_any {va vb : Value} {la lb : List Nat} {w : World} (ha : Sl .u32 w va la) (hb : Sl .u32 w vb lb) (da : Dig 4294967296 la) (db : Dig 4294967296 lb)
    (hsa : la.length ≤ 1073741824) (hsb : lb.length ≤ 1073741824) :
    Calls Tryz.prog 111 #[va, vb] w fun e w' => ∃ v l, e = .returned v ∧ Sl .u32 w' v l ∧ Dig 4294967296 l ∧ Tr l ∧ vl 4294967296 l = vl 4294967296 la + vl 4294967296 lb ∧ l.length ≤ max la.length lb.length + 1 ∧ Below w.heap.size w w' := by
  obtain ⟨aa, ca, rfl, hca, _, ha⟩ := ha
  obtain ⟨ab, cb, rfl, hcb, _, hb⟩ := hb
  generalize hS : vl 4294967296 la + vl 4294967296 lb = S
  generalize hM : max la.length lb.length = M
  have HS := Lib.hid hS; clear hS
  have HM := Lib.hid hM; clear hM
  have hM1 : la.length ≤ M := by have := HM.out; omega
  have hM2 : lb.length ≤ M := by have := HM.out; omega
  have hM3 : M ≤ 1073741824 := by have := HM.out; omega
  have Ha := Lib.hid ha; have Hb := Lib.hid hb
  clear ha hb
  go_enter Tryz.func111, Tryz.ntmps111
  go_upto_if 13 with fail
  go_cut [0, 1] (fun v0 v1 wx => SumArgs w S M v0 v1 wx)
  case first =>
    rcases Nat.lt_or_ge la.length lb.length with h | h
    · go_wp2_with fail
      go_meet
      exact ⟨rfl, ab, aa, cb, ca, lb, la, rfl, rfl, by omega, hM2, hcb, hca, Hb.out, Ha.out, db, da, by rw [← HS.out, Nat.add_comm]⟩
    · go_wp2_with fail
      go_meet
      exact ⟨rfl, aa, ab, ca, cb, la, lb, rfl, rfl, h, hM1, hca, hcb, Ha.out, Hb.out, da, db, HS.out⟩
  case rest =>
  clear Ha Hb HS HM hM1 hM2 hca hcb hsa hsb da db
  obtain ⟨rfl, aa, ab, ca, cb, la, lb, rfl, rfl, hl, hsz, hca, hcb, ha, hb, da, db, hS⟩ := hcut
  have HS := Lib.hid hS; clear hS
  have hmk := run_make_row' (P := Tryz.prog) 108 79 (.int .u32 0) 4 Tryz.underlying108 info_u32 rfl .i64 .i64 (la.length + 1) (by omega) (by omega)
  have e1 : ((la.length + 1 : Nat) : Int) = (la.length : Int) + 1 := by omega
  rw [e1] at hmk
  clear e1
  go_wp2
  go_loopw [6, 22] (fun c i wr => SumRel w la lb c i wr) (fun _ i _ => la.length - (intOf i).toNat)
  case atStart =>
    exact ⟨0, 0, List.replicate (la.length + 1) 0, by omega, rfl, rfl, by omega, Blk.made _ _ _ _, by simp, Dig.replicate (by decide) _, fun j _ => by simp [List.getElem?_replicate]; split <;> rfl, by simp, (Below.refl _ _).alloc (Nat.le_refl _) _⟩
  case round =>
    obtain ⟨k, carry, o, hk, rfl, rfl, hcy, hB, ho, hd, hz, hv, hbel⟩ := hrel
    have HB := Lib.hid hB; have HO := Lib.hid ho; have HZ := Lib.hid hz; have HV := Lib.hid hv; have HBel := Lib.hid hbel
    clear hB ho hz hv hbel
    rcases Nat.lt_or_ge k la.length with hlt | hge
    · obtain ⟨b, off, rfl, hbl, hrow⟩ := ha (by omega)
      have hx := (hrow.below hbl HBel.out) k hlt
      have hx32 := da.get (by decide) k
      clear hrow ha
      generalize hxe : la.getD k 0 = x at hx hx32
      have HX := Lib.hid hxe; clear hxe
      have hwr := HB.out.get k (by have := HO.out; omega)
      have hfr := HB.out.free k
      rcases Nat.lt_or_ge k lb.length with hlb | hlb
      · obtain ⟨b2, off2, rfl, hbl2, hrow2⟩ := hb (by omega)
        have hy := (hrow2.below hbl2 HBel.out) k hlb
        have hy32 := db.get (by decide) k
        clear hrow2 hb
        generalize hye : lb.getD k 0 = y at hy hy32
        have HY := Lib.hid hye; clear hye
        go_wp2
        exact ⟨SumRel.step HX.out HY.out (by omega) hx32 hy32 hlt hcy HB.out HO.out hd HZ.out HV.out HBel.out, by simp [intOf]; omega⟩
      · go_wp2
        exact ⟨SumRel.step HX.out (y := 0) (by rw [List.getD_eq_getElem?_getD, List.getElem?_eq_none hlb]; rfl) (by omega) hx32 (by omega) hlt hcy HB.out HO.out hd HZ.out HV.out HBel.out, by simp [intOf]; omega⟩
    · obtain rfl : k = la.length := by omega
      have hwr := HB.out.get la.length (by have := HO.out; omega)
      have hfr := HB.out.free la.length
      have hsl : Sl .u32 (wr.setCell ⟨w.heap.size, la.length, none⟩ (.int .u32 (carry : Int))) (.slice (some ⟨w.heap.size, 0, none⟩) (la.length + 1) (la.length + 1)) (o.set la.length carry) := by
        have hs := HB.out.set la.length carry
        have := hs.row.sl (by have := hs.lt; simpa using this) (la.length + 1) (by have := HO.out; simp; omega) (by omega)
        simpa [HO.out] using this
      have HSL := Lib.hid hsl; clear hsl
      go_wp2_with fail
      refine (trim_any (b := 4294967296) HSL.out).mono ?_
      rintro e w' ⟨v', l', rfl, hs', hd', ht', hv', hl', rfl⟩
      go_wp2_with fail
      go_ret
      have h1 := HV.out
      have h2 := HO.out
      have h3 := vl_set 4294967296 o la.length carry (by omega)
      have h4 := HZ.out la.length (Nat.le_refl _)
      have h5 := vl_take_of_zero 4294967296 o la.length (fun j h _ => HZ.out j h)
      rw [h4] at h3
      rw [List.take_of_length_le (Nat.le_refl _), List.take_of_length_le hl, h5, Nat.mul_comm] at h1
      simp only [List.length_set] at hl'
      exact ⟨v', l', rfl, hs', hd' (hd.set _ _ (by omega)), ht', by rw [hv', ← HS.out]; omega, by omega, HBel.out.setCell (Nat.le_refl _) _⟩

#print axioms sum_any
end Go.Proofs.YtmbgohaljiiigaaGreatDoor
