/- The parts of a division of slices of digits. -/
import Derived.RegionTactic
import Derived.ChangeAlike
import Derived.BigRegion
import Derived.Test.YtolmjeglaolhlaaGreatDoorBase

/- The contracts of nat.take and nat.give: a multiple of v is subtracted from digits of u; v is added to them. -/
namespace Go.Proofs.YtolmjeglaolhlaaGreatDoor
open Go.RowKit Num

/-- Only the block b may have turned. -/
def OnlyB (b : Nat) (w w' : World) : Prop := w.grownBy w' (some b)

theorem OnlyB.refl (b : Nat) (w : World) : OnlyB b w w := World.grownBy.refl _ _
theorem OnlyB.setCell {b : Nat} {w w' : World} (h : OnlyB b w w') (i : Nat) (v : Value) : OnlyB b w (w'.setCell ⟨b, i, none⟩ v) :=
  ⟨h.os, h.tape, h.output, by simp only [World.setCell, Array.size_modify]; exact h.size, fun k hk hne => by
    rw [Below.heap_setCell _ _ _ _ (by intro e; apply hne; rw [e]), h.block k hk hne]⟩
theorem OnlyB.drew {b : Nat} {w w' : World} (h : OnlyB b w w') : OnlyB b w w'.drew := ⟨h.os, h.tape, h.output, h.size, h.block⟩
theorem OnlyB.row {b c off : Nat} {w w' : World} {k : IntKind} {l : List Nat} (h : OnlyB b w w') (hr : Row k w c off l) (hc : c < w.heap.size) (hne : c ≠ b) : Row k w' c off l := fun i hi => by
  rw [World.cell?_of_block (w := w) (w' := w') (h.block c hc (by intro e; cases e; exact hne rfl))]
  exact hr i hi

theorem OnlyB.blk {b c : Nat} {w w' : World} {E : TypeId} {vs : List Value} (h : OnlyB b w w') (hc : Blk w c E vs) (hne : c ≠ b) : Blk w' c E vs := by
  have := h.block c hc.lt (by intro e; cases e; exact hne rfl)
  unfold Blk at *
  rw [this, hc]
theorem OnlyB.below {b B : Nat} {a w w' : World} (h : OnlyB b w w') (hb : Below B a w) (hB : B ≤ w.heap.size) (hbB : B ≤ b) : Below B a w' := hb.grown h hB (fun k e => by cases e; exact hbB)

def TakeRel (w : World) (b j n q : Nat) (L lv : List Nat) (c bo i : Value) (wr : World) : Prop :=
  ∃ (k carry borrow : Nat) (o : List Nat), k ≤ n ∧ i = .int .i64 (k : Int) ∧ c = .int .u64 (carry : Int) ∧ bo = .int .u64 (borrow : Int) ∧ carry < 4294967296 ∧ borrow ≤ 1 ∧
    Blk wr b 30 (ints .u32 o) ∧ o.length = L.length ∧ Dig 4294967296 o ∧ (∀ t, t < j ∨ j + k ≤ t → o.getD t 0 = L.getD t 0) ∧
    vl 4294967296 (seg o j k) + q * vl 4294967296 (lv.take k) = vl 4294967296 (seg L j k) + (carry + borrow) * 4294967296 ^ k ∧ OnlyB b w wr

theorem and_mask (p : Nat) (hp : p < 18446744073709551616) : bits .and .u64 (p : Int) 4294967295 = ((p % 4294967296 : Nat) : Int) := by
  have h := u64_and_nat p 4294967295 hp (by decide)
  have e : p &&& 4294967295 = p % 4294967296 := Nat.and_two_pow_sub_one_eq_mod p 32
  rw [e] at h
  exact h

theorem sub_wrap {s : Int} {x pl bo : Nat} (hs : s = IntKind.u64.wrap (IntKind.u64.wrap ((x : Int) - (pl : Int)) - (bo : Int))) (hx : x < 4294967296) (hp : pl + bo ≤ 4294967296) :
    ∃ d t : Nat, d < 4294967296 ∧ t ≤ 1 ∧ d + pl + bo = x + t * 4294967296 ∧ s % 4294967296 = (d : Int) ∧ s / 9223372036854775808 = (t : Int) := by
  rw [IntKind.wrap_u64, IntKind.wrap_u64] at hs
  rcases Nat.lt_or_ge x (pl + bo) with h | h
  · exact ⟨x + 4294967296 - pl - bo, 1, by omega, by omega, by omega, by omega, by omega⟩
  · exact ⟨x - pl - bo, 0, by omega, by omega, by omega, by omega, by omega⟩

theorem TakeRel.step {w wr : World} {b j n q k carry borrow x y pl : Nat} {L lv o : List Nat} (hx : o.getD (j + k) 0 = x) (hy : lv.getD k 0 = y) (hpl : pl = (q * y + carry) % 4294967296) (hx32 : x < 4294967296) (hy32 : y < 4294967296) (hq : q ≤ 4294967295) (hk : k < n)
    (hlen : j + n + 1 ≤ L.length) (hcy : carry < 4294967296) (hbo : borrow ≤ 1) (hB : Blk wr b 30 (ints .u32 o)) (ho : o.length = L.length) (hd : Dig 4294967296 o) (hz : ∀ t, t < j ∨ j + k ≤ t → o.getD t 0 = L.getD t 0)
    (hv : vl 4294967296 (seg o j k) + q * vl 4294967296 (lv.take k) = vl 4294967296 (seg L j k) + (carry + borrow) * 4294967296 ^ k) (hon : OnlyB b w wr) :
    TakeRel w b j n q L lv (.int .u64 (((q : Int) * (y : Int) + (carry : Int)) / 4294967296)) (.int .u64 (IntKind.u64.wrap (IntKind.u64.wrap ((x : Int) - (pl : Int)) - (borrow : Int)) / 9223372036854775808)) (.int .i64 (k + 1))
      (wr.setCell ⟨b, j + k, none⟩ (.int .u32 (IntKind.u64.wrap (IntKind.u64.wrap ((x : Int) - (pl : Int)) - (borrow : Int)) % 4294967296))) := by
  obtain ⟨d, t, hd1, ht, he, e1, e2⟩ := sub_wrap (x := x) (pl := pl) (bo := borrow) rfl hx32 (by omega)
  rw [e1, e2]
  have hm : q * y ≤ 4294967295 * 4294967295 := Nat.mul_le_mul hq (by omega)
  have e3 : ((q : Int) * (y : Int) + (carry : Int)) / 4294967296 = (((q * y + carry) / 4294967296 : Nat) : Int) := by
    rw [← Int.natCast_mul]; omega
  rw [e3]
  have hp := Nat.mod_add_div (q * y + carry) 4294967296
  rw [← hpl] at hp
  have hxL : L.getD (j + k) 0 = x := by rw [← hz _ (Or.inr (Nat.le_refl _))]; exact hx
  refine ⟨k + 1, (q * y + carry) / 4294967296, t, o.set (j + k) d, by omega, rfl, rfl, rfl, by omega, ht, hB.set _ _, by simpa using ho, hd.set _ _ hd1, ?_, ?_, hon.setCell _ _⟩
  · intro i hi
    rw [ldigit_set_ne _ _ _ _ (by omega)]
    exact hz i (by omega)
  · rw [vl_seg_set _ _ _ _ _ (by omega), vl_seg_succ, vl_take_succ', hxL, hy, Nat.pow_succ]
    generalize (q * y + carry) / 4294967296 = c' at *
    generalize 4294967296 ^ k = B at *
    generalize vl 4294967296 (seg o j k) = V at *
    generalize vl 4294967296 (seg L j k) = U at *
    generalize vl 4294967296 (lv.take k) = T at *
    have h1 : B * (d + pl + borrow) = B * (x + t * 4294967296) := by rw [he]
    have h2 : B * (pl + 4294967296 * c') = B * (q * y + carry) := by rw [hp]
    clear hpl hp he e1 e2 e3 hm hz hxL hx hy
    grind

set_option maxRecDepth 100000 in
set_option maxHeartbeats 800000 in
/-- **nat.take**. -/
theorem take_any {L lv : List Nat} {w : World} {vv : Value} (b j cap q : Nat) (hB0 : Blk w b 30 (ints .u32 L)) (dL : Dig 4294967296 L) (b2 off2 cb : Nat) (hvv : vv = .slice (some ⟨b2, off2, none⟩) lv.length cb) (hb2 : b2 < w.heap.size) (hne : b2 ≠ b) (hrow : Row .u32 w b2 off2 lv)
    (dv : Dig 4294967296 lv) (hlen : j + lv.length + 1 ≤ L.length) (hL : L.length ≤ 9223372036854775807) (hcap : lv.length + 1 ≤ cap) (hcap2 : cap ≤ 9223372036854775807) (hq : q ≤ 4294967295) :
    Calls Tryz.prog 106 #[.slice (some ⟨b, j, none⟩) (lv.length + 1) cap, vv, .int .u64 (q : Int)] w fun e w' => ∃ (t : Nat) (o : List Nat), t ≤ 1 ∧ e = .returned (.bool (t == 1)) ∧
      Blk w' b 30 (ints .u32 o) ∧ o.length = L.length ∧ Dig 4294967296 o ∧ (∀ i, i < j ∨ j + lv.length < i → o.getD i 0 = L.getD i 0) ∧
      vl 4294967296 (seg o j (lv.length + 1)) + q * vl 4294967296 lv = vl 4294967296 (seg L j (lv.length + 1)) + t * 4294967296 ^ (lv.length + 1) ∧ OnlyB b w w' := by
  have _ := hL
  subst hvv
  have HB0 := Lib.hid hB0; have HLEN := Lib.hid hlen
  clear hB0
  go_enter Tryz.func106, Tryz.ntmps106
  go_wp2
  go_loopw [7, 8, 15] (fun c bo i wr => TakeRel w b j lv.length q L lv c bo i wr) (fun _ _ i _ => lv.length - (intOf i).toNat)
  case atStart =>
    exact ⟨0, 0, 0, L, by omega, rfl, rfl, rfl, by omega, by omega, HB0.out, rfl, dL, fun _ _ => rfl, by simp [seg], OnlyB.refl _ _⟩
  case round =>
    obtain ⟨k, carry, borrow, o, hk, rfl, rfl, rfl, hcy, hbo, hB, ho, hd, hz, hv, hon⟩ := hrel
    have HB := Lib.hid hB; have HO := Lib.hid ho; have HZ := Lib.hid hz; have HV := Lib.hid hv; have HOn := Lib.hid hon
    clear hB ho hz hv hon
    rcases Nat.lt_or_ge k lv.length with hlt | hge
    · have hy := (HOn.out.row hrow hb2 hne) k hlt
      have hy32 := dv.get (by decide) k
      clear hrow
      generalize hye : lv.getD k 0 = y at hy hy32
      have HY := Lib.hid hye; clear hye
      have hx := HB.out.get (j + k) (by have := HO.out; omega)
      have hfr := HB.out.free (j + k)
      have hx32 := hd.get (by decide) (j + k)
      generalize hxe : o.getD (j + k) 0 = x at hx hx32
      have HX := Lib.hid hxe; clear hxe
      have hm : (q : Int) * (y : Int) ≤ 18446744065119617025 ∧ 0 ≤ (q : Int) * (y : Int) := by
        have h : q * y ≤ 4294967295 * 4294967295 := Nat.mul_le_mul (by omega) (by omega)
        rw [← Int.natCast_mul]; omega
      obtain ⟨hm1, hm2⟩ := hm
      obtain ⟨pl, hpl, hpl1, hpl2⟩ : ∃ pl : Nat, bits .and .u64 ((q : Int) * (y : Int) + (carry : Int)) 4294967295 = (pl : Int) ∧ pl < 4294967296 ∧ pl = (q * y + carry) % 4294967296 := by
        refine ⟨(q * y + carry) % 4294967296, ?_, Nat.mod_lt _ (by decide), rfl⟩
        rw [← and_mask _ (by rw [← Int.natCast_mul] at hm1; omega)]
        simp
      have HPL := Lib.hid hpl2; clear hpl2
      go_wp2
      exact ⟨TakeRel.step HX.out HY.out HPL.out hx32 hy32 hq hlt HLEN.out hcy hbo HB.out HO.out hd HZ.out HV.out HOn.out, by simp [intOf]; omega⟩
    · obtain rfl : k = lv.length := by omega
      have hx := HB.out.get (j + lv.length) (by have := HO.out; omega)
      have hfr := HB.out.free (j + lv.length)
      have hx32 := hd.get (by decide) (j + lv.length)
      generalize hxe : o.getD (j + lv.length) 0 = x at hx hx32
      have HX := Lib.hid hxe; clear hxe
      go_wp2
      go_ret
      obtain ⟨d, t, hd1, ht, he, e1, e2⟩ := sub_wrap (x := x) (pl := carry) (bo := borrow) rfl hx32 (by omega)
      refine ⟨t, o.set (j + lv.length) d, ht, ?_, ?_, by simpa using HO.out, hd.set _ _ hd1, ?_, ?_, HOn.out.setCell _ _⟩
      · show Ending.returned (Value.bool (IntKind.u64.wrap (IntKind.u64.wrap ((x : Int) - (carry : Int)) - (borrow : Int)) / 9223372036854775808 != 0)) = _
        rw [e2]
        rcases (show t = 0 ∨ t = 1 by omega) with rfl | rfl <;> rfl
      · rw [e1]
        exact HB.out.set _ _
      · intro i hi
        rw [ldigit_set_ne _ _ _ _ (by omega)]
        exact HZ.out i (by omega)
      · have h1 := HV.out
        have h2 := HZ.out (j + lv.length) (Or.inr (Nat.le_refl _))
        rw [HX.out] at h2
        rw [List.take_of_length_le (Nat.le_refl _)] at h1
        rw [vl_seg_set _ _ _ _ _ (by have := HO.out; have := HLEN.out; omega), vl_seg_succ, ← h2, Nat.pow_succ]
        generalize 4294967296 ^ lv.length = B at *
        have h3 : B * (d + carry + borrow) = B * (x + t * 4294967296) := by rw [he]
        clear he e1 e2
        grind

def GiveRel (w : World) (b j n : Nat) (L lv : List Nat) (c i : Value) (wr : World) : Prop :=
  ∃ (k carry : Nat) (o : List Nat), k ≤ n ∧ i = .int .i64 (k : Int) ∧ c = .int .u64 (carry : Int) ∧ carry ≤ 1 ∧
    Blk wr b 30 (ints .u32 o) ∧ o.length = L.length ∧ Dig 4294967296 o ∧ (∀ t, t < j ∨ j + k ≤ t → o.getD t 0 = L.getD t 0) ∧
    vl 4294967296 (seg o j k) + carry * 4294967296 ^ k = vl 4294967296 (seg L j k) + vl 4294967296 (lv.take k) ∧ OnlyB b w wr

theorem GiveRel.step {w wr : World} {b j n k carry x y : Nat} {s : Int} {L lv o : List Nat} (hx : o.getD (j + k) 0 = x) (hy : lv.getD k 0 = y) (hs : s = ((x + y + carry : Nat) : Int)) (hx32 : x < 4294967296) (hy32 : y < 4294967296) (hk : k < n)
    (hlen : j + n + 1 ≤ L.length) (hcy : carry ≤ 1) (hB : Blk wr b 30 (ints .u32 o)) (ho : o.length = L.length) (hd : Dig 4294967296 o) (hz : ∀ t, t < j ∨ j + k ≤ t → o.getD t 0 = L.getD t 0)
    (hv : vl 4294967296 (seg o j k) + carry * 4294967296 ^ k = vl 4294967296 (seg L j k) + vl 4294967296 (lv.take k)) (hon : OnlyB b w wr) :
    GiveRel w b j n L lv (.int .u64 (s / 4294967296)) (.int .i64 (k + 1)) (wr.drew.setCell ⟨b, j + k, none⟩ (.int .u32 (s % 4294967296))) := by
  have e1 : s % 4294967296 = (((x + y + carry) % 4294967296 : Nat) : Int) := by omega
  have e2 : s / 4294967296 = (((x + y + carry) / 4294967296 : Nat) : Int) := by omega
  rw [e1, e2]
  have hxL : L.getD (j + k) 0 = x := by rw [← hz _ (Or.inr (Nat.le_refl _))]; exact hx
  refine ⟨k + 1, (x + y + carry) / 4294967296, o.set (j + k) ((x + y + carry) % 4294967296), by omega, rfl, rfl, by omega, hB.drew.set _ _, by simpa using ho, hd.set _ _ (by omega), ?_, ?_, hon.drew.setCell _ _⟩
  · intro i hi
    rw [ldigit_set_ne _ _ _ _ (by omega)]
    exact hz i (by omega)
  · rw [vl_seg_set _ _ _ _ _ (by omega), vl_seg_succ, vl_take_succ', hxL, hy, Nat.pow_succ]
    have h2 := Nat.mod_add_div (x + y + carry) 4294967296
    generalize (x + y + carry) / 4294967296 = q at *
    generalize (x + y + carry) % 4294967296 = r at *
    generalize 4294967296 ^ k = B at *
    generalize vl 4294967296 (seg o j k) = V at *
    generalize vl 4294967296 (seg L j k) = U at *
    generalize vl 4294967296 (lv.take k) = T at *
    have h1 : B * (r + 4294967296 * q) = B * (x + y + carry) := by rw [h2]
    clear h2 e1 e2 hs hz hxL hx hy
    grind

set_option maxRecDepth 100000 in
set_option maxHeartbeats 800000 in
/-- **nat.give**. -/
theorem give_any {L lv : List Nat} {w : World} {vv : Value} (b j cap : Nat) (hB0 : Blk w b 30 (ints .u32 L)) (dL : Dig 4294967296 L) (b2 off2 cb : Nat) (hvv : vv = .slice (some ⟨b2, off2, none⟩) lv.length cb) (hb2 : b2 < w.heap.size) (hne : b2 ≠ b) (hrow : Row .u32 w b2 off2 lv)
    (dv : Dig 4294967296 lv) (hlen : j + lv.length + 1 ≤ L.length) (hL : L.length ≤ 9223372036854775807) (hcap : lv.length + 1 ≤ cap) (hcap2 : cap ≤ 9223372036854775807) :
    Calls Tryz.prog 107 #[.slice (some ⟨b, j, none⟩) (lv.length + 1) cap, vv] w fun e w' => ∃ (t : Nat) (o : List Nat), t ≤ 1 ∧ e = .returned (.tuple #[]) ∧
      Blk w' b 30 (ints .u32 o) ∧ o.length = L.length ∧ Dig 4294967296 o ∧ (∀ i, i < j ∨ j + lv.length < i → o.getD i 0 = L.getD i 0) ∧
      vl 4294967296 (seg o j (lv.length + 1)) + t * 4294967296 ^ (lv.length + 1) = vl 4294967296 (seg L j (lv.length + 1)) + vl 4294967296 lv ∧ OnlyB b w w' := by
  have _ := hL
  subst hvv
  have HB0 := Lib.hid hB0; have HLEN := Lib.hid hlen
  clear hB0
  go_enter Tryz.func107, Tryz.ntmps107
  go_wp2
  go_loopw [4, 9] (fun c i wr => GiveRel w b j lv.length L lv c i wr) (fun _ i _ => lv.length - (intOf i).toNat)
  case atStart =>
    exact ⟨0, 0, L, by omega, rfl, rfl, by omega, HB0.out, rfl, dL, fun _ _ => rfl, by simp [seg], OnlyB.refl _ _⟩
  case round =>
    obtain ⟨k, carry, o, hk, rfl, rfl, hcy, hB, ho, hd, hz, hv, hon⟩ := hrel
    have HB := Lib.hid hB; have HO := Lib.hid ho; have HZ := Lib.hid hz; have HV := Lib.hid hv; have HOn := Lib.hid hon
    clear hB ho hz hv hon
    rcases Nat.lt_or_ge k lv.length with hlt | hge
    · have hy := (HOn.out.row hrow hb2 hne) k hlt
      have hy32 := dv.get (by decide) k
      clear hrow
      generalize hye : lv.getD k 0 = y at hy hy32
      have HY := Lib.hid hye; clear hye
      have hx := HB.out.get (j + k) (by have := HO.out; omega)
      have hfr := HB.out.free (j + k)
      have hx32 := hd.get (by decide) (j + k)
      generalize hxe : o.getD (j + k) 0 = x at hx hx32
      have HX := Lib.hid hxe; clear hxe
      go_wp2
      go_region
      go_wp2
      exact ⟨GiveRel.step HX.out HY.out (by omega) hx32 hy32 hlt HLEN.out hcy HB.out HO.out hd HZ.out HV.out HOn.out, by simp [intOf]; omega⟩
    · obtain rfl : k = lv.length := by omega
      have hx := HB.out.get (j + lv.length) (by have := HO.out; omega)
      have hfr := HB.out.free (j + lv.length)
      have hx32 := hd.get (by decide) (j + lv.length)
      generalize hxe : o.getD (j + lv.length) 0 = x at hx hx32
      have HX := Lib.hid hxe; clear hxe
      go_wp2
      go_end0
      refine ⟨(x + carry) / 4294967296, o.set (j + lv.length) ((x + carry) % 4294967296), by omega, rfl, ?_, by simpa using HO.out, hd.set _ _ (by omega), ?_, ?_, HOn.out.setCell _ _⟩
      · exact HB.out.set _ ((x + carry) % 4294967296)
      · intro i hi
        rw [ldigit_set_ne _ _ _ _ (by omega)]
        exact HZ.out i (by omega)
      · have h1 := HV.out
        have h2 := HZ.out (j + lv.length) (Or.inr (Nat.le_refl _))
        rw [HX.out] at h2
        rw [List.take_of_length_le (Nat.le_refl _)] at h1
        rw [vl_seg_set _ _ _ _ _ (by have := HO.out; have := HLEN.out; omega), vl_seg_succ, ← h2, Nat.pow_succ]
        have h3 := Nat.mod_add_div (x + carry) 4294967296
        generalize (x + carry) / 4294967296 = q at *
        generalize (x + carry) % 4294967296 = r at *
        generalize 4294967296 ^ lv.length = B at *
        have h4 : B * (r + 4294967296 * q) = B * (x + carry) := by rw [h3]
        clear h3
        grind

end Go.Proofs.YtolmjeglaolhlaaGreatDoor

/- The contract of nat.estimate: the estimate of a digit of a quotient. -/
namespace Go.Proofs.YtolmjeglaolhlaaGreatDoor
open Go.RowKit Num

theorem mul32' {x y : Nat} (hx : x < 4294967296) (hy : y < 4294967296) : (x : Int) * (y : Int) ≤ 18446744065119617025 ∧ 0 ≤ (x : Int) * (y : Int) := by
  have h : x * y ≤ 4294967295 * 4294967295 := Nat.mul_le_mul (by omega) (by omega)
  have e : (x : Int) * (y : Int) = ((x * y : Nat) : Int) := by simp
  rw [e]
  omega

/-- Between two rounds. -/
def EstRel (T W v0 top : Nat) (s6 s7 : Value) : Prop :=
  ∃ q r : Nat, s6 = .int .u64 (q : Int) ∧ s7 = .int .u64 (r : Int) ∧ q * v0 + r = top ∧ r < 4294967296 ∧ q < 4294967300 ∧ (T < (q + 1) * W ∨ 4294967295 ≤ q)

theorem est0 (w : World) (o1 o2 : Obj) : Below w.heap.size w ((w.alloc o1).alloc o2).drew := (((Below.refl _ _).alloc (Nat.le_refl _) o1).alloc (by simp) o2).drew

/-- What the estimate comes to. -/
def EstEnd (T W : Nat) (q : Nat) : Prop := q ≤ 4294967295 ∧ q * W ≤ T ∧ (q = 4294967295 ∨ T < (q + 1) * W)

theorem est_start {u0 u1 u2 v0 v1 top : Nat} (ht : top = u0 * 4294967296 + u1) (hu0 : u0 ≤ v0) (hu1 : u1 < 4294967296) (hu2 : u2 < 4294967296) (hv0' : 2147483648 ≤ v0) (hv0 : v0 < 4294967296) :
    EstRel (top * 4294967296 + u2) (v0 * 4294967296 + v1) v0 top (.int .u64 (IntKind.u64.wrap ((top : Int) / (v0 : Int)))) (.int .u64 ((top : Int) % (v0 : Int))) := by
  have e1 : (top : Int) / (v0 : Int) = ((top / v0 : Nat) : Int) := by simp
  have e2 : (top : Int) % (v0 : Int) = ((top % v0 : Nat) : Int) := by simp
  have h1 := Nat.div_add_mod top v0
  have h2 := Nat.mod_lt top (show 0 < v0 by omega)
  have h3 : top / v0 < 4294967300 := by
    rw [Nat.div_lt_iff_lt_mul (by omega)]
    have : u0 * 4294967296 ≤ v0 * 4294967296 := Nat.mul_le_mul_right _ hu0
    omega
  rw [e1, e2, IntKind.wrap_u64]
  generalize top / v0 = q at *
  generalize top % v0 = r at *
  refine ⟨q, r, by rw [show (q : Int) % 18446744073709551616 = q by omega], rfl, by rw [Nat.mul_comm]; exact h1, by omega, h3, Or.inl ?_⟩
  have h4 : (q + 1) * (v0 * 4294967296 + v1) = (v0 * q + v0) * 4294967296 + (q + 1) * v1 := by grind
  rw [h4]
  have h5 : (top + 1) * 4294967296 ≤ (v0 * q + v0) * 4294967296 := Nat.mul_le_mul_right _ (by omega)
  omega

theorem est_next {u0 u1 u2 v0 v1 top q r T W : Nat} (ht : top = u0 * 4294967296 + u1) (hT : T = top * 4294967296 + u2) (hW : W = v0 * 4294967296 + v1) (hu0 : u0 ≤ v0) (hu1 : u1 < 4294967296) (hu2 : u2 < 4294967296) (hv0' : 2147483648 ≤ v0)
    (hq : q * v0 + r = top) (hq2 : q < 4294967300) (hbig : 4294967295 < q ∨ r * 4294967296 + u2 < q * v1) : 1 ≤ q ∧ (q - 1) * v0 + (r + v0) = top ∧ (T < (q - 1 + 1) * W ∨ 4294967295 ≤ q - 1) := by
  have _ := hv0'
  have _ := hu2
  have _ := hu1
  have _ := hu0
  have h1 : 1 ≤ q := by
    rcases hbig with h | h
    · omega
    · rcases Nat.eq_zero_or_pos q with h0 | h0
      · subst h0; simp at h
      · exact h0
  obtain ⟨p, rfl⟩ : ∃ p, q = p + 1 := ⟨q - 1, by omega⟩
  refine ⟨h1, by simp only [Nat.add_sub_cancel]; rw [Nat.add_mul] at hq; omega, ?_⟩
  rcases hbig with h | h
  · right; omega
  · left
    simp only [Nat.add_sub_cancel]
    have h4 : (p + 1) * (v0 * 4294967296 + v1) = ((p + 1) * v0) * 4294967296 + (p + 1) * v1 := by grind
    rw [hT, hW, h4, ← hq]
    clear hT hW ht hu0 hu1 hv0' hq2 h1 h4 hq
    generalize (p + 1) * v1 = Z at *
    generalize (p + 1) * v0 = Y at *
    rw [Nat.add_mul, Nat.add_assoc]
    exact Nat.add_lt_add_left h _

theorem est_stop {u0 u1 u2 v0 v1 top q r T W : Nat} (hT : T = top * 4294967296 + u2) (hW : W = v0 * 4294967296 + v1)
    (hq : q * v0 + r = top) (hq2 : q ≤ 4294967295) (hlast : T < (q + 1) * W ∨ 4294967295 ≤ q) (hle : q * v1 ≤ r * 4294967296 + u2) : EstEnd T W q := by
  have _ := u1
  have _ := u0
  refine ⟨hq2, ?_, ?_⟩
  · subst hT hW
    have h4 : q * (v0 * 4294967296 + v1) = (q * v0) * 4294967296 + q * v1 := by grind
    rw [h4]
    generalize q * v1 = Z at *
    generalize q * v0 = Y at *
    subst hq
    omega
  · rcases hlast with h | h
    · exact Or.inr h
    · left; omega

theorem est_break {u0 u1 u2 v0 v1 top q r T W : Nat} (ht : top = u0 * 4294967296 + u1) (hT : T = top * 4294967296 + u2) (hW : W = v0 * 4294967296 + v1) (hu0 : u0 ≤ v0) (hu1 : u1 < 4294967296) (hv1 : v1 < 4294967296)
    (hq : q * v0 + r = top) (hlast : T < (q + 1) * W ∨ 4294967295 ≤ q) (hr : 4294967295 < r) : EstEnd T W q := by
  have h1 : q ≤ 4294967295 := by
    rcases Nat.lt_or_ge q 4294967296 with h | h
    · omega
    · exfalso
      have h2 : 4294967296 * v0 ≤ q * v0 := Nat.mul_le_mul_right _ h
      omega
  refine est_stop (u0 := u0) (u1 := u1) (u2 := u2) hT hW hq h1 hlast ?_
  have h3 : q * v1 ≤ 4294967295 * 4294967295 := Nat.mul_le_mul h1 (by omega)
  omega

set_option maxRecDepth 100000 in
set_option maxHeartbeats 800000 in
/-- **nat.estimate**. -/
theorem estimate_any (u0 u1 u2 v0 v1 v2 : Nat) (w : World) (hu0 : u0 ≤ v0) (hu1 : u1 < 4294967296) (hu2 : u2 < 4294967296) (hv0 : v0 < 4294967296) (hv0' : 2147483648 ≤ v0) (hv1 : v1 < 4294967296) :
    Calls Tryz.prog 105 #[.agg #[.int .u32 (u0 : Int), .int .u32 (u1 : Int), .int .u32 (u2 : Int)], .agg #[.int .u32 (v0 : Int), .int .u32 (v1 : Int), .int .u32 (v2 : Int)]] w fun e w' =>
      ∃ q : Nat, e = .returned (.int .u64 (q : Int)) ∧ EstEnd ((u0 * 4294967296 + u1) * 4294967296 + u2) (v0 * 4294967296 + v1) q ∧ Below w.heap.size w w' := by
  obtain ⟨top, htop, ht1, ht2⟩ : ∃ t : Nat, bits .or .u64 ((u0 : Int) * 4294967296) (u1 : Int) = (t : Int) ∧ t < 18446744073709551616 ∧ t = u0 * 4294967296 + u1 := by
    refine ⟨u0 * 4294967296 + u1, ?_, by omega, rfl⟩
    have e := u64_or_nat (u0 * 4294967296) u1 (by omega) (by omega)
    rw [or_mul u0 u1 32 (by omega)] at e
    rw [← e]
    rfl
  rw [← ht2]
  obtain ⟨T, hT⟩ : ∃ T, T = top * 4294967296 + u2 := ⟨_, rfl⟩
  obtain ⟨W, hW⟩ : ∃ W, W = v0 * 4294967296 + v1 := ⟨_, rfl⟩
  rw [← hT, ← hW]
  have HT := Lib.hid ht2; have HTT := Lib.hid hT; have HWW := Lib.hid hW
  clear ht2 hT hW
  have hv1' : 1 ≤ (v0 : Int) := by omega
  go_enter Tryz.func105, Tryz.ntmps105
  go_wp2
  go_step3
  go_wp2
  go_region
  go_wp2
  go_step3
  go_wp2
  go_loop [6, 7] (fun s6 s7 => EstRel T W v0 top s6 s7) (fun s6 _ => (intOf s6).toNat)
  case atStart =>
    have := est_start (v1 := v1) HT.out hu0 hu1 hu2 hv0' hv0
    rw [← HTT.out, ← HWW.out] at this
    exact this
  case round =>
    obtain ⟨q, r, rfl, rfl, hq, hr, hq2, hlast⟩ := hrel
    have HQ := Lib.hid hq; have HL := Lib.hid hlast
    clear hq hlast
    obtain ⟨t, htt, ht1', ht2'⟩ : ∃ t : Nat, bits .or .u64 ((r : Int) * 4294967296) (u2 : Int) = (t : Int) ∧ t < 18446744073709551616 ∧ t = r * 4294967296 + u2 := by
      refine ⟨r * 4294967296 + u2, ?_, by omega, rfl⟩
      have e := u64_or_nat (r * 4294967296) u2 (by omega) (by omega)
      rw [or_mul r u2 32 (by omega)] at e
      rw [← e]
      rfl
    have HTR := Lib.hid ht2'; clear ht2'
    rcases Nat.lt_or_ge 4294967295 q with hbig | hsmall
    · obtain ⟨n1, n2, n3⟩ := est_next HT.out HTT.out HWW.out hu0 hu1 hu2 hv0' HQ.out hq2 (Or.inl hbig)
      have N2 := Lib.hid n2; have N3 := Lib.hid n3
      clear n2 n3
      go_wp2
      case roundEnd => exact ⟨⟨q - 1, r + v0, by rw [show ((q - 1 : Nat) : Int) = (q : Int) - 1 by omega], by simp, N2.out, by omega, by omega, N3.out⟩, by simp [intOf]; omega⟩
      · go_ret
        exact ⟨q - 1, by rw [show ((q - 1 : Nat) : Int) = (q : Int) - 1 by omega]; rfl, est_break HT.out HTT.out HWW.out hu0 hu1 hv1 N2.out N3.out (by omega), est0 _ _ _⟩
    · obtain ⟨hm1, hm2⟩ := mul32' (show q < 4294967296 by omega) hv1
      rcases Nat.lt_or_ge t (q * v1) with hgt | hle
      · obtain ⟨n1, n2, n3⟩ := est_next HT.out HTT.out HWW.out hu0 hu1 hu2 hv0' HQ.out hq2 (Or.inr (by rw [← HTR.out]; exact hgt))
        have N2 := Lib.hid n2; have N3 := Lib.hid n3
        clear n2 n3
        have hgt' : (t : Int) < (q : Int) * (v1 : Int) := by rw [← Int.natCast_mul]; omega
        clear hgt
        go_wp2
        case roundEnd => exact ⟨⟨q - 1, r + v0, by rw [show ((q - 1 : Nat) : Int) = (q : Int) - 1 by omega], by simp, N2.out, by omega, by omega, N3.out⟩, by simp [intOf]; omega⟩
        · go_ret
          exact ⟨q - 1, by rw [show ((q - 1 : Nat) : Int) = (q : Int) - 1 by omega]; rfl, est_break HT.out HTT.out HWW.out hu0 hu1 hv1 N2.out N3.out (by omega), est0 _ _ _⟩
      · have hle' : (q : Int) * (v1 : Int) ≤ (t : Int) := by rw [← Int.natCast_mul]; omega
        have hend := est_stop (u0 := u0) (u1 := u1) HTT.out HWW.out HQ.out (by omega) HL.out (by rw [← HTR.out]; exact hle)
        have HE := Lib.hid hend
        clear hle hend
        go_wp2
        go_ret
        exact ⟨q, rfl, HE.out, est0 _ _ _⟩

#print axioms estimate_any
end Go.Proofs.YtolmjeglaolhlaaGreatDoor
