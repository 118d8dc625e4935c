/- The contracts of nat.take and nat.give: a multiple of v is subtracted from digits of u; v is added to them. -/
import Derived.Test.YtmbgohaljiiigaaGreatDoorBase
import Derived.RegionTactic
import Derived.ChangeAlike
import Derived.BigRegion
namespace Go.Proofs.YtmbgohaljiiigaaGreatDoor
open Go.RowKit Num

/-- Only the block b may have turned. -/
def OnlyB (b : Nat) (w w' : World) : Prop := w.grownBy w' (some b)

theorem OnlyB.refl (b : Nat) (w : World) : OnlyB b w w := World.grownBy.refl _ _
theorem OnlyB.setCell {b : Nat} {w w' : World} (h : OnlyB b w w') (i : Nat) (v : Value) : OnlyB b w (w'.setCell ⟨b, i, none⟩ v) :=
  ⟨h.os, h.tape, h.output, by simp only [World.setCell, Array.size_modify]; exact h.size, fun k hk hne => by
    rw [Below.heap_setCell _ _ _ _ (by intro e; apply hne; rw [e]), h.block k hk hne]⟩
theorem OnlyB.drew {b : Nat} {w w' : World} (h : OnlyB b w w') : OnlyB b w w'.drew := ⟨h.os, h.tape, h.output, h.size, h.block⟩
theorem OnlyB.row {b c off : Nat} {w w' : World} {k : IntKind} {l : List Nat} (h : OnlyB b w w') (hr : Row k w c off l) (hc : c < w.heap.size) (hne : c ≠ b) : Row k w' c off l := fun i hi => by
  rw [World.cell?_of_block (w := w) (w' := w') (h.block c hc (by intro e; cases e; exact hne rfl))]
  exact hr i hi

theorem OnlyB.blk {b c : Nat} {w w' : World} {E : TypeId} {vs : List Value} (h : OnlyB b w w') (hc : Blk w c E vs) (hne : c ≠ b) : Blk w' c E vs := by
  have := h.block c hc.lt (by intro e; cases e; exact hne rfl)
  unfold Blk at *
  rw [this, hc]
theorem OnlyB.below {b B : Nat} {a w w' : World} (h : OnlyB b w w') (hb : Below B a w) (hB : B ≤ w.heap.size) (hbB : B ≤ b) : Below B a w' := hb.grown h hB (fun k e => by cases e; exact hbB)

def TakeRel (w : World) (b j n q : Nat) (L lv : List Nat) (c bo i : Value) (wr : World) : Prop :=
  ∃ (k carry borrow : Nat) (o : List Nat), k ≤ n ∧ i = .int .i64 (k : Int) ∧ c = .int .u64 (carry : Int) ∧ bo = .int .u64 (borrow : Int) ∧ carry < 4294967296 ∧ borrow ≤ 1 ∧
    Blk wr b 79 (ints .u32 o) ∧ o.length = L.length ∧ Dig 4294967296 o ∧ (∀ t, t < j ∨ j + k ≤ t → o.getD t 0 = L.getD t 0) ∧
    vl 4294967296 (seg o j k) + q * vl 4294967296 (lv.take k) = vl 4294967296 (seg L j k) + (carry + borrow) * 4294967296 ^ k ∧ OnlyB b w wr

theorem and_mask (p : Nat) (hp : p < 18446744073709551616) : bits .and .u64 (p : Int) 4294967295 = ((p % 4294967296 : Nat) : Int) := by
  have h := u64_and_nat p 4294967295 hp (by decide)
  have e : p &&& 4294967295 = p % 4294967296 := Nat.and_two_pow_sub_one_eq_mod p 32
  rw [e] at h
  exact h

theorem sub_wrap {s : Int} {x pl bo : Nat} (hs : s = IntKind.u64.wrap (IntKind.u64.wrap ((x : Int) - (pl : Int)) - (bo : Int))) (hx : x < 4294967296) (hp : pl + bo ≤ 4294967296) :
    ∃ d t : Nat, d < 4294967296 ∧ t ≤ 1 ∧ d + pl + bo = x + t * 4294967296 ∧ s % 4294967296 = (d : Int) ∧ s / 9223372036854775808 = (t : Int) := by
  rw [IntKind.wrap_u64, IntKind.wrap_u64] at hs
  rcases Nat.lt_or_ge x (pl + bo) with h | h
  · exact ⟨x + 4294967296 - pl - bo, 1, by omega, by omega, by omega, by omega, by omega⟩
  · exact ⟨x - pl - bo, 0, by omega, by omega, by omega, by omega, by omega⟩

theorem TakeRel.step {w wr : World} {b j n q k carry borrow x y pl : Nat} {L lv o : List Nat} (hx : o.getD (j + k) 0 = x) (hy : lv.getD k 0 = y) (hpl : pl = (q * y + carry) % 4294967296) (hx32 : x < 4294967296) (hy32 : y < 4294967296) (hq : q ≤ 4294967295) (hk : k < n)
    (hlen : j + n + 1 ≤ L.length) (hcy : carry < 4294967296) (hbo : borrow ≤ 1) (hB : Blk wr b 79 (ints .u32 o)) (ho : o.length = L.length) (hd : Dig 4294967296 o) (hz : ∀ t, t < j ∨ j + k ≤ t → o.getD t 0 = L.getD t 0)
    (hv : vl 4294967296 (seg o j k) + q * vl 4294967296 (lv.take k) = vl 4294967296 (seg L j k) + (carry + borrow) * 4294967296 ^ k) (hon : OnlyB b w wr) :
    TakeRel w b j n q L lv (.int .u64 (((q : Int) * (y : Int) + (carry : Int)) / 4294967296)) (.int .u64 (IntKind.u64.wrap (IntKind.u64.wrap ((x : Int) - (pl : Int)) - (borrow : Int)) / 9223372036854775808)) (.int .i64 (k + 1))
      (wr.setCell ⟨b, j + k, none⟩ (.int .u32 (IntKind.u64.wrap (IntKind.u64.wrap ((x : Int) - (pl : Int)) - (borrow : Int)) % 4294967296))) := by
  obtain ⟨d, t, hd1, ht, he, e1, e2⟩ := sub_wrap (x := x) (pl := pl) (bo := borrow) rfl hx32 (by omega)
  rw [e1, e2]
  have hm : q * y ≤ 4294967295 * 4294967295 := Nat.mul_le_mul hq (by omega)
  have e3 : ((q : Int) * (y : Int) + (carry : Int)) / 4294967296 = (((q * y + carry) / 4294967296 : Nat) : Int) := by
    rw [← Int.natCast_mul]; omega
  rw [e3]
  have hp := Nat.mod_add_div (q * y + carry) 4294967296
  rw [← hpl] at hp
  have hxL : L.getD (j + k) 0 = x := by rw [← hz _ (Or.inr (Nat.le_refl _))]; exact hx
  refine ⟨k + 1, (q * y + carry) / 4294967296, t, o.set (j + k) d, by omega, rfl, rfl, rfl, by omega, ht, hB.set _ _, by simpa using ho, hd.set _ _ hd1, ?_, ?_, hon.setCell _ _⟩
  · intro i hi
    rw [ldigit_set_ne _ _ _ _ (by omega)]
    exact hz i (by omega)
  · rw [vl_seg_set _ _ _ _ _ (by omega), vl_seg_succ, vl_take_succ', hxL, hy, Nat.pow_succ]
    generalize (q * y + carry) / 4294967296 = c' at *
    generalize 4294967296 ^ k = B at *
    generalize vl 4294967296 (seg o j k) = V at *
    generalize vl 4294967296 (seg L j k) = U at *
    generalize vl 4294967296 (lv.take k) = T at *
    have h1 : B * (d + pl + borrow) = B * (x + t * 4294967296) := by rw [he]
    have h2 : B * (pl + 4294967296 * c') = B * (q * y + carry) := by rw [hp]
    clear hpl hp he e1 e2 e3 hm hz hxL hx hy
    grind

set_option maxRecDepth 100000 in
set_option maxHeartbeats 800000 in
/-- **nat.take**. -/
theorem take_any {L lv : List Nat} {w : World} {vv : Value} (b j cap q : Nat) (hB0 : Blk w b 79 (ints .u32 L)) (dL : Dig 4294967296 L) (b2 off2 cb : Nat) (hvv : vv = .slice (some ⟨b2, off2, none⟩) lv.length cb) (hb2 : b2 < w.heap.size) (hne : b2 ≠ b) (hrow : Row .u32 w b2 off2 lv)
    (dv : Dig 4294967296 lv) (hlen : j + lv.length + 1 ≤ L.length) (hL : L.length ≤ 9223372036854775807) (hcap : lv.length + 1 ≤ cap) (hcap2 : cap ≤ 9223372036854775807) (hq : q ≤ 4294967295) :
    Calls Tryz.prog 130 #[.slice (some ⟨b, j, none⟩) (lv.length + 1) cap, vv, .int .u64 (q : Int)] w fun e w' => ∃ (t : Nat) (o : List Nat), t ≤ 1 ∧ e = .returned (.bool (t == 1)) ∧
      Blk w' b 79 (ints .u32 o) ∧ o.length = L.length ∧ Dig 4294967296 o ∧ (∀ i, i < j ∨ j + lv.length < i → o.getD i 0 = L.getD i 0) ∧
      vl 4294967296 (seg o j (lv.length + 1)) + q * vl 4294967296 lv = vl 4294967296 (seg L j (lv.length + 1)) + t * 4294967296 ^ (lv.length + 1) ∧ OnlyB b w w' := by
  have _ := hL
  subst hvv
  have HB0 := Lib.hid hB0; have HLEN := Lib.hid hlen
  clear hB0
  go_enter Tryz.func130, Tryz.ntmps130
  go_wp2
  go_loopw [7, 8, 15] (fun c bo i wr => TakeRel w b j lv.length q L lv c bo i wr) (fun _ _ i _ => lv.length - (intOf i).toNat)
  case atStart =>
    exact ⟨0, 0, 0, L, by omega, rfl, rfl, rfl, by omega, by omega, HB0.out, rfl, dL, fun _ _ => rfl, by simp [seg], OnlyB.refl _ _⟩
  case round =>
    obtain ⟨k, carry, borrow, o, hk, rfl, rfl, rfl, hcy, hbo, hB, ho, hd, hz, hv, hon⟩ := hrel
    have HB := Lib.hid hB; have HO := Lib.hid ho; have HZ := Lib.hid hz; have HV := Lib.hid hv; have HOn := Lib.hid hon
    clear hB ho hz hv hon
    rcases Nat.lt_or_ge k lv.length with hlt | hge
    · have hy := (HOn.out.row hrow hb2 hne) k hlt
      have hy32 := dv.get (by decide) k
      clear hrow
      generalize hye : lv.getD k 0 = y at hy hy32
      have HY := Lib.hid hye; clear hye
      have hx := HB.out.get (j + k) (by have := HO.out; omega)
      have hfr := HB.out.free (j + k)
      have hx32 := hd.get (by decide) (j + k)
      generalize hxe : o.getD (j + k) 0 = x at hx hx32
      have HX := Lib.hid hxe; clear hxe
      have hm : (q : Int) * (y : Int) ≤ 18446744065119617025 ∧ 0 ≤ (q : Int) * (y : Int) := by
        have h : q * y ≤ 4294967295 * 4294967295 := Nat.mul_le_mul (by omega) (by omega)
        rw [← Int.natCast_mul]; omega
      obtain ⟨hm1, hm2⟩ := hm
      obtain ⟨pl, hpl, hpl1, hpl2⟩ : ∃ pl : Nat, bits .and .u64 ((q : Int) * (y : Int) + (carry : Int)) 4294967295 = (pl : Int) ∧ pl < 4294967296 ∧ pl = (q * y + carry) % 4294967296 := by
        refine ⟨(q * y + carry) % 4294967296, ?_, Nat.mod_lt _ (by decide), rfl⟩
        rw [← and_mask _ (by rw [← Int.natCast_mul] at hm1; omega)]
        simp
      have HPL := Lib.hid hpl2; clear hpl2
      go_wp2
      exact ⟨TakeRel.step HX.out HY.out HPL.out hx32 hy32 hq hlt HLEN.out hcy hbo HB.out HO.out hd HZ.out HV.out HOn.out, by simp [intOf]; omega⟩
    · obtain rfl : k = lv.length := by omega
      have hx := HB.out.get (j + lv.length) (by have := HO.out; omega)
      have hfr := HB.out.free (j + lv.length)
      have hx32 := hd.get (by decide) (j + lv.length)
      generalize hxe : o.getD (j + lv.length) 0 = x at hx hx32
      have HX := Lib.hid hxe; clear hxe
      go_wp2
      go_ret
      obtain ⟨d, t, hd1, ht, he, e1, e2⟩ := sub_wrap (x := x) (pl := carry) (bo := borrow) rfl hx32 (by omega)
      refine ⟨t, o.set (j + lv.length) d, ht, ?_, ?_, by simpa using HO.out, hd.set _ _ hd1, ?_, ?_, HOn.out.setCell _ _⟩
      · show Ending.returned (Value.bool (IntKind.u64.wrap (IntKind.u64.wrap ((x : Int) - (carry : Int)) - (borrow : Int)) / 9223372036854775808 != 0)) = _
        rw [e2]
        rcases (show t = 0 ∨ t = 1 by omega) with rfl | rfl <;> rfl
      · rw [e1]
        exact HB.out.set _ _
      · intro i hi
        rw [ldigit_set_ne _ _ _ _ (by omega)]
        exact HZ.out i (by omega)
      · have h1 := HV.out
        have h2 := HZ.out (j + lv.length) (Or.inr (Nat.le_refl _))
        rw [HX.out] at h2
        rw [List.take_of_length_le (Nat.le_refl _)] at h1
        rw [vl_seg_set _ _ _ _ _ (by have := HO.out; have := HLEN.out; omega), vl_seg_succ, ← h2, Nat.pow_succ]
        generalize 4294967296 ^ lv.length = B at *
        have h3 : B * (d + carry + borrow) = B * (x + t * 4294967296) := by rw [he]
        clear he e1 e2
        grind

def GiveRel (w : World) (b j n : Nat) (L lv : List Nat) (c i : Value) (wr : World) : Prop :=
  ∃ (k carry : Nat) (o : List Nat), k ≤ n ∧ i = .int .i64 (k : Int) ∧ c = .int .u64 (carry : Int) ∧ carry ≤ 1 ∧
    Blk wr b 79 (ints .u32 o) ∧ o.length = L.length ∧ Dig 4294967296 o ∧ (∀ t, t < j ∨ j + k ≤ t → o.getD t 0 = L.getD t 0) ∧
    vl 4294967296 (seg o j k) + carry * 4294967296 ^ k = vl 4294967296 (seg L j k) + vl 4294967296 (lv.take k) ∧ OnlyB b w wr

theorem GiveRel.step {w wr : World} {b j n k carry x y : Nat} {s : Int} {L lv o : List Nat} (hx : o.getD (j + k) 0 = x) (hy : lv.getD k 0 = y) (hs : s = ((x + y + carry : Nat) : Int)) (hx32 : x < 4294967296) (hy32 : y < 4294967296) (hk : k < n)
    (hlen : j + n + 1 ≤ L.length) (hcy : carry ≤ 1) (hB : Blk wr b 79 (ints .u32 o)) (ho : o.length = L.length) (hd : Dig 4294967296 o) (hz : ∀ t, t < j ∨ j + k ≤ t → o.getD t 0 = L.getD t 0)
    (hv : vl 4294967296 (seg o j k) + carry * 4294967296 ^ k = vl 4294967296 (seg L j k) + vl 4294967296 (lv.take k)) (hon : OnlyB b w wr) :
    GiveRel w b j n L lv (.int .u64 (s / 4294967296)) (.int .i64 (k + 1)) (wr.drew.setCell ⟨b, j + k, none⟩ (.int .u32 (s % 4294967296))) := by
  have e1 : s % 4294967296 = (((x + y + carry) % 4294967296 : Nat) : Int) := by omega
  have e2 : s / 4294967296 = (((x + y + carry) / 4294967296 : Nat) : Int) := by omega
  rw [e1, e2]
  have hxL : L.getD (j + k) 0 = x := by rw [← hz _ (Or.inr (Nat.le_refl _))]; exact hx
  refine ⟨k + 1, (x + y + carry) / 4294967296, o.set (j + k) ((x + y + carry) % 4294967296), by omega, rfl, rfl, by omega, hB.drew.set _ _, by simpa using ho, hd.set _ _ (by omega), ?_, ?_, hon.drew.setCell _ _⟩
  · intro i hi
    rw [ldigit_set_ne _ _ _ _ (by omega)]
    exact hz i (by omega)
  · rw [vl_seg_set _ _ _ _ _ (by omega), vl_seg_succ, vl_take_succ', hxL, hy, Nat.pow_succ]
    have h2 := Nat.mod_add_div (x + y + carry) 4294967296
    generalize (x + y + carry) / 4294967296 = q at *
    generalize (x + y + carry) % 4294967296 = r at *
    generalize 4294967296 ^ k = B at *
    generalize vl 4294967296 (seg o j k) = V at *
    generalize vl 4294967296 (seg L j k) = U at *
    generalize vl 4294967296 (lv.take k) = T at *
    have h1 : B * (r + 4294967296 * q) = B * (x + y + carry) := by rw [h2]
    clear h2 e1 e2 hs hz hxL hx hy
    grind

set_option maxRecDepth 100000 in
set_option maxHeartbeats 800000 in
/-- **nat.give**. -/
theorem give_any {L lv : List Nat} {w : World} {vv : Value} (b j cap : Nat) (hB0 : Blk w b 79 (ints .u32 L)) (dL : Dig 4294967296 L) (b2 off2 cb : Nat) (hvv : vv = .slice (some ⟨b2, off2, none⟩) lv.length cb) (hb2 : b2 < w.heap.size) (hne : b2 ≠ b) (hrow : Row .u32 w b2 off2 lv)
    (dv : Dig 4294967296 lv) (hlen : j + lv.length + 1 ≤ L.length) (hL : L.length ≤ 9223372036854775807) (hcap : lv.length + 1 ≤ cap) (hcap2 : cap ≤ 9223372036854775807) :
    Calls Tryz.prog 131 #[.slice (some ⟨b, j, none⟩) (lv.length + 1) cap, vv] w fun e w' => ∃ (t : Nat) (o : List Nat), t ≤ 1 ∧ e = .returned (.tuple #[]) ∧
      Blk w' b 79 (ints .u32 o) ∧ o.length = L.length ∧ Dig 4294967296 o ∧ (∀ i, i < j ∨ j + lv.length < i → o.getD i 0 = L.getD i 0) ∧
      vl 4294967296 (seg o j (lv.length + 1)) + t * 4294967296 ^ (lv.length + 1) = vl 4294967296 (seg L j (lv.length + 1)) + vl 4294967296 lv ∧ OnlyB b w w' := by
  have _ := hL
  subst hvv
  have HB0 := Lib.hid hB0; have HLEN := Lib.hid hlen
  clear hB0
  go_enter Tryz.func131, Tryz.ntmps131
  go_wp2
  go_loopw [4, 9] (fun c i wr => GiveRel w b j lv.length L lv c i wr) (fun _ i _ => lv.length - (intOf i).toNat)
  case atStart =>
    exact ⟨0, 0, L, by omega, rfl, rfl, by omega, HB0.out, rfl, dL, fun _ _ => rfl, by simp [seg], OnlyB.refl _ _⟩
  case round =>
    obtain ⟨k, carry, o, hk, rfl, rfl, hcy, hB, ho, hd, hz, hv, hon⟩ := hrel
    have HB := Lib.hid hB; have HO := Lib.hid ho; have HZ := Lib.hid hz; have HV := Lib.hid hv; have HOn := Lib.hid hon
    clear hB ho hz hv hon
    rcases Nat.lt_or_ge k lv.length with hlt | hge
    · have hy := (HOn.out.row hrow hb2 hne) k hlt
      have hy32 := dv.get (by decide) k
      clear hrow
      generalize hye : lv.getD k 0 = y at hy hy32
      have HY := Lib.hid hye; clear hye
      have hx := HB.out.get (j + k) (by have := HO.out; omega)
      have hfr := HB.out.free (j + k)
      have hx32 := hd.get (by decide) (j + k)
      generalize hxe : o.getD (j + k) 0 = x at hx hx32
      have HX := Lib.hid hxe; clear hxe
      go_wp2
      go_region
      go_wp2
      exact ⟨GiveRel.step HX.out HY.out (by omega) hx32 hy32 hlt HLEN.out hcy HB.out HO.out hd HZ.out HV.out HOn.out, by simp [intOf]; omega⟩
    · obtain rfl : k = lv.length := by omega
      have hx := HB.out.get (j + lv.length) (by have := HO.out; omega)
      have hfr := HB.out.free (j + lv.length)
      have hx32 := hd.get (by decide) (j + lv.length)
      generalize hxe : o.getD (j + lv.length) 0 = x at hx hx32
      have HX := Lib.hid hxe; clear hxe
      go_wp2
      go_end0
      refine ⟨(x + carry) / 4294967296, o.set (j + lv.length) ((x + carry) % 4294967296), by omega, rfl, ?_, by simpa using HO.out, hd.set _ _ (by omega), ?_, ?_, HOn.out.setCell _ _⟩
      · exact HB.out.set _ ((x + carry) % 4294967296)
      · intro i hi
        rw [ldigit_set_ne _ _ _ _ (by omega)]
        exact HZ.out i (by omega)
      · have h1 := HV.out
        have h2 := HZ.out (j + lv.length) (Or.inr (Nat.le_refl _))
        rw [HX.out] at h2
        rw [List.take_of_length_le (Nat.le_refl _)] at h1
        rw [vl_seg_set _ _ _ _ _ (by have := HO.out; have := HLEN.out; omega), vl_seg_succ, ← h2, Nat.pow_succ]
        have h3 := Nat.mod_add_div (x + carry) 4294967296
        generalize (x + carry) / 4294967296 = q at *
        generalize (x + carry) % 4294967296 = r at *
        generalize 4294967296 ^ lv.length = B at *
        have h4 : B * (r + 4294967296 * q) = B * (x + carry) := by rw [h3]
        clear h3
        grind

#print axioms take_any
#print axioms give_any
end Go.Proofs.YtmbgohaljiiigaaGreatDoor
