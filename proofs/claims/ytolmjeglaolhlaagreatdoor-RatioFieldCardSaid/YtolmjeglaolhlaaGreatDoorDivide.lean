/- The contract of nat.divide: quotient and rest. -/
import Derived.Test.YtolmjeglaolhlaaGreatDoorLims
import Derived.Test.YtolmjeglaolhlaaGreatDoorShifts
import Derived.Test.YtolmjeglaolhlaaGreatDoorTake
import Derived.Test.YtolmjeglaolhlaaGreatDoorPlain
import Derived.Test.YtolmjeglaolhlaaGreatDoorShelf
import Derived.StillTailTactics
namespace Go.Proofs.YtolmjeglaolhlaaGreatDoor
open Go.RowKit Num

/-- What nat.divide leaves. -/
def DivPost (A D : Nat) (na nb : Nat) (w : World) (e : Ending) (w' : World) : Prop :=
  ∃ (vq vr : Value) (lq lr : List Nat), e = .returned (.tuple #[vq, vr]) ∧ Sl .u32 w' vq lq ∧ Sl .u32 w' vr lr ∧ Dig 4294967296 lq ∧ Dig 4294967296 lr ∧ Tr lq ∧ Tr lr ∧ vl 4294967296 lq = A / D ∧ vl 4294967296 lr = A % D ∧
    lq.length ≤ na ∧ lr.length ≤ nb ∧ Below w.heap.size w w'

set_option maxRecDepth 100000 in
set_option maxHeartbeats 800000 in
theorem divide_lt {va vb : Value} {la lb : List Nat} {w : World} (ha : Sl .u32 w va la) (hb : Sl .u32 w vb lb) (da : Dig 4294967296 la) (db : Dig 4294967296 lb) (ta : Tr la) (tb : Tr lb) (hlt : vl 4294967296 la < vl 4294967296 lb) :
    Calls Tryz.prog 64 #[va, vb] w (DivPost (vl 4294967296 la) (vl 4294967296 lb) la.length lb.length w) := by
  have hll : la.length ≤ lb.length := by
    rcases Nat.lt_or_ge lb.length la.length with h | h
    · have := vl_lt_of_length (by decide) db ta h; omega
    · exact h
  have hc := compare_any ha hb da db ta tb
  rw [cmpZ_lt hlt] at hc
  have HC := Lib.hid hc; have HLT := Lib.hid hlt
  clear hc hlt
  go_enter Tryz.func64, Tryz.ntmps64
  go_wp2_with fail
  refine HC.out.mono ?_
  rintro e w' ⟨rfl, hbel⟩
  go_wp2_with fail
  go_ret2
  exact ⟨.slice none 0 0, va, [], la, rfl, Sl.nil _ _ _ _ (by decide), ha.below hbel, Dig.nil _, da, Tr.nil, ta, (Nat.div_eq_of_lt HLT.out).symm, (Nat.mod_eq_of_lt HLT.out).symm, by simp, hll, hbel⟩

set_option maxRecDepth 100000 in
set_option maxHeartbeats 800000 in
theorem divide_short {va vb : Value} {la lb : List Nat} {w : World} (ha : Sl .u32 w va la) (hb : Sl .u32 w vb lb) (da : Dig 4294967296 la) (db : Dig 4294967296 lb) (ta : Tr la) (tb : Tr lb) (hle : vl 4294967296 lb ≤ vl 4294967296 la)
    (h1 : lb.length = 1) (hsz : la.length ≤ 1073741824) :
    Calls Tryz.prog 64 #[va, vb] w (DivPost (vl 4294967296 la) (vl 4294967296 lb) la.length lb.length w) := by
  obtain ⟨d, rfl⟩ : ∃ d, lb = [d] := List.length_eq_one_iff.1 h1
  have hd0 : d ≠ 0 := by
    intro e; subst e; exact tb rfl
  have hd32 : d < 4294967296 := db d (by simp)
  have hvd : vl 4294967296 [d] = d := by simp
  have hc := compare_any ha hb da db ta tb
  have hcz : 0 ≤ cmpZ (vl 4294967296 la) (vl 4294967296 [d]) := by unfold cmpZ; rw [if_neg (by omega)]; split <;> decide
  rw [hvd]
  have hsh := fun w' (h : Below w.heap.size w w') => short_any d (ha.below h) da (by omega) hd32 hsz
  obtain ⟨ab, cb, rfl, hcb, _, hb⟩ := hb
  obtain ⟨b, off, rfl, hbl, hrow⟩ := hb (by simp)
  have hx := hrow 0 (by simp)
  clear hrow hb h1
  simp only [List.length_singleton, Nat.add_zero, List.getD_cons_zero] at *
  generalize hz : cmpZ (vl 4294967296 la) (vl 4294967296 [d]) = z at hc hcz
  have HC := Lib.hid hc; have HSH := Lib.hid hsh
  clear hc hsh hz hvd hle
  go_enter Tryz.func64, Tryz.ntmps64
  go_wp2_with fail
  refine HC.out.mono ?_
  rintro e w' ⟨rfl, hbel⟩
  obtain ⟨hcc, hff⟩ := bcell hbel
  have hx1 : w'.cell? ⟨b, off, none⟩ = some (.int .u32 (d : Int)) := by rw [hcc b off hbl]; exact hx
  clear hcc hff
  have HBel := Lib.hid hbel; clear hbel
  go_wp2_with fail
  refine (HSH.out _ HBel.out).mono ?_
  rintro e w2 ⟨vq, lq, rfl, hq, hdq, htq, hvq, hlq, hbel2⟩
  have HBel2 := Lib.hid (HBel.out.trans (hbel2.mono HBel.out.size)); clear hbel2
  have hrlt := Nat.mod_lt (vl 4294967296 la) (show 0 < d by omega)
  generalize hre : vl 4294967296 la % d = r at hrlt
  have hsl : Sl .u32 (w2.alloc (.cells #[.int .u32 (r : Int)] 30)) (.slice (some ⟨w2.heap.size, 0, none⟩) 1 1) [r] := by
    have h := Blk.new w2 30 (ints .u32 [r])
    exact h.row.sl h.lt 1 (by simp) (by decide)
  have HSL := Lib.hid hsl; clear hsl
  have HRE := Lib.hid hre; clear hre
  go_wp2_with fail
  refine (trim_any (b := 4294967296) HSL.out).mono ?_
  rintro e w' ⟨v', l', rfl, hs', hd', ht', hv', hl', rfl⟩
  go_wp2_with fail
  go_ret2
  have hb3 : Below w2.heap.size w2 (w2.alloc (.cells #[.int .u32 (r : Int)] 30)) := (Below.refl _ _).alloc (Nat.le_refl _) _
  refine ⟨vq, v', lq, l', rfl, hq.below hb3, hs', hdq, hd' (Dig.cons (by omega) (Dig.nil _)), htq, ht', hvq, by rw [hv', HRE.out]; simp, hlq, hl', HBel2.out.trans (hb3.mono HBel2.out.size)⟩

/-- Between two rounds. -/
def DivRel (w : World) (ub vb qb U N M : Nat) (lv : List Nat) (i : Value) (wr : World) : Prop :=
  ∃ (k : Nat) (z : Int) (o qs : List Nat), k ≤ M ∧ i = .int .i64 z ∧ z = (k : Int) - 1 ∧ Blk wr ub 30 (ints .u32 o) ∧ Blk wr qb 30 (ints .u32 qs) ∧ vb < wr.heap.size ∧ Row .u32 wr vb 0 lv ∧ o.length = N ∧ qs.length = M ∧
    Dig 4294967296 o ∧ Dig 4294967296 qs ∧ Knuth U lv o qs k ∧ Below w.heap.size w wr

theorem DivRel.step {w w5 : World} {ub vb qb U N M j q : Nat} {lv o1 qs : List Nat} (hub : w.heap.size ≤ ub) (huv : ub < vb) (hvq : vb < qb) (hB5 : Blk w5 ub 30 (ints .u32 o1)) (hBq5 : Blk w5 qb 30 (ints .u32 qs)) (hvb5 : vb < w5.heap.size)
    (hrow5 : Row .u32 w5 vb 0 lv) (ho1 : o1.length = N) (hql : qs.length = M) (hj : j < M) (hdo1 : Dig 4294967296 o1) (hdq : Dig 4294967296 qs) (hq : q ≤ 4294967295) (hk : Knuth U lv o1 (qs.set j q) j) (hbel5 : Below w.heap.size w w5) :
    DivRel w ub vb qb U N M lv (.int .i64 ((j : Int) - 1)) (w5.setCell ⟨qb, j, none⟩ (.int .u32 (q : Int))) := by
  have hb : Below qb w5 (w5.setCell ⟨qb, j, none⟩ (.int .u32 (q : Int))) := (Below.refl _ _).setCell (p := ⟨qb, j, none⟩) (Nat.le_refl _) _
  exact ⟨j, _, o1, qs.set j q, by omega, rfl, rfl, hB5.below (by omega) hb, hBq5.set _ _, by simpa using hvb5, hrow5.below hvq hb, ho1, by simpa using hql, hdo1, hdq.set _ _ (by omega), hk, hbel5.setCell (by simp; omega) _⟩

set_option maxRecDepth 100000 in
set_option maxHeartbeats 1600000 in
theorem divide_long {va vb : Value} {la lb : List Nat} {w : World} (ha : Sl .u32 w va la) (hb : Sl .u32 w vb lb) (da : Dig 4294967296 la) (db : Dig 4294967296 lb) (ta : Tr la) (tb : Tr lb) (hle : vl 4294967296 lb ≤ vl 4294967296 la)
    (m : Nat) (hlb : lb.length = m + 2) (hsz : la.length ≤ 1073741824) :
    Calls Tryz.prog 64 #[va, vb] w (DivPost (vl 4294967296 la) (vl 4294967296 lb) la.length lb.length w) := by
  have hll : lb.length ≤ la.length := by
    rcases Nat.lt_or_ge la.length lb.length with h | h
    · have := vl_lt_of_length (by decide) da tb h; omega
    · exact h
  have hd0 : lb.getD (m + 1) 0 ≠ 0 := by have := tb.last (by omega); rwa [hlb] at this
  have hd32 := db.get (by decide) (m + 1)
  have hbb := Lib.bitLenAux_bounds 64 (lb.getD (m + 1) 0) (by omega) hd0
  have hbl := Lib.bitLen_le (lb.getD (m + 1) 0) 32 (by omega) (by omega)
  have hc := compare_any ha hb da db ta tb
  have hcz : 0 ≤ cmpZ (vl 4294967296 la) (vl 4294967296 lb) := by unfold cmpZ; rw [if_neg (by omega)]; split <;> decide
  have hlz := Tryz.bits_LeadingZeros32 ((lb.getD (m + 1) 0 : Nat) : Int)
  simp only [Int.toNat_natCast] at hlz
  obtain ⟨e, hE⟩ : ∃ e, e = Lib.bitLen (lb.getD (m + 1) 0) := ⟨_, rfl⟩
  obtain ⟨s, hs⟩ : ∃ s : Nat, s + e = 32 := ⟨32 - e, by omega⟩
  rw [← hE] at hlz hbl
  have hbb1 : 1 ≤ e ∧ 2 ^ (e - 1) ≤ lb.getD (m + 1) 0 ∧ lb.getD (m + 1) 0 < 2 ^ e := by rw [hE]; exact hbb
  rw [show (32 : Int) - (e : Int) = (s : Int) by omega] at hlz
  have hSb := hb
  obtain ⟨ab, cb, rfl, hcb, _, hb⟩ := hb
  obtain ⟨b, off, rfl, hblk, hrow⟩ := hb (by omega)
  have hx := hrow (m + 1) (by omega)
  obtain ⟨n, hn⟩ : ∃ n, n = lb.length := ⟨_, rfl⟩
  rw [← hn] at hc hSb hcb ⊢
  have hn2 : 2 ≤ n := by omega
  have hnl : n ≤ la.length := by omega
  obtain ⟨a1, ha1, ha1'⟩ : ∃ i : Nat, (n : Int) - 1 = (i : Int) ∧ i = n - 1 := ⟨n - 1, by omega, rfl⟩
  rw [show m + 1 = a1 by omega] at hx
  have hc1 : a1 < n := by omega
  have HA1 := Lib.hid ha1'; clear ha1'
  generalize hde : lb.getD (m + 1) 0 = d at *
  rw [show a1 = m + 1 by have := HA1.out; omega, hde, show m + 1 = a1 by have := HA1.out; omega] at hx
  generalize hz : cmpZ (vl 4294967296 la) (vl 4294967296 lb) = z at hc hcz
  have h0d : 0 ≤ (d : Int) := by omega
  have h1d : (d : Int) ≤ 4294967295 := by omega
  have hs32 : s < 32 := by omega
  have hup1 := fun w' (h : Below w.heap.size w w') => up_any s (ha.below h) da hs32 hsz
  have hup2 := fun w' (h : Below w.heap.size w w') => up_any s (hSb.below h) db hs32 (by omega)
  rw [← hn] at hup2
  have hne1 : ((n : Int) == 1) = false := by rw [beq_eq_false_iff_ne]; omega
  have HC := Lib.hid hc; have HN := Lib.hid hn; have HLB := Lib.hid hlb; have HDE := Lib.hid hde; have HE := Lib.hid hE; have HS := Lib.hid hs; have HLZ := Lib.hid hlz
  have HBB := Lib.hid hbb1; have HU1 := Lib.hid hup1; have HU2 := Lib.hid hup2; have HLE := Lib.hid hle
  clear hc hn hlb hde hE hs hlz hbb1 hbb hup1 hup2 hrow hb hSb ha hz hle hd0
  go_enter Tryz.func64, Tryz.ntmps64
  go_wp2_with fail
  refine HC.out.mono ?_
  rintro e' w1 ⟨rfl, hbel⟩
  have hx1 : w1.cell? ⟨b, off + a1, none⟩ = some (.int .u32 (d : Int)) := by rw [hbel.cell (p := ⟨b, off + a1, none⟩) hblk]; exact hx
  have HBel1 := Lib.hid hbel; clear hbel hx
  go_wp2_with fail
  refine (HLZ.out _ h0d h1d).mono ?_
  rintro e' w' ⟨rfl, rfl⟩
  clear hx1
  go_wp2_with fail
  refine (HU1.out _ HBel1.out).mono ?_
  rintro e' w2 ⟨U0, rfl, hU, hUl, hUd, hUv, hbel⟩
  have HBel2 := Lib.hid (HBel1.out.trans (hbel.mono HBel1.out.size))
  have HU := Lib.hid hU; have HUl := Lib.hid hUl; have HUd := Lib.hid hUd; have HUv := Lib.hid hUv; have HB12 := Lib.hid hbel
  clear hU hUl hUd hUv hbel
  go_wp2_with fail
  refine (HU2.out _ HBel2.out).mono ?_
  rintro e' w3 ⟨V0, rfl, hV, hVl, hVd, hVv, hbel⟩
  have HBel3 := Lib.hid (HBel2.out.trans (hbel.mono HBel2.out.size))
  have HV := Lib.hid hV; have HVl := Lib.hid hVl; have HVd := Lib.hid hVd; have HVv := Lib.hid hVv; have HB23 := Lib.hid hbel
  clear hV hVl hVd hVv hbel
  go_wp2_with fail
  have hnorm := normal (m := m) (lv := V0.take (tlen V0 (n + 1))) HLB.out db HS.out HBB.out.1 (by have := HBB.out.2.1; have := HDE.out; have := HN.out; have := HLB.out; simp_all) (by have := HBB.out.2.2; have := HDE.out; have := HN.out; have := HLB.out; simp_all)
    (HVd.out.take _) (tlen_tr _ _ (by have := HVl.out; have := HN.out; omega)) (by rw [← HVv.out, ← tlen_vl 4294967296 V0, HVl.out, HN.out])
  have htl : tlen V0 (n + 1) = n := by
    have h1 := hnorm.1
    have h2 := tlen_le V0 (n + 1)
    rw [List.length_take, Nat.min_eq_left (by have := HVl.out; have := HN.out; omega)] at h1
    have := HN.out; have := HLB.out
    omega
  rw [htl] at hnorm
  have htw := trim_walk (some ⟨w2.heap.size, 0, none⟩) (n + 1) (n + 1) V0 w3 (by have := HVl.out; have := HN.out; omega) (Nat.le_refl _) (by omega) (fun _ => ⟨_, _, rfl, HV.out.lt, HV.out.row⟩)
  rw [htl] at htw
  have hvl2 : vl 4294967296 (V0.take n) = vl 4294967296 lb * 2 ^ s := by
    have h1 := tlen_vl 4294967296 V0
    rw [show V0.length = n + 1 by have := HVl.out; have := HN.out; omega, htl] at h1
    rw [h1, HVv.out]
  have HVL := Lib.hid hvl2; clear hvl2
  have hge : 4294967296 ^ (m + 1) ≤ vl 4294967296 lb := by
    have := tb.ge (b := 4294967296) (by have := HLB.out; omega)
    rw [show lb.length - 1 = m + 1 by have := HLB.out; omega] at this
    exact this
  have HGE := Lib.hid hge; clear hge
  have HTW := Lib.hid htw; have HNORM := Lib.hid hnorm
  clear htw hnorm htl
  refine HTW.out.mono ?_
  rintro e' w' ⟨rfl, rfl⟩
  obtain ⟨M, hM⟩ : ∃ M : Nat, (la.length : Int) + 1 - (n : Int) = (M : Int) := ⟨la.length + 1 - n, by omega⟩
  have hM1 : M + n ≤ la.length + 1 := by omega
  have hM2 : la.length + 1 ≤ M + n := by omega
  have hmk := run_make_row' (P := Tryz.prog) 80 30 (.int .u32 0) 4 Tryz.underlying80 info_u32 rfl .i64 .i64 M (by omega) (by omega)
  go_wp2_with fail
  have hub : w.heap.size ≤ w'.heap.size := HBel1.out.size
  have huv : w'.heap.size < w2.heap.size := HU.out.lt
  have hvq : w2.heap.size < w3.heap.size := HV.out.lt
  go_loopw [12] (fun i wr => DivRel w w'.heap.size w2.heap.size w3.heap.size (vl 4294967296 la * 2 ^ s) (la.length + 1) M (V0.take n) i wr) (fun i _ => (intOf i + 1).toNat)
  case atStart =>
    have hq3 := Blk.made w3 .u32 M 30
    have hb3 : Below w3.heap.size w3 (w3.alloc (.cells (madeCells #[Value.int .u32 0] M) 30)) := (Below.refl _ _).alloc (Nat.le_refl _) _
    refine ⟨M, _, U0, List.replicate M 0, Nat.le_refl _, rfl, rfl, (HU.out.below HU.out.lt HB23.out).below (Nat.lt_of_lt_of_le HU.out.lt HB23.out.size) hb3, hq3, by simp; omega, ((HV.out.row.take n).below HV.out.lt hb3), HUl.out, by simp, HUd.out, Dig.replicate (by decide) _, ?_, HBel3.out.trans (hb3.mono HBel3.out.size)⟩
    exact Knuth.start (m := m) HVL.out (by have := HN.out; have := HLB.out; omega) da HGE.out HUl.out HUv.out
  case round =>
    obtain ⟨k, z', o, qs, hk, rfl, hzk, hB, hBq, hvb, hrow, ho, hql, hdo, hdq, hkn, hbel⟩ := hrel
    have HBo := Lib.hid hB; have HBq := Lib.hid hBq; have HRow := Lib.hid hrow; have HOl := Lib.hid ho; have HQl := Lib.hid hql; have HKn := Lib.hid hkn; have HBel := Lib.hid hbel
    clear hB hBq hrow ho hql hkn hbel
    have hlv : (V0.take n).length = n := by have := HNORM.out.1; have := HN.out; have := HLB.out; omega
    have HLV := Lib.hid hlv; clear hlv
    have hdv : Dig 4294967296 (V0.take n) := HVd.out.take n
    cases k with
    | succ j =>
      obtain rfl : z' = (j : Int) := by omega
      clear hzk
      obtain ⟨i0, hi0, hi0'⟩ : ∃ i : Nat, (j : Int) + (n : Int) = (i : Int) ∧ i = j + n := ⟨j + n, by omega, rfl⟩
      obtain ⟨i1, hi1, hi1'⟩ : ∃ i : Nat, (i0 : Int) - 1 = (i : Int) ∧ i = j + n - 1 := ⟨j + n - 1, by omega, rfl⟩
      obtain ⟨i2, hi2, hi2'⟩ : ∃ i : Nat, (i0 : Int) - 2 = (i : Int) ∧ i = j + n - 2 := ⟨j + n - 2, by omega, rfl⟩
      obtain ⟨a2, ha2, ha2'⟩ : ∃ i : Nat, (n : Int) - 2 = (i : Int) ∧ i = n - 2 := ⟨n - 2, by omega, rfl⟩
      have hb0 : i0 < la.length + 1 := by omega
      have hb1 : i1 < la.length + 1 := by omega
      have hb2 : i2 < la.length + 1 := by omega
      have hc2 : a2 < n := by omega
      have HI := Lib.hid (And.intro hi0' (And.intro hi1' (And.intro hi2' (And.intro HA1.out ha2'))))
      clear hi0' hi1' hi2' ha2'
      have hx0 := HBo.out.get i0 (by have := HOl.out; omega)
      have hx1 := HBo.out.get i1 (by have := HOl.out; omega)
      have hx2 := HBo.out.get i2 (by have := HOl.out; omega)
      have hy1 := HRow.out a1 (by have := HLV.out; omega)
      have hy2 := HRow.out a2 (by have := HLV.out; omega)
      simp only [Nat.zero_add] at hy1 hy2
      have hxx0 := hdo.get (by decide) i0
      have hxx1 := hdo.get (by decide) i1
      have hxx2 := hdo.get (by decide) i2
      have hyy1 := hdv.get (by decide) a1
      have hyy2 := hdv.get (by decide) a2
      generalize hux0 : o.getD i0 0 = u0 at hx0 hxx0
      generalize hux1 : o.getD i1 0 = u1 at hx1 hxx1
      generalize hux2 : o.getD i2 0 = u2 at hx2 hxx2
      generalize hvy1 : (V0.take n).getD a1 0 = v0 at hy1 hyy1
      generalize hvy2 : (V0.take n).getD a2 0 = v1 at hy2 hyy2
      have HUX := Lib.hid (And.intro hux0 (And.intro hux1 (And.intro hux2 (And.intro hvy1 hvy2))))
      clear hux0 hux1 hux2 hvy1 hvy2
      have hb0i : (i0 : Int) < (la.length : Int) + 1 := by omega
      have hb1i : (i1 : Int) < (la.length : Int) + 1 := by omega
      have hb2i : (i2 : Int) < (la.length : Int) + 1 := by omega
      have hw0 : IntKind.i64.wrap (i0 : Int) = (i0 : Int) := IntWalk.i64_in _ (by omega)
      have hw1 : IntKind.i64.wrap (i1 : Int) = (i1 : Int) := IntWalk.i64_in _ (by omega)
      have hw2 : IntKind.i64.wrap (i2 : Int) = (i2 : Int) := IntWalk.i64_in _ (by omega)
      have hw3 : IntKind.i64.wrap (a1 : Int) = (a1 : Int) := IntWalk.i64_in _ (by omega)
      have hw4 : IntKind.i64.wrap (a2 : Int) = (a2 : Int) := IntWalk.i64_in _ (by omega)
      go_wp2
      go_still_tail 32, (by kernel_rfl)
      change wpList _ _ _ _ _ wr.drew
      clear hw0 hw1 hw2 hw3 hw4 hx0 hx1 hx2 hy1 hy2
      have htop : u0 ≤ v0 := by
        have h1 := top_le (m := m) HKn.out.less HNORM.out.1 hdv (by have := HOl.out; have := HLV.out; omega)
        obtain ⟨e1, e2, e3, e4, e5⟩ := HI.out
        obtain ⟨g1, g2, g3, g4, g5⟩ := HUX.out
        rw [show j + (m + 2) = i0 by have := HN.out; have := HLB.out; omega, show m + 1 = a1 by have := HN.out; have := HLB.out; omega, g1, g4] at h1
        exact h1
      have hv31 : 2147483648 ≤ v0 := by
        have h1 := HNORM.out.2.1
        obtain ⟨e1, e2, e3, e4, e5⟩ := HI.out
        obtain ⟨g1, g2, g3, g4, g5⟩ := HUX.out
        rw [show m + 1 = a1 by have := HN.out; have := HLB.out; omega, g4] at h1
        exact h1
      have hest := estimate_any u0 u1 u2 v0 v1 0 wr.drew htop hxx1 hxx2 hyy1 hv31 hyy2
      have HEst := Lib.hid hest; clear hest
      go_wp2_with fail
      refine HEst.out.mono ?_
      rintro e' w4 ⟨q, rfl, hend, hbel4d⟩
      have hbel4 : Below wr.heap.size wr w4 := ((Below.refl _ _).drew).trans hbel4d
      clear hbel4d
      have hq95 : q ≤ 4294967295 := hend.1
      have hB4 := HBo.out.below (w' := w4) HBo.out.lt hbel4
      have hBq4 := HBq.out.below (w' := w4) HBq.out.lt hbel4
      have hrow4 := HRow.out.below (w' := w4) hvb hbel4
      have hvb4 : w2.heap.size < w4.heap.size := Nat.lt_of_lt_of_le hvb hbel4.size
      have hqb4 : w3.heap.size < w4.heap.size := Nat.lt_of_lt_of_le HBq.out.lt hbel4.size
      have hub4 : w'.heap.size < w4.heap.size := Nat.lt_of_lt_of_le HBo.out.lt hbel4.size
      have hw4 : w.heap.size ≤ w4.heap.size := Nat.le_trans HBel.out.size hbel4.size
      have hbw4 := HBel.out.trans (hbel4.mono HBel.out.size)
      have hij : i0 + 1 - j = n + 1 := by omega
      have htk := take_any (lv := V0.take n) (vv := .slice (some ⟨w2.heap.size, 0, none⟩) n (n + 1)) w'.heap.size j (la.length + 1 - j) q hB4 hdo w2.heap.size 0 (n + 1) (by rw [HLV.out]) hvb4 (by omega) hrow4 hdv (by have := HLV.out; have := HOl.out; omega) (by have := HOl.out; omega) (by have := HLV.out; omega) (by omega) hq95
      rw [HLV.out] at htk
      have hde := digit_est (q := q) HKn.out.less HNORM.out.1 hdo hdv (by have := HOl.out; have := HLV.out; omega) HNORM.out.2.1 hq95
      have hend' := hend.2
      obtain ⟨e1, e2, e3, e4, e5⟩ := HI.out
      obtain ⟨g1, g2, g3, g4, g5⟩ := HUX.out
      rw [show j + (m + 2) = i0 by have := HN.out; have := HLB.out; omega, show j + (m + 1) = i1 by have := HN.out; have := HLB.out; omega, show j + m = i2 by have := HN.out; have := HLB.out; omega, show m + 1 = a1 by have := HN.out; have := HLB.out; omega, show (V0.take n).getD m 0 = v1 by rw [show m = a2 by have := HN.out; have := HLB.out; omega]; exact g5, g1, g2, g3, g4] at hde
      have hde2 := hde hend'.1 hend'.2
      have HTK := Lib.hid htk; have HDE2 := Lib.hid hde2; have HIJ := Lib.hid hij; have HBQ4 := Lib.hid hBq4; have HRow4 := Lib.hid hrow4; have HBW4 := Lib.hid hbw4
      clear htk hde hde2 hij hBq4 hrow4 hbw4 hB4 hend hend' e1 e2 e3 e4 e5 g1 g2 g3 g4 g5 hbel4
      go_wp2_with fail
      rw [HIJ.out]
      refine HTK.out.mono ?_
      rintro e' w5 ⟨t, o1, ht, rfl, hB5, hol5, hdo5, hsame5, hval5, hon5⟩
      have hV0 : 0 < vl 4294967296 (V0.take n) := by have := HKn.out.less; omega
      have hBq5 := hon5.blk HBQ4.out (by omega)
      have hrow5 := hon5.row HRow4.out hvb4 (by omega)
      have hbw5 := hon5.below HBW4.out hw4 hub
      have hvb5 : w2.heap.size < w5.heap.size := Nat.lt_of_lt_of_le hvb4 hon5.size
      have hw5 : w.heap.size ≤ w5.heap.size := Nat.le_trans hw4 hon5.size
      have hqc := hBq5.get j (by have := HQl.out; omega)
      have hqf := hBq5.free j
      have hmn : n = m + 2 := by have := HN.out; have := HLB.out; omega
      have hnl3 : n + 1 = m + 3 := by omega
      rw [hnl3] at hval5
      have hS1 := vl_lt (hdo5.seg j (m + 3))
      rw [seg_length _ _ _ (by have := HOl.out; omega)] at hS1
      have hVP : vl 4294967296 (V0.take n) ≤ 4294967296 ^ (m + 3) := by
        have h1 := vl_lt hdv
        rw [HLV.out] at h1
        have h2 : (4294967296 : Nat) ^ n ≤ 4294967296 ^ (m + 3) := Nat.pow_le_pow_right (by omega) (by omega)
        omega
      have HB5 := Lib.hid hB5; have HO5 := Lib.hid hol5; have HD5 := Lib.hid hdo5; have HSame := Lib.hid hsame5; have HVal := Lib.hid hval5
      have HBq5 := Lib.hid hBq5; have HRow5 := Lib.hid hrow5; have HBW5 := Lib.hid hbw5; have HNM := Lib.hid hmn; have HS1 := Lib.hid hS1; have HVP := Lib.hid hVP
      clear hB5 hol5 hdo5 hsame5 hval5 hBq5 hrow5 hbw5 hmn hnl3 hS1 hVP hon5
      rcases (show t = 0 ∨ t = 1 by omega) with rfl | rfl
      · have hfix := digit_fix0 hV0 HDE2.out.2.1 (by have := HVal.out; rw [Nat.zero_mul, Nat.add_zero] at this; exact this)
        have HF := Lib.hid hfix; clear hfix
        go_wp2
        refine ⟨DivRel.step hub huv hvq HB5.out HBq5.out hvb5 HRow5.out (HO5.out.trans HOl.out) HQl.out (by omega) HD5.out hdq hq95 ?_ HBW5.out, by simp [intOf]⟩
        rw [HF.out]
        exact HKn.out.next (m := m) HNORM.out.1 hdv (by have := HOl.out; have := HLV.out; omega) HO5.out (by have := HQl.out; omega) (by rw [HLV.out]; exact HSame.out) (by rw [← HF.out]; have := HVal.out; rw [Nat.zero_mul, Nat.add_zero] at this; exact this)
      · rw [Nat.one_mul] at HVal
        have hpr : ∀ (S2 t2 : Nat), S2 < 4294967296 ^ (m + 3) → t2 ≤ 1 → S2 + t2 * 4294967296 ^ (m + 3) = vl 4294967296 (seg o1 j (m + 3)) + vl 4294967296 (V0.take n) →
            1 ≤ q ∧ q - 1 = vl 4294967296 (seg o j (m + 3)) / vl 4294967296 (V0.take n) ∧ S2 + vl 4294967296 (seg o j (m + 3)) / vl 4294967296 (V0.take n) * vl 4294967296 (V0.take n) = vl 4294967296 (seg o j (m + 3)) :=
          fun S2 t2 a b c => digit_fix1 hV0 HDE2.out.2.2 HS1.out HVal.out a HVP.out c b
        have hq1 : 1 ≤ q := by
          have h1 := HVal.out
          have h2 := HS1.out
          rcases Nat.eq_zero_or_pos q with h0 | h0
          · subst h0; rw [Nat.zero_mul] at h1; omega
          · exact h0
        have hgv := give_any (lv := V0.take n) (vv := .slice (some ⟨w2.heap.size, 0, none⟩) n (n + 1)) w'.heap.size j (la.length + 1 - j) HB5.out HD5.out w2.heap.size 0 (n + 1) (by rw [HLV.out]) hvb5 (by omega) HRow5.out hdv (by have := HLV.out; have := HOl.out; have := HO5.out; omega) (by have := HOl.out; have := HO5.out; omega) (by have := HLV.out; omega) (by omega)
        rw [HLV.out] at hgv
        have HGV := Lib.hid hgv; have HPR := Lib.hid hpr
        clear hgv hpr hqc hqf
        go_wp2_with fail
        rw [HIJ.out]
        refine HGV.out.mono ?_
        rintro e' w6 ⟨t2, o2, ht2, rfl, hB6, hol6, hdo6, hsame6, hval6, hon6⟩
        rw [show n + 1 = m + 3 by have := HNM.out; omega] at hval6
        have hS2 := vl_lt (hdo6.seg j (m + 3))
        rw [seg_length _ _ _ (by have := HOl.out; have := HO5.out; have := HNM.out; omega)] at hS2
        obtain ⟨_, hf1, hf2⟩ := HPR.out _ _ hS2 ht2 hval6
        have hBq6 := hon6.blk HBq5.out (by omega)
        have hrow6 := hon6.row HRow5.out hvb5 (by omega)
        have hbw6 := hon6.below HBW5.out hw5 hub
        have hvb6 : w2.heap.size < w6.heap.size := Nat.lt_of_lt_of_le hvb5 hon6.size
        have hqc := hBq6.get j (by have := HQl.out; omega)
        have hqf := hBq6.free j
        obtain ⟨q', hq', hq'2⟩ : ∃ q' : Nat, (q : Int) - 1 = (q' : Int) ∧ q' = q - 1 := ⟨q - 1, by omega, rfl⟩
        have hq'3 : q' ≤ 4294967295 := by omega
        have HB6 := Lib.hid hB6; have HO6 := Lib.hid hol6; have HD6 := Lib.hid hdo6; have HSame6 := Lib.hid hsame6
        have HBq6 := Lib.hid hBq6; have HRow6 := Lib.hid hrow6; have HBW6 := Lib.hid hbw6; have HF1 := Lib.hid hf1; have HF2 := Lib.hid hf2; have HQ' := Lib.hid hq'2
        clear hB6 hol6 hdo6 hsame6 hval6 hBq6 hrow6 hbw6 hf1 hf2 hq'2 hS2 hon6
        go_wp2
        refine ⟨DivRel.step hub huv hvq HB6.out HBq6.out hvb6 HRow6.out (HO6.out.trans (HO5.out.trans HOl.out)) HQl.out (by omega) HD6.out hdq hq'3 ?_ HBW6.out, by simp [intOf]⟩
        rw [HQ'.out, HF1.out]
        exact HKn.out.next (m := m) HNORM.out.1 hdv (by have := HOl.out; have := HLV.out; omega) (HO6.out.trans HO5.out) (by have := HQl.out; omega) (by rw [HLV.out]; exact fun i hi => (HSame6.out i hi).trans (HSame.out i hi)) HF2.out
    | zero =>
      obtain rfl : z' = -1 := by omega
      clear hzk
      have hslq : Sl .u32 wr.drew (.slice (some ⟨w3.heap.size, 0, none⟩) M M) qs := by
        have := HBq.out.row.sl HBq.out.lt M (by have := HQl.out; omega) (by omega)
        rw [HQl.out] at this
        exact this.drew
      have htq := tlen_tr qs qs.length (Nat.le_refl _)
      have htv := tlen_vl 4294967296 qs
      have htl := tlen_le qs qs.length
      rw [HQl.out] at htq htv htl
      have htwq := trim_walk (some ⟨w3.heap.size, 0, none⟩) M M qs wr.drew (by have := HQl.out; omega) (Nat.le_refl _) (by omega) (fun _ => ⟨_, _, rfl, HBq.out.lt, HBq.out.row⟩)
      have HTQ := Lib.hid htq; have HTV := Lib.hid htv; have HTL := Lib.hid htl; have HTWQ := Lib.hid htwq; have HSLQ := Lib.hid hslq
      clear htq htv htl htwq hslq
      have hni1 : (n : Int) ≤ (la.length : Int) + 1 := by omega
      have hni2 : n ≤ la.length + 1 := by omega
      have hni3 : 0 ≤ (n : Int) := by omega
      go_wp2
      refine wp_region_still_tail 6 (by kernel_rfl) (by kernel_rfl) ?_
      simp only [List.take_succ_cons, List.take_zero, List.drop_succ_cons, List.drop_zero]
      still_step
      still_call (HTWQ.out.mono fun _ _ ⟨he, hw⟩ => ⟨he, hw.symm⟩)
      repeat still_step
      refine wpStill_nil ?_
      change wpList _ _ _ _ _ wr.drew
      have htk : vl 4294967296 (o.take n) = vl 4294967296 o :=
        vl_take_of_zero _ _ _ fun t h1 _ => zero_above HKn.out.less hdv t (by have := HLV.out; omega)
      have hon : (o.take n).length = n := by rw [List.length_take]; have := HOl.out; omega
      have hslu : Sl .u32 wr.drew (.slice (some ⟨w'.heap.size, 0, none⟩) n (la.length + 1)) (o.take n) := by
        have := (HBo.out.row.take n).sl HBo.out.lt (la.length + 1) (by omega) (by omega)
        rw [hon] at this
        exact this.drew
      have hdn := down_any s hslu (hdo.take n) hs32 (by omega)
      rw [htk, hon] at hdn
      have HDN := Lib.hid hdn
      clear hdn hslu hon htk
      go_wp2_with fail
      refine HDN.out.mono ?_
      rintro e' w7 ⟨vr, lr, rfl, hsr, hdr, htr, hvr, hlr, hb7⟩
      go_wp2_with fail
      go_ret2
      have hfin := HKn.out.fin HVL.out
      have hb8 : Below wr.heap.size wr w7 := ((Below.refl _ _).drew).trans hb7
      have hqlen : (qs.take (tlen qs M)).length = tlen qs M := by rw [List.length_take]; have := HTL.out; have := HQl.out; omega
      have hslq : Sl .u32 wr (.slice (some ⟨w3.heap.size, 0, none⟩) (tlen qs M) M) (qs.take (tlen qs M)) := by
        have := (HBq.out.row.take (tlen qs M)).sl HBq.out.lt M (by have := HTL.out; omega) (by omega)
        rw [hqlen] at this
        exact this
      exact ⟨_, vr, qs.take (tlen qs M), lr, rfl, hslq.below hb8, hsr, hdq.take _, hdr, HTQ.out, htr, by rw [HTV.out, hfin.1], by rw [hvr, hfin.2.1], by have := HTL.out; omega, by have := HN.out; omega, HBel.out.trans (hb8.mono HBel.out.size)⟩

/-- **nat.divide**: quotient and rest; the divisor is not 0. -/
theorem divide_any {va vb : Value} {la lb : List Nat} {w : World} (ha : Sl .u32 w va la) (hb : Sl .u32 w vb lb) (da : Dig 4294967296 la) (db : Dig 4294967296 lb) (ta : Tr la) (tb : Tr lb) (hpos : 0 < vl 4294967296 lb)
    (hsz : la.length ≤ 1073741824) :
    Calls Tryz.prog 64 #[va, vb] w (DivPost (vl 4294967296 la) (vl 4294967296 lb) la.length lb.length w) := by
  rcases Nat.lt_or_ge (vl 4294967296 la) (vl 4294967296 lb) with h | h
  · exact divide_lt ha hb da db ta tb h
  · rcases Nat.lt_trichotomy lb.length 1 with h1 | h1 | h1
    · have : lb = [] := List.length_eq_zero_iff.1 (by omega)
      subst this
      simp at hpos
    · exact divide_short ha hb da db ta tb h h1 hsz
    · exact divide_long ha hb da db ta tb h (lb.length - 2) (by omega) hsz

#print axioms divide_any
end Go.Proofs.YtolmjeglaolhlaaGreatDoor
