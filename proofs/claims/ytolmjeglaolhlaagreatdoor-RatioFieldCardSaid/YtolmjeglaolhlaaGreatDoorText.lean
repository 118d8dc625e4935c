/- The contract of nat.Text: the number in decimal. -/
import Derived.Test.YtolmjeglaolhlaaGreatDoorNats
import Derived.Test.YtolmjeglaolhlaaGreatDoorLims
import Derived.Test.YtolmjeglaolhlaaGreatDoorPlain
import Derived.Deep.LoopGhost
namespace Go.Proofs.YtolmjeglaolhlaaGreatDoor
open Go.RowKit Num

/-- The library's table of powers of ten lies in memory. -/
structure Env (w : World) : Prop where
  tab : Lib.TabIs Tryz.prog w "internal/strconv.uint64pow10" .u64 Lib.pow10Tab
  glob : 8 ≤ w.heap.size

theorem gPow10 : Tryz.prog.globalNamed "internal/strconv.uint64pow10" = some 3 := by kernel_rfl

theorem Env.below {w w' : World} (h : Env w) (hb : Below w.heap.size w w') : Env w' :=
  ⟨var?_below hb gPow10 (by have := h.glob; omega) h.tab, by have := h.glob; have := hb.size; omega⟩

theorem below_grow (w : World) (k : Nat) (os : Array Obj) : Below w.heap.size w (Go.Sort.grow (w.drewN k) os) :=
  ⟨rfl, rfl, rfl, by show w.heap.size ≤ (w.heap ++ os).size; simp, fun i hi => by show (w.heap ++ os)[i]? = w.heap[i]?; rw [Array.getElem?_append, if_pos hi]⟩

/-- strconv.Itoa of a natural number. -/
theorem Itoa_nat (n : Nat) (w : World) (hn : n ≤ 9223372036854775807) (he : Env w) :
    Calls Tryz.prog 100 #[.int .i64 (n : Int)] w fun e w' => e = .returned (.string (DecS n)) ∧ Below w.heap.size w w' := by
  refine (Tryz.strconv_Itoa (n : Int) (by omega) (by omega) w he.tab).mono ?_
  rintro e w' ⟨rfl, k, os, rfl⟩
  rw [itoa_nat]
  exact ⟨rfl, below_grow w k os⟩

def TextRel (w : World) (V S : Nat) (g : Nat) (vl' vo : Value) (wr : World) : Prop :=
  ∃ (k : Nat) (l : List Nat) (out : ByteArray), vo = .string out ∧ Sl .u32 wr vl' l ∧ Dig 4294967296 l ∧ Tr l ∧ vl 4294967296 l = g ∧ V = g * 10 ^ (9 * k) + dval out.data.toList ∧ AllDig out.data.toList ∧ out.size = 9 * k ∧ (k = 0 ∨ g ≠ 0) ∧ l.length ≤ S ∧
    Below w.heap.size w wr

set_option maxRecDepth 100000 in
set_option maxHeartbeats 800000 in
/-- **nat.Text**. -/
theorem Text_any (s : ByteArray) (w : World) (hs : s.size ≤ 16777216) (he : Env w) :
    Calls Tryz.prog 59 #[.string s] w fun e w' => e = .returned (.string (DecS (SN s))) ∧ Below w.heap.size w w' := by
  have HE := Lib.hid he; clear he
  generalize hV : SN s = V
  have hVlt := SN_lt s
  rw [hV] at hVlt
  have HV := Lib.hid hV; have HVL := Lib.hid hVlt
  clear hV hVlt
  go_enter Tryz.func59, Tryz.ntmps59
  go_wp2_with fail
  refine (of_any s _ (by omega)).mono ?_
  rintro e w1 ⟨va, la, rfl, hsa, hda, hta, hva, hla, hb1⟩
  have HVA := Lib.hid hva; clear hva
  go_wp2_with fail
  go_loopg [3, 4] V (fun g l o wr => TextRel w V 16777216 g l o wr)
  case atStart => exact ⟨0, la, _, rfl, hsa, hda, hta, by rw [HVA.out, HV.out], by simp, AllDig.nil, rfl, Or.inl rfl, by omega, hb1⟩
  case round =>
    clear hsa hda hta hla HVA hb1
    obtain ⟨k, l, out, rfl, hsl, hdl, htl, hg, hval, hall, hsz, hk0, hll, hbel⟩ := hrel
    have HG := Lib.hid hg; have HVAL := Lib.hid hval; have HALL := Lib.hid hall; have HSZ := Lib.hid hsz; have HK0 := Lib.hid hk0; have HBel := Lib.hid hbel
    clear hg hval hall hsz hk0 hbel
    go_wp2_with fail
    refine (short_any 1000000000 hsl hdl (by decide) (by decide) (by omega)).mono ?_
    rintro e w2 ⟨vq, lq, rfl, hsq, hdq, htq, hvq, hlq, hb2⟩
    have hr := Nat.mod_lt (vl 4294967296 l) (show 0 < 1000000000 by decide)
    generalize hre : vl 4294967296 l % 1000000000 = r at hr
    have HR := Lib.hid hre; have HVQ := Lib.hid hvq; have HB2 := Lib.hid (HBel.out.trans (hb2.mono HBel.out.size))
    clear hre hvq hb2
    have hit := Itoa_nat r w2 (by omega) (HE.out.below HB2.out)
    have HIT := Lib.hid hit; clear hit
    go_wp2_with fail
    refine HIT.out.mono ?_
    rintro e w3 ⟨rfl, hb3⟩
    have HB3 := Lib.hid (HB2.out.trans (hb3.mono HB2.out.size))
    have hsq3 := hsq.below hb3
    clear hb3 hsq
    have hds : (DecS r).size ≤ 9 := by
      have := decD_length_le (n := r) (k := 9) (by omega) (by omega)
      show (decD r).toArray.size ≤ 9
      rw [List.size_toArray]; exact this
    have hds0 : 0 < (DecS r).size := by
      have := decD_length_pos r
      show 0 < (decD r).toArray.size
      rw [List.size_toArray]; exact this
    have hk : 9 * k ≤ 100000000 := by
      have := text_parts HVAL.out HK0.out HVL.out
      omega
    have hout : out.size ≤ 100000000 := by rw [HSZ.out]; exact hk
    clear hk
    have hsq4 := hsq3
    obtain ⟨aq, cq, rfl, hcq, _, _⟩ := hsq4
    rcases Nat.eq_zero_or_pos lq.length with h0 | h0
    · have h1 := List.length_eq_zero_iff.1 h0
      subst h1
      clear h0
      go_wp2
      go_ret
      have hg0 : gk = r := by
        have h2 := HVQ.out
        have h3 := HR.out
        have h4 := HG.out
        simp at h2
        omega
      have hfin := text_last HVAL.out HALL.out (by have := HSZ.out; simpa using this) HK0.out
      refine ⟨?_, HB3.out⟩
      show Ending.returned (Value.string (DecS r ++ out)) = Ending.returned (Value.string (DecS V))
      congr 2
      apply ByteArray.ext
      apply Array.ext'
      rw [ByteArray.data_append, Array.toList_append]
      show decD r ++ out.data.toList = decD V
      rw [← hfin, hg0]
    · obtain ⟨c, hc, hc2⟩ : ∃ c : Nat, (9 : Int) - ((DecS r).size : Int) = (c : Int) ∧ c = 9 - (decD r).length := ⟨9 - (DecS r).size, by omega, by show 9 - (decD r).toArray.size = _; rw [List.size_toArray]⟩
      have hc9 : c ≤ 9 := by omega
      obtain ⟨Z, hZ⟩ : ∃ Z : ByteArray, Z = ⟨(Lib.repeatL [48] c).toArray⟩ := ⟨_, rfl⟩
      have hrep := Tryz.strings_Repeat ⟨#[48]⟩ c w3 (by omega) (by show 1 * c ≤ _; omega)
      have hZ2 : (⟨(Lib.repeatL (⟨#[48]⟩ : ByteArray).data.toList c).toArray⟩ : ByteArray) = Z := hZ.symm
      rw [hZ2] at hrep
      have hZs : Z.size ≤ 9 := by
        rw [hZ]
        show (Lib.repeatL [48] c).toArray.size ≤ 9
        rw [List.size_toArray, (repeat_zero c).2.2]; exact hc9
      have HREP := Lib.hid hrep; have HZ := Lib.hid hZ; have HC := Lib.hid hc2
      clear hrep hZ hZ2 hc2
      have hne : ((lq.length : Int) == 0) = false := by rw [beq_eq_false_iff_ne]; omega
      go_wp2_with fail
      refine HREP.out.mono ?_
      rintro e w4 ⟨rfl, hb4⟩
      go_wp2_with fail
      have hpos2 : 0 < vl 4294967296 lq := htq.pos (by decide) h0
      have hg1 : gk % 1000000000 = r := by rw [← HG.out]; exact HR.out
      have hg2 : vl 4294967296 lq = gk / 1000000000 := by rw [← HG.out]; exact HVQ.out
      have hg3 : (decD r).length ≤ 9 := decD_length_le (by omega) (by omega)
      have hmid := text_mid (q := vl 4294967296 lq) (r := r) HVAL.out HALL.out (by have := HSZ.out; simpa using this) hg1 hg2 hg3
      have hlist : (Z ++ DecS r ++ out).data.toList = Lib.repeatL [48] (9 - (decD r).length) ++ decD r ++ out.data.toList := by
        rw [ByteArray.data_append, Array.toList_append, ByteArray.data_append, Array.toList_append, HZ.out, ← HC.out]
        rfl
      go_roundg (vl 4294967296 lq)
      case measure => have hpos : 0 < vl 4294967296 lq := htq.pos (by decide) h0; omega
      case rel =>
        refine ⟨k + 1, lq, _, rfl, hsq3.below hb4, hdq, htq, rfl, by rw [hlist]; exact hmid.1, by rw [hlist]; exact hmid.2.1, ?_, Or.inr (by have : 0 < vl 4294967296 lq := htq.pos (by decide) h0; omega), by omega, HB3.out.trans (hb4.mono HB3.out.size)⟩
        have := hmid.2.2
        rw [← hlist] at this
        simpa [Nat.add_assoc] using this

#print axioms Text_any
end Go.Proofs.YtolmjeglaolhlaaGreatDoor
