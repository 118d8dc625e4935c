/- The contract of nat.number: the string of a number. -/
import Derived.Test.YtmbgohaljiiigaaGreatDoorTrim
import Derived.Test.YtmbgohaljiiigaaGreatDoorShelf
import Derived.Laws.BytesArg
namespace Go.Proofs.YtmbgohaljiiigaaGreatDoor
open Go.RowKit Num

/-- Bytes in memory become a string. -/
theorem conv_bytes {w : World} {b off : Nat} {l : List Nat} (hr : Row .u8 w b off l) (cap : Nat) :
    (convert 22 9 (.slice (some ⟨b, off, none⟩) l.length cap)).run Tryz.prog w = .ok (.string ⟨(l.map UInt8.ofNat).toArray⟩) w := by
  have h := run_convert_bytes_arg (P := Tryz.prog) w 22 5 Tryz.underlying22 Tryz.underlying5 b off l.length cap (l.map Int.ofNat) (by simp) (fun i hi => by
    rw [hr i hi]
    simp [List.getElem?_eq_getElem hi]) 9 Tryz.underlying9
  have e : strOfNums (l.map Int.ofNat) = ⟨(l.map UInt8.ofNat).toArray⟩ := by
    unfold strOfNums
    rw [List.map_map]
    rfl
  rw [e] at h
  exact h

def NumberRel (w : World) (V N : Nat) (i : Value) (wr : World) : Prop :=
  ∃ (k : Nat) (r : List Nat), k ≤ N ∧ i = .int .i64 (k : Int) ∧ Blk wr w.heap.size 5 (ints .u8 r.reverse) ∧ r.length = N ∧ Dig 256 r ∧ vl 256 (r.take k) = V % 256 ^ k ∧ Below w.heap.size w wr

theorem NumberRel.step {w wr : World} {l r : List Nat} {V N k j x : Nat} (hx : l.getD (k / 4) 0 = x) (hj : j + k + 1 = N) (hV : vl 4294967296 l = V) (hk : k < N) (hdl : Dig 4294967296 l)
    (hB : Blk wr w.heap.size 5 (ints .u8 r.reverse)) (ho : r.length = N) (hd : Dig 256 r) (hv : vl 256 (r.take k) = V % 256 ^ k) (hbel : Below w.heap.size w wr) :
    NumberRel w V N (.int .i64 (k + 1)) (wr.setCell ⟨w.heap.size, j, none⟩ (.int .u8 ((x : Int) / 2 ^ (8 * (k % 4)) % 256))) := by
  have _ := hk
  have e1 : (x : Int) / 2 ^ (8 * (k % 4)) % 256 = ((x / 256 ^ (k % 4) % 256 : Nat) : Int) := by
    rw [show (256 : Nat) = 2 ^ 8 by decide, ← Nat.pow_mul]; simp
  have e2 : x / 256 ^ (k % 4) % 256 = V / 256 ^ k % 256 := by rw [← hx, byte_of hdl k, hV]
  rw [e1, e2]
  have hlt : V / 256 ^ k % 256 < 256 := Nat.mod_lt _ (by decide)
  refine ⟨k + 1, r.set k (V / 256 ^ k % 256), by omega, rfl, ?_, by simpa using ho, hd.set _ _ hlt, ?_, hbel.setCell (Nat.le_refl _) _⟩
  · have h := hB.set j (V / 256 ^ k % 256)
    rw [← set_reverse r k _ (by omega)]
    rw [show r.length - 1 - k = j by omega]
    exact h
  · rw [vl_take_set _ _ _ _ (by omega), hv, Nat.mod_pow_succ]

set_option maxRecDepth 100000 in
set_option maxHeartbeats 800000 in
/-- **nat.number**. -/
theorem number_any {vv : Value} {l0 : List Nat} {w : World} (h0 : Sl .u32 w vv l0) (d0 : Dig 4294967296 l0) (hsz : l0.length ≤ 1073741824) :
    Calls Tryz.prog 97 #[vv] w fun e w' => e = .returned (.string (Enc (vl 4294967296 l0))) ∧ Below w.heap.size w w' := by
  generalize hV : vl 4294967296 l0 = V
  go_enter Tryz.func97, Tryz.ntmps97
  go_wp2_with fail
  refine (trim_any (b := 4294967296) h0).mono ?_
  rintro e w' ⟨v', l, rfl, hs', hd', ht', hv', hl', rfl⟩
  obtain ⟨aa, ca, rfl, hca, _, ha⟩ := hs'
  have hdl := hd' d0
  rw [hV] at hv'
  have HD := Lib.hid hdl; have HVl := Lib.hid hv'
  have hlen : l.length ≤ 1073741824 := by omega
  clear hdl hv' hV hd' ht' h0 d0 hl' hsz
  obtain ⟨N, hN⟩ : ∃ N, N = 4 * l.length := ⟨_, rfl⟩
  have hmk := run_make_row' (P := Tryz.prog) 22 5 (.int .u8 0) 1 Tryz.underlying22 info_u8 rfl .i64 .i64 N (by omega) (by omega)
  rw [show (N : Int) = 4 * (l.length : Int) by omega] at hmk
  have HN := Lib.hid hN
  have hN1 : N ≤ 4 * l.length := by omega
  have hN2 : 4 * l.length ≤ N := by omega
  clear hN
  go_wp2
  go_loopw [13] (fun i wr => NumberRel w V N i wr) (fun i _ => N - (intOf i).toNat)
  case atStart =>
    refine ⟨0, List.replicate N 0, by omega, rfl, ?_, by simp, Dig.replicate (by decide) _, by simp [Nat.mod_one], (Below.refl _ _).alloc (Nat.le_refl _) _⟩
    rw [List.reverse_replicate]
    exact Blk.made _ _ _ _
  case round =>
    obtain ⟨k, r, hk, rfl, hB, ho, hd, hv, hbel⟩ := hrel
    have HB := Lib.hid hB; have HO := Lib.hid ho; have HV := Lib.hid hv; have HBel := Lib.hid hbel
    clear hB ho hv hbel
    rcases Nat.lt_or_ge k N with hlt | hge
    · obtain ⟨b, off, rfl, hbl, hrow⟩ := ha (by omega)
      have hx := (hrow.below hbl HBel.out) (k / 4) (by omega)
      have hx32 := HD.out.get (by decide) (k / 4)
      clear hrow ha
      generalize hxe : l.getD (k / 4) 0 = x at hx hx32
      have HX := Lib.hid hxe; clear hxe
      obtain ⟨j, hj⟩ : ∃ j : Nat, (N : Int) - 1 - (k : Int) = (j : Int) := ⟨N - 1 - k, by omega⟩
      have hjs : j < N := by omega
      have hjk : j + k + 1 = N := by omega
      have HJ := Lib.hid hjk; clear hjk
      have hwr := HB.out.get j (by have := HO.out; simp; omega)
      have hfr := HB.out.free j
      generalize r.reverse.getD j 0 = z at hwr
      go_wp2
      exact ⟨NumberRel.step HX.out HJ.out HVl.out hlt HD.out HB.out HO.out hd HV.out HBel.out, by simp [intOf]; omega⟩
    · obtain rfl : N = k := by omega
      have hcv := conv_bytes HB.out.row N
      rw [show r.reverse.length = N by have := HO.out; simpa using this] at hcv
      go_wp2_with fail
      refine (Tryz.strings_TrimLeft_one _ 0 (by decide) _).mono ?_
      rintro e w' ⟨rfl, rfl⟩
      go_wp2_with fail
      go_ret
      have h1 := HV.out
      have h2 := HO.out
      have h3 := vl_lt HD.out
      rw [HVl.out] at h3
      have h4 : (4294967296 : Nat) ^ l.length = 256 ^ N := by
        rw [HN.out, Nat.pow_mul]
      rw [List.take_of_length_le (by omega), Nat.mod_eq_of_lt (by omega)] at h1
      refine ⟨?_, HBel.out⟩
      have h5 : (Lib.trimLeftB (r.reverse.map UInt8.ofNat) 0).toArray = (enc V).toArray := by
        unfold Lib.trimLeftB
        rw [canon_dropWhile, ← enc_val, val_of_rev hd, h1]
      rw [List.map_reverse] at h5
      show Ending.returned (Value.string ⟨(Lib.trimLeftB (r.map UInt8.ofNat).reverse 0).toArray⟩) = Ending.returned (Value.string ⟨(enc V).toArray⟩)
      rw [h5]

#print axioms number_any
end Go.Proofs.YtmbgohaljiiigaaGreatDoor
