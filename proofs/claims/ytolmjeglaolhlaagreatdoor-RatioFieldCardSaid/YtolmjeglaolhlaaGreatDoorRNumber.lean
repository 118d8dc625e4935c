/- sortesref01.number: the string of a number's digits to the base 2^24. -/
import Derived.Test.YtolmjeglaolhlaaGreatDoorROwn
import Derived.Test.YtolmjeglaolhlaaGreatDoorPlain
import Derived.Test.YtolmjeglaolhlaaGreatDoorBase
import Derived.Deep.RegionHeld3
import Derived.Deep.AppendLies
namespace Go.Proofs.YtolmjeglaolhlaaGreatDoor
open Go.RowKit Num

/-- What the loop holds: the bytes of the digits from k on. -/
def RNumRel (w : World) (l : List Nat) (o i : Value) (wr : World) : Prop :=
  ∃ (k : Nat) (b : List Nat), k ≤ l.length ∧ i = .int .i64 ((k : Int) - 1) ∧ OwnL .u8 wr w.heap.size 5 o b ∧ Dig 256 b ∧ b.length = 3 * (l.length - k) ∧ val (b.map UInt8.ofNat) = vl 16777216 (l.drop k) ∧ Below w.heap.size w wr

set_option maxRecDepth 100000 in
set_option maxHeartbeats 2000000 in
theorem rnumber_any {v : Value} {l : List Nat} {w : World} (h : Sl .i64 w v l) (hd : Dig 16777216 l) (hsz : l.length ≤ 80000000) :
    Calls Tryz.prog 62 #[v] w fun e w' => e = .returned (.string (Enc (vl 16777216 l))) ∧ Below w.heap.size w w' := by
  obtain ⟨a, cap, rfl, h1, h2, h3⟩ := h
  obtain ⟨i0, hi, hz0, hz1, hz2⟩ := info_parts info_u8
  obtain ⟨V, hV⟩ : ∃ V, V = vl 16777216 l := ⟨_, rfl⟩
  rw [← hV]
  have HV := Lib.hid hV; have HR := Lib.hid h3; have HD := Lib.hid hd
  clear hV h3 hd
  obtain ⟨N, hN⟩ : ∃ N, l.length = N := ⟨_, rfl⟩
  rw [hN] at h1 HR hsz ⊢
  have HN := Lib.hid hN; clear hN
  have hmx : Tryz.prog.follows .mixedOrders = true := by kernel_rfl
  go_enter Tryz.func62, Tryz.ntmps62
  go_wp2
  go_loopw [3, 4] (fun o i wr => RNumRel w l o i wr) (fun _ i _ => (intOf i + 1).toNat)
  case atStart => exact ⟨N, [], by rw [HN.out]; omega, rfl, OwnL.nil _ _ _ _, Dig.nil _, by simp [HN.out], by rw [← HN.out]; simp, Below.refl _ _⟩
  case round =>
    obtain ⟨k, b, hk, rfl, ho, hdb, hlb, hvb, hbel⟩ := hrel
    rw [HN.out] at hk hlb
    have HO := Lib.hid ho; have HDB := Lib.hid hdb; have HLB := Lib.hid hlb; have HVB := Lib.hid hvb; have HBel := Lib.hid hbel
    clear ho hdb hlb hvb hbel
    cases k with
    | zero =>
      have hcv := HO.out.conv
      have hv : SN ⟨(b.map UInt8.ofNat).toArray⟩ = V := by
        show val (b.map UInt8.ofNat).toArray.toList = V
        have := HVB.out
        rw [List.drop_zero] at this
        simpa [HV.out] using this
      have hs : (ByteArray.mk (b.map UInt8.ofNat).toArray).size ≤ 268435456 := by
        show (b.map UInt8.ofNat).toArray.size ≤ _
        have := HLB.out
        simp; omega
      generalize (ByteArray.mk (b.map UInt8.ofNat).toArray) = S at *
      have HVV := Lib.hid hv; clear hv
      go_wp2_with fail
      refine (Canon_any S _ hs).mono ?_
      rintro _ _ ⟨rfl, rfl⟩
      go_wp2_with fail
      go_ret
      exact ⟨by rw [HVV.out]; rfl, HBel.out⟩
    | succ k =>
      obtain ⟨bu, ou, hau, hbu, hru⟩ := HR.out (by omega)
      subst hau
      have hcu := hru k (by rw [HN.out]; omega)
      have hcu2 := (HBel.out.cell (p := ⟨bu, ou + k, none⟩) hbu).trans hcu
      obtain ⟨x, hx⟩ : ∃ x, l.getD k 0 = x := ⟨_, rfl⟩
      have hxB : x < 16777216 := by rw [← hx]; exact HD.out.get (by decide) k
      rw [hx] at hcu2
      have HX := Lib.hid hx
      clear hru hcu hx HR
      have e0 : (((k + 1 : Nat) : Int) - 1) = (k : Int) := by omega
      rw [e0]
      clear e0
      have hown : wr.ownsRow w.heap.size 5 1 u3 (3 * (N - (k + 1))) (ints .u8 b) := by rw [← HLB.out]; exact HO.out
      have hwB := HBel.out.size
      have ag := HO.out.ne hbu
      have hk0 : (0 : Int) ≤ (k : Int) := by omega
      have hk1 : (k : Int) < (N : Int) := by omega
      obtain ⟨p, hp, hpB, HP⟩ : ∃ p : Nat, IntKind.u8.wrap ((x : Int) / 65536) = (p : Int) ∧ p < 256 ∧ Hid (p = x / 65536) := ⟨x / 65536, by rw [IntKind.wrap_u8]; omega, by omega, Lib.hid rfl⟩
      obtain ⟨q, hq, hqB, HQ⟩ : ∃ q : Nat, IntKind.u8.wrap ((x : Int) / 256) = (q : Int) ∧ q < 256 ∧ Hid (q = x / 256 % 256) := ⟨x / 256 % 256, by rw [IntKind.wrap_u8]; omega, by omega, Lib.hid rfl⟩
      obtain ⟨r, hr, hrB, HRR⟩ : ∃ r : Nat, IntKind.u8.wrap (x : Int) = (r : Int) ∧ r < 256 ∧ Hid (r = x % 256) := ⟨x % 256, by rw [IntKind.wrap_u8]; omega, by omega, Lib.hid rfl⟩
      go_wp2_with fail
      go_region_held3 (fun w' => w'.cell? ⟨bu, ou + k, none⟩ = some (.int .i64 (x : Int)))
        (first | go_keep | (rw [hgrow.cell_far _ (by simp; omega) (Ne.symm ag)]; assumption))
        ((refine step_append_lies _ (by rfl) _ _ _ (by rfl) w.heap.size 5 i0 (.int .u8 0) 1 1 Tryz.underlying22 hi hz0 hz1 hz2 rfl (by decide) u3 (3 * (N - (k + 1))) (ints .u8 b) (by rfl) ((hown.alloc _).drew) ⟨wr.heap.size, 0, none⟩ 3 3 [.int .u8 (p : Int), .int .u8 (q : Int), .int .u8 (r : Int)] (by rfl) (by rfl) (World.news_of_block (cs := #[.int .u8 (p : Int), .int .u8 (q : Int), .int .u8 (r : Int)]) (t := 5) (fr := (0, 0)) (heap_alloc_new wr _)) (by simp [Value.oneCell']) (by omega) (by unfold maxLen; omega) (by omega) (by simp; omega) (wr.heap.size + 1) (by simp) ?_; intro gg cap' w1 hown1 hgrow hat hlt))
      go_wp2
      have hb1 : Below w.heap.size w w1 := ((HBel.out.alloc hwB _).drew).trans (OwnL.grown (k := .u8) (l := b) (e := 5) (by rw [OwnL, HLB.out]; exact (hown.alloc _).drew) (by simp; omega) hgrow)
      refine ⟨⟨k, b ++ [p, q, r], by rw [HN.out]; omega, rfl, ?_, HDB.out.append (Dig.cons hpB (Dig.cons hqB (Dig.cons hrB (Dig.nil _)))), ?_, ?_, hb1⟩, by simp only [intOf]; omega⟩
      · unfold OwnL
        rw [List.length_append, HLB.out, show ints .u8 (b ++ [p, q, r]) = ints .u8 b ++ [.int .u8 (p : Int), .int .u8 (q : Int), .int .u8 (r : Int)] by simp [ints]]
        exact hown1
      · rw [List.length_append, HLB.out, HN.out]; simp; omega
      · rw [List.map_append, List.map_cons, List.map_cons, List.map_cons, List.map_nil, val_three _ _ _ _ hpB hqB hrB, HVB.out, vl_drop 16777216 l k (by rw [HN.out]; omega), HX.out]
        have h4 := three_bytes hxB
        rw [HP.out, HQ.out, HRR.out, h4.1, Nat.mul_comm, Nat.add_comm]

#print axioms rnumber_any
end Go.Proofs.YtolmjeglaolhlaaGreatDoor
