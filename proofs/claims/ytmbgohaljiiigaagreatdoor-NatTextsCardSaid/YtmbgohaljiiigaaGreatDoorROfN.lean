/- sortesref01.Of: the canonical string of an int. -/
import Derived.Test.YtmbgohaljiiigaaGreatDoorROwn
import Derived.Test.YtmbgohaljiiigaaGreatDoorCanon
namespace Go.Proofs.YtmbgohaljiiigaaGreatDoor
open Go.RowKit Num

def ROfNRel (w : World) (n : Nat) (o k : Value) (wr : World) : Prop :=
  ∃ (j : Nat) (b : List Nat), j ≤ 8 ∧ k = .int .i64 (56 - 8 * (j : Int)) ∧ OwnL .u8 wr w.heap.size 5 o b ∧ Dig 256 b ∧ b.length = j ∧ val (b.map UInt8.ofNat) = n / 256 ^ (8 - j) ∧ Below w.heap.size w wr

set_option maxRecDepth 100000 in
set_option maxHeartbeats 2000000 in
theorem ROfN_pos (n : Nat) (w : World) (h0 : 0 < n) (hn : n < 9223372036854775808) :
    Calls Tryz.prog 45 #[.int .i64 (n : Int)] w fun e w' => e = .returned (.string (Enc n)) ∧ Below w.heap.size w w' := by
  obtain ⟨i0, hi, hz0, hz1, hz2⟩ := info_parts info_u8
  go_enter Tryz.func45, Tryz.ntmps45
  go_wp2
  go_loopw [3, 4] (fun o k wr => ROfNRel w n o k wr) (fun _ k _ => (intOf k + 8).toNat)
  case atStart => exact ⟨0, [], by omega, rfl, OwnL.nil _ _ _ _, Dig.nil _, rfl, by rw [Nat.div_eq_of_lt (by omega)]; rfl, Below.refl _ _⟩
  case round =>
    obtain ⟨j, b, hj, rfl, ho, hdb, hlb, hvb, hbel⟩ := hrel
    have HO := Lib.hid ho; have HDB := Lib.hid hdb; have HLB := Lib.hid hlb; have HVB := Lib.hid hvb; have HBel := Lib.hid hbel
    clear ho hdb hlb hvb hbel
    have hown : wr.ownsRow w.heap.size 5 1 u3 j (ints .u8 b) := by rw [← HLB.out]; exact HO.out
    have hwB := HBel.out.size
    rcases Nat.lt_or_ge j 8 with hlt | hge
    · obtain ⟨P, hP⟩ : ∃ P, P = n / 2 ^ (56 - 8 * j) := ⟨_, rfl⟩
      have hPi : (n : Int) / 2 ^ (56 - 8 * j) = (P : Int) := by rw [hP]; simp
      have HP := Lib.hid hP; clear hP
      go_wp2_with (at_builtin; refine wpList_append_own_at _ rfl _ _ 22 rfl w.heap.size 5 i0 (.int .u8 0) 1 1 Tryz.underlying22 hi hz0 hz1 hz2 rfl (by decide) _ _ _ rfl (hown.alloc _) ⟨wr.heap.size, 0, none⟩ 1 1 [_] rfl rfl (cell_one_new _ _ _) (by intro u hu; simp at hu; subst hu; rfl) (by unfold maxLen; omega) (by omega) (by simp; omega) ?_; intro v' w1 hown' hgrow _ _)
      have hb1 : Below w.heap.size w w1 := (HBel.out.alloc hwB _).trans (OwnL.grown (k := .u8) (l := b) (e := 5) (by rw [OwnL, HLB.out]; exact hown.alloc _) (by simp; omega) hgrow)
      have hown2 := OwnL.snoc' (P % 256) (by rw [HLB.out]; exact hown') (by omega)
      refine ⟨⟨j + 1, b ++ [P % 256], by omega, by congr 1; omega, hown2, HDB.out.append (Dig.cons (Nat.mod_lt _ (by decide)) (Dig.nil _)), by rw [List.length_append, HLB.out]; rfl, ?_, hb1⟩, by simp only [intOf]; omega⟩
      rw [List.map_append, List.map_cons, List.map_nil, val_snoc, HVB.out, show 8 - j = (8 - (j + 1)) + 1 by omega, Nat.pow_succ, ← Nat.div_div_eq_div_mul]
      have e : P = n / 256 ^ (8 - (j + 1)) := by
        rw [HP.out, show (256 : Nat) = 2 ^ 8 by decide, ← Nat.pow_mul]; congr 2; omega
      rw [← e]
      have := Nat.mod_lt P (show 0 < 256 by decide)
      rw [show (UInt8.ofNat (P % 256)).toNat = P % 256 by simp]
      omega
    · obtain rfl : j = 8 := by omega
      have hcv := HO.out.conv
      have hv : SN ⟨(b.map UInt8.ofNat).toArray⟩ = n := by
        show val (b.map UInt8.ofNat).toArray.toList = n
        have := HVB.out
        simpa using this
      have hs : (ByteArray.mk (b.map UInt8.ofNat).toArray).size ≤ 268435456 := by
        show (b.map UInt8.ofNat).toArray.size ≤ _
        have := HLB.out
        simp; omega
      generalize (ByteArray.mk (b.map UInt8.ofNat).toArray) = S at *
      have HVV := Lib.hid hv; clear hv
      go_wp2_with fail
      refine (Canon_any S _ hs).mono ?_
      rintro _ _ ⟨rfl, rfl⟩
      go_wp2_with fail
      go_ret
      exact ⟨by rw [HVV.out]; rfl, HBel.out⟩

set_option maxRecDepth 100000 in
/-- **sortesref01.Of**. -/
theorem ROfN_any (z : Int) (w : World) (h2 : z ≤ 9223372036854775807) :
    Calls Tryz.prog 45 #[.int .i64 z] w fun e w' => e = .returned (.string (Enc z.toNat)) ∧ Below w.heap.size w w' := by
  rcases (show z ≤ 0 ∨ 0 < z by omega) with hz | hz
  · obtain ⟨t, ht⟩ : ∃ t, t = z.toNat := ⟨_, rfl⟩
    rw [← ht]
    obtain rfl : t = 0 := by omega
    clear ht
    have hcv := (OwnL.nil .u8 w w.heap.size 5).conv
    go_enter Tryz.func45, Tryz.ntmps45
    go_wp2
    go_loopw [3, 4] (fun o k wr => o = .slice none 0 0 ∧ k = .int .i64 56 ∧ w = wr) (fun _ _ _ => 0)
    case atStart => exact ⟨rfl, rfl, rfl⟩
    case round =>
      obtain ⟨rfl, rfl, rfl⟩ := hrel
      go_wp2_with fail
      refine (Canon_any _ _ (by decide)).mono ?_
      rintro _ _ ⟨rfl, rfl⟩
      go_wp2_with fail
      go_ret
      exact ⟨rfl, Below.refl _ _⟩
  · obtain ⟨n, rfl⟩ : ∃ n : Nat, z = (n : Int) := ⟨z.toNat, by omega⟩
    rw [Int.toNat_natCast]
    exact ROfN_pos n w (by omega) (by omega)

#print axioms ROfN_any
end Go.Proofs.YtmbgohaljiiigaaGreatDoor
