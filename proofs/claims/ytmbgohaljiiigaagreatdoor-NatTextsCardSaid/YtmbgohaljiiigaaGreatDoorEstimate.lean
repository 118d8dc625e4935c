/- The contract of nat.estimate: the estimate of a digit of a quotient. -/
import Derived.Test.YtmbgohaljiiigaaGreatDoorBase
import Derived.RegionTactic
import Derived.ChangeAlike
import Derived.BigRegion
namespace Go.Proofs.YtmbgohaljiiigaaGreatDoor
open Go.RowKit Num

theorem mul32' {x y : Nat} (hx : x < 4294967296) (hy : y < 4294967296) : (x : Int) * (y : Int) ≤ 18446744065119617025 ∧ 0 ≤ (x : Int) * (y : Int) := by
  have h : x * y ≤ 4294967295 * 4294967295 := Nat.mul_le_mul (by omega) (by omega)
  have e : (x : Int) * (y : Int) = ((x * y : Nat) : Int) := by simp
  rw [e]
  omega

/-- Between two rounds. -/
def EstRel (T W v0 top : Nat) (s6 s7 : Value) : Prop :=
  ∃ q r : Nat, s6 = .int .u64 (q : Int) ∧ s7 = .int .u64 (r : Int) ∧ q * v0 + r = top ∧ r < 4294967296 ∧ q < 4294967300 ∧ (T < (q + 1) * W ∨ 4294967295 ≤ q)

theorem est0 (w : World) (o1 o2 : Obj) : Below w.heap.size w ((w.alloc o1).alloc o2).drew := (((Below.refl _ _).alloc (Nat.le_refl _) o1).alloc (by simp) o2).drew

/-- What the estimate comes to. -/
def EstEnd (T W : Nat) (q : Nat) : Prop := q ≤ 4294967295 ∧ q * W ≤ T ∧ (q = 4294967295 ∨ T < (q + 1) * W)

theorem est_start {u0 u1 u2 v0 v1 top : Nat} (ht : top = u0 * 4294967296 + u1) (hu0 : u0 ≤ v0) (hu1 : u1 < 4294967296) (hu2 : u2 < 4294967296) (hv0' : 2147483648 ≤ v0) (hv0 : v0 < 4294967296) :
    EstRel (top * 4294967296 + u2) (v0 * 4294967296 + v1) v0 top (.int .u64 (IntKind.u64.wrap ((top : Int) / (v0 : Int)))) (.int .u64 ((top : Int) % (v0 : Int))) := by
  have e1 : (top : Int) / (v0 : Int) = ((top / v0 : Nat) : Int) := by simp
  have e2 : (top : Int) % (v0 : Int) = ((top % v0 : Nat) : Int) := by simp
  have h1 := Nat.div_add_mod top v0
  have h2 := Nat.mod_lt top (show 0 < v0 by omega)
  have h3 : top / v0 < 4294967300 := by
    rw [Nat.div_lt_iff_lt_mul (by omega)]
    have : u0 * 4294967296 ≤ v0 * 4294967296 := Nat.mul_le_mul_right _ hu0
    omega
  rw [e1, e2, IntKind.wrap_u64]
  generalize top / v0 = q at *
  generalize top % v0 = r at *
  refine ⟨q, r, by rw [show (q : Int) % 18446744073709551616 = q by omega], rfl, by rw [Nat.mul_comm]; exact h1, by omega, h3, Or.inl ?_⟩
  have h4 : (q + 1) * (v0 * 4294967296 + v1) = (v0 * q + v0) * 4294967296 + (q + 1) * v1 := by grind
  rw [h4]
  have h5 : (top + 1) * 4294967296 ≤ (v0 * q + v0) * 4294967296 := Nat.mul_le_mul_right _ (by omega)
  omega

theorem est_next {u0 u1 u2 v0 v1 top q r T W : Nat} (ht : top = u0 * 4294967296 + u1) (hT : T = top * 4294967296 + u2) (hW : W = v0 * 4294967296 + v1) (hu0 : u0 ≤ v0) (hu1 : u1 < 4294967296) (hu2 : u2 < 4294967296) (hv0' : 2147483648 ≤ v0)
    (hq : q * v0 + r = top) (hq2 : q < 4294967300) (hbig : 4294967295 < q ∨ r * 4294967296 + u2 < q * v1) : 1 ≤ q ∧ (q - 1) * v0 + (r + v0) = top ∧ (T < (q - 1 + 1) * W ∨ 4294967295 ≤ q - 1) := by
  have _ := hv0'
  have _ := hu2
  have _ := hu1
  have _ := hu0
  have h1 : 1 ≤ q := by
    rcases hbig with h | h
    · omega
    · rcases Nat.eq_zero_or_pos q with h0 | h0
      · subst h0; simp at h
      · exact h0
  obtain ⟨p, rfl⟩ : ∃ p, q = p + 1 := ⟨q - 1, by omega⟩
  refine ⟨h1, by simp only [Nat.add_sub_cancel]; rw [Nat.add_mul] at hq; omega, ?_⟩
  rcases hbig with h | h
  · right; omega
  · left
    simp only [Nat.add_sub_cancel]
    have h4 : (p + 1) * (v0 * 4294967296 + v1) = ((p + 1) * v0) * 4294967296 + (p + 1) * v1 := by grind
    rw [hT, hW, h4, ← hq]
    clear hT hW ht hu0 hu1 hv0' hq2 h1 h4 hq
    generalize (p + 1) * v1 = Z at *
    generalize (p + 1) * v0 = Y at *
    rw [Nat.add_mul, Nat.add_assoc]
    exact Nat.add_lt_add_left h _

theorem est_stop {u0 u1 u2 v0 v1 top q r T W : Nat} (hT : T = top * 4294967296 + u2) (hW : W = v0 * 4294967296 + v1)
    (hq : q * v0 + r = top) (hq2 : q ≤ 4294967295) (hlast : T < (q + 1) * W ∨ 4294967295 ≤ q) (hle : q * v1 ≤ r * 4294967296 + u2) : EstEnd T W q := by
  have _ := u1
  have _ := u0
  refine ⟨hq2, ?_, ?_⟩
  · subst hT hW
    have h4 : q * (v0 * 4294967296 + v1) = (q * v0) * 4294967296 + q * v1 := by grind
    rw [h4]
    generalize q * v1 = Z at *
    generalize q * v0 = Y at *
    subst hq
    omega
  · rcases hlast with h | h
    · exact Or.inr h
    · left; omega

theorem est_break {u0 u1 u2 v0 v1 top q r T W : Nat} (ht : top = u0 * 4294967296 + u1) (hT : T = top * 4294967296 + u2) (hW : W = v0 * 4294967296 + v1) (hu0 : u0 ≤ v0) (hu1 : u1 < 4294967296) (hv1 : v1 < 4294967296)
    (hq : q * v0 + r = top) (hlast : T < (q + 1) * W ∨ 4294967295 ≤ q) (hr : 4294967295 < r) : EstEnd T W q := by
  have h1 : q ≤ 4294967295 := by
    rcases Nat.lt_or_ge q 4294967296 with h | h
    · omega
    · exfalso
      have h2 : 4294967296 * v0 ≤ q * v0 := Nat.mul_le_mul_right _ h
      omega
  refine est_stop (u0 := u0) (u1 := u1) (u2 := u2) hT hW hq h1 hlast ?_
  have h3 : q * v1 ≤ 4294967295 * 4294967295 := Nat.mul_le_mul h1 (by omega)
  omega

set_option maxRecDepth 100000 in
set_option maxHeartbeats 800000 in
/-- **nat.estimate**. -/
theorem estimate_any (u0 u1 u2 v0 v1 v2 : Nat) (w : World) (hu0 : u0 ≤ v0) (hu1 : u1 < 4294967296) (hu2 : u2 < 4294967296) (hv0 : v0 < 4294967296) (hv0' : 2147483648 ≤ v0) (hv1 : v1 < 4294967296) :
    Calls Tryz.prog 129 #[.agg #[.int .u32 (u0 : Int), .int .u32 (u1 : Int), .int .u32 (u2 : Int)], .agg #[.int .u32 (v0 : Int), .int .u32 (v1 : Int), .int .u32 (v2 : Int)]] w fun e w' =>
      ∃ q : Nat, e = .returned (.int .u64 (q : Int)) ∧ EstEnd ((u0 * 4294967296 + u1) * 4294967296 + u2) (v0 * 4294967296 + v1) q ∧ Below w.heap.size w w' := by
  obtain ⟨top, htop, ht1, ht2⟩ : ∃ t : Nat, bits .or .u64 ((u0 : Int) * 4294967296) (u1 : Int) = (t : Int) ∧ t < 18446744073709551616 ∧ t = u0 * 4294967296 + u1 := by
    refine ⟨u0 * 4294967296 + u1, ?_, by omega, rfl⟩
    have e := u64_or_nat (u0 * 4294967296) u1 (by omega) (by omega)
    rw [or_mul u0 u1 32 (by omega)] at e
    rw [← e]
    rfl
  rw [← ht2]
  obtain ⟨T, hT⟩ : ∃ T, T = top * 4294967296 + u2 := ⟨_, rfl⟩
  obtain ⟨W, hW⟩ : ∃ W, W = v0 * 4294967296 + v1 := ⟨_, rfl⟩
  rw [← hT, ← hW]
  have HT := Lib.hid ht2; have HTT := Lib.hid hT; have HWW := Lib.hid hW
  clear ht2 hT hW
  have hv1' : 1 ≤ (v0 : Int) := by omega
  go_enter Tryz.func129, Tryz.ntmps129
  go_wp2
  go_step3
  go_wp2
  go_region
  go_wp2
  go_step3
  go_wp2
  go_loop [6, 7] (fun s6 s7 => EstRel T W v0 top s6 s7) (fun s6 _ => (intOf s6).toNat)
  case atStart =>
    have := est_start (v1 := v1) HT.out hu0 hu1 hu2 hv0' hv0
    rw [← HTT.out, ← HWW.out] at this
    exact this
  case round =>
    obtain ⟨q, r, rfl, rfl, hq, hr, hq2, hlast⟩ := hrel
    have HQ := Lib.hid hq; have HL := Lib.hid hlast
    clear hq hlast
    obtain ⟨t, htt, ht1', ht2'⟩ : ∃ t : Nat, bits .or .u64 ((r : Int) * 4294967296) (u2 : Int) = (t : Int) ∧ t < 18446744073709551616 ∧ t = r * 4294967296 + u2 := by
      refine ⟨r * 4294967296 + u2, ?_, by omega, rfl⟩
      have e := u64_or_nat (r * 4294967296) u2 (by omega) (by omega)
      rw [or_mul r u2 32 (by omega)] at e
      rw [← e]
      rfl
    have HTR := Lib.hid ht2'; clear ht2'
    rcases Nat.lt_or_ge 4294967295 q with hbig | hsmall
    · obtain ⟨n1, n2, n3⟩ := est_next HT.out HTT.out HWW.out hu0 hu1 hu2 hv0' HQ.out hq2 (Or.inl hbig)
      have N2 := Lib.hid n2; have N3 := Lib.hid n3
      clear n2 n3
      go_wp2
      case roundEnd => exact ⟨⟨q - 1, r + v0, by rw [show ((q - 1 : Nat) : Int) = (q : Int) - 1 by omega], by simp, N2.out, by omega, by omega, N3.out⟩, by simp [intOf]; omega⟩
      · go_ret
        exact ⟨q - 1, by rw [show ((q - 1 : Nat) : Int) = (q : Int) - 1 by omega]; rfl, est_break HT.out HTT.out HWW.out hu0 hu1 hv1 N2.out N3.out (by omega), est0 _ _ _⟩
    · obtain ⟨hm1, hm2⟩ := mul32' (show q < 4294967296 by omega) hv1
      rcases Nat.lt_or_ge t (q * v1) with hgt | hle
      · obtain ⟨n1, n2, n3⟩ := est_next HT.out HTT.out HWW.out hu0 hu1 hu2 hv0' HQ.out hq2 (Or.inr (by rw [← HTR.out]; exact hgt))
        have N2 := Lib.hid n2; have N3 := Lib.hid n3
        clear n2 n3
        have hgt' : (t : Int) < (q : Int) * (v1 : Int) := by rw [← Int.natCast_mul]; omega
        clear hgt
        go_wp2
        case roundEnd => exact ⟨⟨q - 1, r + v0, by rw [show ((q - 1 : Nat) : Int) = (q : Int) - 1 by omega], by simp, N2.out, by omega, by omega, N3.out⟩, by simp [intOf]; omega⟩
        · go_ret
          exact ⟨q - 1, by rw [show ((q - 1 : Nat) : Int) = (q : Int) - 1 by omega]; rfl, est_break HT.out HTT.out HWW.out hu0 hu1 hv1 N2.out N3.out (by omega), est0 _ _ _⟩
      · have hle' : (q : Int) * (v1 : Int) ≤ (t : Int) := by rw [← Int.natCast_mul]; omega
        have hend := est_stop (u0 := u0) (u1 := u1) HTT.out HWW.out HQ.out (by omega) HL.out (by rw [← HTR.out]; exact hle)
        have HE := Lib.hid hend
        clear hle hend
        go_wp2
        go_ret
        exact ⟨q, rfl, HE.out, est0 _ _ _⟩

#print axioms estimate_any
end Go.Proofs.YtmbgohaljiiigaaGreatDoor
