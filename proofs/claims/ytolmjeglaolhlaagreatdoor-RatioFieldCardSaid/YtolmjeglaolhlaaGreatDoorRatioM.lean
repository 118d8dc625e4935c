/- Lists of rational numbers; ratio.fold with lcm; ratio.Common. -/
import Derived.Test.YtolmjeglaolhlaaGreatDoorRatioG
namespace Go.Proofs.YtolmjeglaolhlaaGreatDoor
open Go.RowKit Num

/-- Numbers in memory, three cells each. -/
def RowR (W : World) (b off : Nat) (qs : List Rat) : Prop :=
  ∀ i (h : i < qs.length), W.cell? ⟨b, off + i * 3, none⟩ = some (.bool (decide (qs[i].num < 0))) ∧ W.cell? ⟨b, off + i * 3 + 1, none⟩ = some (.string (Enc qs[i].num.natAbs)) ∧ W.cell? ⟨b, off + i * 3 + 2, none⟩ = some (.string (Enc qs[i].den))
/-- A slice of numbers. -/
def SlR (W : World) (v : Value) (qs : List Rat) : Prop :=
  ∃ (a : Option Addr) (cap : Nat), v = .slice a qs.length cap ∧ qs.length ≤ cap ∧ cap ≤ 9223372036854775807 ∧ (0 < qs.length → ∃ b off, a = some ⟨b, off, none⟩ ∧ b < W.heap.size ∧ RowR W b off qs)
theorem RowR.below {W X : World} {b off : Nat} {qs : List Rat} (h : RowR W b off qs) (hb : b < W.heap.size) (g : Below W.heap.size W X) : RowR X b off qs := fun i hi => by
  obtain ⟨h1, h2, h3⟩ := h i hi
  exact ⟨(g.cell (p := ⟨b, _, none⟩) hb).trans h1, (g.cell (p := ⟨b, _, none⟩) hb).trans h2, (g.cell (p := ⟨b, _, none⟩) hb).trans h3⟩
theorem SlR.below {W X : World} {v : Value} {qs : List Rat} (h : SlR W v qs) (g : Below W.heap.size W X) : SlR X v qs := by
  obtain ⟨a, cap, rfl, h1, h2, h3⟩ := h
  refine ⟨a, cap, rfl, h1, h2, fun hl => ?_⟩
  obtain ⟨b, off, rfl, hb, hr⟩ := h3 hl
  exact ⟨b, off, rfl, Nat.lt_of_lt_of_le hb g.size, hr.below hb g⟩

/-- The least common multiple of some denominators. -/
def dens (qs : List Rat) : Nat := qs.foldl (fun m q => m * (q.den / Nat.gcd m q.den)) 1
theorem dens_snoc (qs : List Rat) (q : Rat) : dens (qs ++ [q]) = dens qs * (q.den / Nat.gcd (dens qs) q.den) := by simp [dens]

def FoldRel (w : World) (qs : List Rat) (v i : Value) (wr : World) : Prop :=
  ∃ j : Nat, j ≤ qs.length ∧ i = .int .i64 (j : Int) ∧ v = .string (Enc (dens (qs.take j))) ∧ Below w.heap.size w wr

set_option maxRecDepth 100000 in
set_option maxHeartbeats 2000000 in
/-- **ratio.fold** of ratio.lcm: the common denominator. -/
theorem fold_lcm {v : Value} {qs : List Rat} {w : World} (h : SlR w v qs) (hz : ∀ q ∈ qs, Sz 600000 q) (hd : ∀ j, dens (qs.take j) < 256 ^ 600000) :
    Calls Tryz.prog 88 #[v, .string (Enc 1), .func (.func 89) #[] #[]] w fun e w' => e = .returned (.string (Enc (dens qs))) ∧ Below w.heap.size w w' := by
  obtain ⟨a, cap, rfl, h1, h2, h3⟩ := h
  have HR := Lib.hid h3; have HZ := Lib.hid hz; have HD := Lib.hid hd
  obtain ⟨n, hn⟩ : ∃ n, qs.length = n := ⟨_, rfl⟩
  have HN := Lib.hid hn
  rw [hn] at h1 ⊢
  obtain ⟨o, ho⟩ : ∃ o, Enc 1 = o := ⟨_, rfl⟩
  rw [ho]
  have HO := Lib.hid ho
  clear h3 hz hd hn ho
  go_enter Tryz.func88, Tryz.ntmps88
  go_wp2_with fail
  go_loopw [1, 11] (fun v i wr => FoldRel w qs v i wr) (fun _ i _ => n - (intOf i).toNat)
  case atStart => exact ⟨0, by omega, rfl, by rw [← HO.out]; rfl, Below.refl _ _⟩
  case round =>
    obtain ⟨j, hj, rfl, rfl, hbel⟩ := hrel
    have HBel := Lib.hid hbel
    clear hbel
    have hjn : j ≤ n := by have := HN.out; omega
    rcases Nat.lt_or_ge j n with hlt | hge
    · have hjl : j < qs.length := by have := HN.out; omega
      obtain ⟨b, off, rfl, hb, hr⟩ := HR.out (by omega)
      obtain ⟨r0, r1, r2⟩ := hr.below hb HBel.out j hjl
      have d1 := fun w => lcm_q (dens (qs.take j)) qs[j] w (HD.out j) (HZ.out _ (List.getElem_mem hjl))
      rw [← dens_snoc, ← List.take_succ_eq_append_getElem hjl] at d1
      unfold rv at d1
      generalize Enc (dens (qs.take j)) = M at *
      obtain ⟨M', hM'⟩ : ∃ M', Enc (dens (qs.take (j + 1))) = M' := ⟨_, rfl⟩
      rw [hM'] at d1
      have HM := Lib.hid hM'
      generalize decide (qs[j].num < 0) = s at *
      generalize Enc qs[j].num.natAbs = x at *
      generalize Enc qs[j].den = y at *
      have D1 := Lib.hid d1
      clear d1 hM' hr
      have gA : Below w.heap.size w (wr.alloc (.cells #[.bool s, .string x, .string y] 39)) := HBel.out.alloc HBel.out.size _
      have HA := Lib.hid gA
      clear gA
      go_wp2_with fail
      refine (D1.out _).mono ?_
      rintro _ w2 ⟨rfl, g2⟩
      have HB2 := Lib.hid (HA.out.trans (g2.mono HA.out.size))
      clear g2
      go_wp2_with fail
      go_roundw
      case rel => exact ⟨j + 1, by have := HN.out; omega, by go_num, by rw [HM.out], HB2.out⟩
      case measure => simp [intOf]; omega
    · obtain rfl : j = n := by omega
      have e : qs.take j = qs := by rw [← HN.out, List.take_length]
      go_wp2_with fail
      go_ret
      exact ⟨by rw [e]; rfl, HBel.out⟩

#print axioms fold_lcm
end Go.Proofs.YtolmjeglaolhlaaGreatDoor
