/- ratio.fold with Add; ratio.Sum. -/
import Derived.Test.YtolmjeglaolhlaaGreatDoorRatioM
import Derived.Test.YtolmjeglaolhlaaGreatDoorRatioF
namespace Go.Proofs.YtolmjeglaolhlaaGreatDoor
open Go.RowKit Num

/-- The sum of some numbers. -/
def sumR (qs : List Rat) : Rat := qs.foldl (· + ·) 0
theorem sumR_snoc (qs : List Rat) (q : Rat) : sumR (qs ++ [q]) = sumR qs + q := by simp [sumR]

def SumRRel (w : World) (qs : List Rat) (i : Value) (wr : World) : Prop :=
  ∃ (j : Nat) (s : Bool) (a b : ByteArray), j ≤ qs.length ∧ i = .int .i64 (j : Int) ∧ rv (sumR (qs.take j)) = RV s a b ∧ RB2 w s a b wr

set_option maxRecDepth 100000 in
set_option maxHeartbeats 2000000 in
/-- **ratio.fold** of ratio.Add: a sum. -/
theorem fold_add {v : Value} {qs : List Rat} {w : World} (s0 : Bool) (a0 b0 : ByteArray) (h0 : rv 0 = RV s0 a0 b0) (h : SlR w v qs) (hz : ∀ q ∈ qs, Sz 600000 q) (hd : ∀ j, Sz 600000 (sumR (qs.take j))) :
    Calls Tryz.prog 91 #[v, RV s0 a0 b0, .func (.func 37) #[] #[]] w fun e w' => e = .returned (rv (sumR qs)) ∧ Below w.heap.size w w' := by
  obtain ⟨a, cap, rfl, h1, h2, h3⟩ := h
  have HR := Lib.hid h3; have HZ := Lib.hid hz; have HD := Lib.hid hd; have H0 := Lib.hid h0
  obtain ⟨n, hn⟩ : ∃ n, qs.length = n := ⟨_, rfl⟩
  have HN := Lib.hid hn
  rw [hn] at h1 ⊢
  obtain ⟨S, hS⟩ : ∃ S, rv (sumR qs) = S := ⟨_, rfl⟩
  rw [hS]
  have HS := Lib.hid hS
  clear h3 hz hd hn h0 hS
  have R0 := Lib.hid (RB2.start w s0 a0 b0)
  go_enter Tryz.func91, Tryz.ntmps91
  go_wp2_with fail
  go_loopw [11] (fun i wr => SumRRel w qs i wr) (fun i _ => n - (intOf i).toNat)
  case atStart => exact ⟨0, s0, a0, b0, by omega, rfl, H0.out, R0.out⟩
  case round =>
    obtain ⟨j, s, a1, b1, hj, rfl, hv, hR⟩ := hrel
    have R := Lib.hid hR; have HV := Lib.hid hv
    clear hR hv
    have hjn : j ≤ n := by have := HN.out; omega
    rcases Nat.lt_or_ge j n with hlt | hge
    · have hjl : j < qs.length := by have := HN.out; omega
      obtain ⟨b, off, rfl, hb, hr⟩ := HR.out (by omega)
      obtain ⟨r0, r1, r2⟩ := hr.below hb R.out.2.2 j hjl
      have d1 := fun w => Add_q (sumR (qs.take j)) qs[j] w (HD.out j) (HZ.out _ (List.getElem_mem hjl))
      rw [← sumR_snoc, ← List.take_succ_eq_append_getElem hjl, HV.out] at d1
      obtain ⟨s', a', b', hv'⟩ : ∃ s a b, rv (sumR (qs.take (j + 1))) = RV s a b := ⟨_, _, _, rfl⟩
      rw [hv'] at d1
      have HV' := Lib.hid hv'
      unfold rv at d1
      generalize decide (qs[j].num < 0) = t at *
      generalize Enc qs[j].num.natAbs = x at *
      generalize Enc qs[j].den = y at *
      have D1 := Lib.hid d1
      clear d1 hv' hr
      have gA : Below wr.heap.size wr (wr.alloc (.cells #[.bool t, .string x, .string y] 39)) := (Below.refl _ _).alloc (Nat.le_refl _) _
      have R1 := Lib.hid (R.out.on gA)
      have hbk := Blk.new wr 39 [.bool t, .string x, .string y]
      have K := Lib.hid hbk
      clear gA hbk
      go_upto_region 4 with fail
      obtain ⟨Bx, hBx⟩ : ∃ B, wr.heap.size = B := ⟨_, rfl⟩
      rw [hBx] at K ⊢
      have HBX := Lib.hid hBx
      generalize wr.alloc (.cells #[.bool t, .string x, .string y] 39) = W at *
      obtain ⟨x0, x1, x2⟩ := K.out.rc
      obtain ⟨⟨c0, c1, c2⟩, -, ⟨k0, k1, k2⟩, -⟩ := R1.out.see
      clear hBx r0 r1 r2
      go_wp2_with fail
      refine (D1.out _).mono ?_
      rintro _ w2 ⟨rfl, g2⟩
      have R2 := Lib.hid (R1.out.on g2)
      clear g2 c0 c1 c2 k0 k1 k2 x0 x1 x2
      obtain ⟨⟨c0, c1, c2⟩, -, ⟨k0, k1, k2⟩, -⟩ := R2.out.see
      go_wp2_with fail
      go_roundw
      case rel => exact ⟨j + 1, s', a', b', by have := HN.out; omega, by go_num, HV'.out, set3 R2.out.1 _ _ _, ((R2.out.2.1.other _ _ (Nat.succ_ne_self _)).other _ _ (Nat.succ_ne_self _)).other _ _ (Nat.succ_ne_self _), bel3 R2.out.2.2 (Nat.le_refl _) _ _ _⟩
      case measure => simp [intOf]; omega
    · obtain rfl : j = n := by omega
      have e : qs.take j = qs := by rw [← HN.out, List.take_length]
      have hv2 := HV.out
      rw [e, HS.out] at hv2
      subst hv2
      obtain ⟨⟨c0, c1, c2⟩, ⟨e0, e1, e2⟩, ⟨k0, k1, k2⟩, f0, f1, f2⟩ := R.out.see
      go_wp2_with fail
      exact ret_rat rfl rfl (R.out.fin _ _ _).1 rfl ⟨rfl, (R.out.fin _ _ _).2⟩

set_option maxRecDepth 100000 in
set_option maxHeartbeats 2000000 in
/-- **ratio.Sum**. -/
theorem Sum_q {v : Value} {qs : List Rat} {w : World} (h : SlR w v qs) (hz : ∀ q ∈ qs, Sz 600000 q) (hd : ∀ j, Sz 600000 (sumR (qs.take j))) :
    Calls Tryz.prog 38 #[v] w fun e w' => e = .returned (rv (sumR qs)) ∧ Below w.heap.size w w' := by
  have d1 := fun w => ROf_any 0 w (by omega) (by omega)
  rw [show ((0 : Int) : Rat) = 0 from rfl] at d1
  obtain ⟨s0, a0, b0, h0⟩ : ∃ s a b, rv 0 = RV s a b := ⟨_, _, _, rfl⟩
  rw [h0] at d1
  have d2 := fun w' (g : Below w.heap.size w w') => fold_add s0 a0 b0 h0 (h.below g) hz hd
  obtain ⟨a, cap, rfl, -, -, -⟩ := h
  obtain ⟨s, x, y, hS⟩ : ∃ s a b, rv (sumR qs) = RV s a b := ⟨_, _, _, rfl⟩
  rw [hS] at d2 ⊢
  generalize qs.length = n at *
  have hbk := Blk.new w 39 [.bool false, .string ⟨#[]⟩, .string ⟨#[]⟩]
  have R := Lib.hid hbk
  have HB := Lib.hid ((Below.refl w.heap.size w).alloc (Nat.le_refl _) (.cells #[.bool false, .string ⟨#[]⟩, .string ⟨#[]⟩] 39))
  have D1 := Lib.hid d1; have D2 := Lib.hid d2
  clear d1 d2 hS h0 hbk hz hd
  go_enter Tryz.func38, Tryz.ntmps38
  go_wp2_with fail
  refine (D1.out _).mono ?_
  rintro _ w1 ⟨rfl, g⟩
  replace R := Lib.hid (R.out.on g); replace HB := Lib.hid (HB.out.trans (g.mono HB.out.size)); clear g
  go_wp2_with fail
  refine (D2.out _ HB.out).mono ?_
  rintro _ w2 ⟨rfl, g⟩
  replace R := Lib.hid (R.out.on g); replace HB := Lib.hid (HB.out.trans (g.mono HB.out.size)); clear g
  have c0 : w2.cell? ⟨w.heap.size, 0, none⟩ = some (.bool false) := R.out.cell 0
  have c1 : w2.cell? ⟨w.heap.size, 1, none⟩ = some (.string ⟨#[]⟩) := R.out.cell 1
  have c2 : w2.cell? ⟨w.heap.size, 2, none⟩ = some (.string ⟨#[]⟩) := R.out.cell 2
  have f0 := R.out.free 0; have f1 := R.out.free 1; have f2 := R.out.free 2
  go_wp2_with fail
  exact ret_rat rfl rfl (set3 R.out _ _ _) rfl ⟨rfl, bel3 HB.out (Nat.le_refl _) _ _ _⟩

#print axioms Sum_q
end Go.Proofs.YtolmjeglaolhlaaGreatDoor
