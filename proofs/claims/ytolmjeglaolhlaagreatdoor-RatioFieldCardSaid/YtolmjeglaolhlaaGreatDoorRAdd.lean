/- sortesref01.Add: the sum. -/
import Derived.Test.YtolmjeglaolhlaaGreatDoorROwn
import Derived.Test.YtolmjeglaolhlaaGreatDoorPlain
import Derived.Test.YtolmjeglaolhlaaGreatDoorRNumber
namespace Go.Proofs.YtolmjeglaolhlaaGreatDoor
open Go.RowKit Num

def RAddRel (w : World) (u v : List Nat) (N : Nat) (o c k : Value) (wr : World) : Prop :=
  ∃ (l : List Nat) (b : Nat), (l.length ≤ N ∨ (l.length = N + 1 ∧ b = 0)) ∧ b ≤ 1 ∧ k = .int .i64 (l.length : Int) ∧ c = .int .i64 (b : Int) ∧ OwnL .i64 wr w.heap.size 3 o l ∧ Dig 16777216 l ∧
    vl 16777216 l + b * 16777216 ^ l.length = vl 16777216 (u.take l.length) + vl 16777216 (v.take l.length) ∧ Below w.heap.size w wr

theorem RAddRel.step {w w' : World} {u v l : List Nat} {N b x y s : Nat} {v' : Value} (hl : l.length < N ∨ (l.length = N ∧ x = 0 ∧ y = 0)) (hd : Dig 16777216 l) (hx : u.getD l.length 0 = x) (hy : v.getD l.length 0 = y)
    (hv : vl 16777216 l + b * 16777216 ^ l.length = vl 16777216 (u.take l.length) + vl 16777216 (v.take l.length)) (hb : b ≤ 1) (hxB : x < 16777216) (hyB : y < 16777216) (hs : s = b + x + y)
    (ho : OwnL .i64 w' w.heap.size 3 v' (l ++ [s % 16777216])) (hbel : Below w.heap.size w w') (z zb : Int) (hz : z = (l.length : Int) + 1) (hzb : zb = ((s / 16777216 : Nat) : Int)) :
    RAddRel w u v N v' (.int .i64 zb) (.int .i64 z) w' := by
  refine ⟨l ++ [s % 16777216], s / 16777216, ?_, by omega, by rw [hz]; simp, by rw [hzb], ho, hd.append (Dig.cons (Nat.mod_lt _ (by decide)) (Dig.nil _)), ?_, hbel⟩
  · rw [List.length_append, List.length_cons, List.length_nil, Nat.zero_add]
    rcases hl with hl | ⟨h1, h2, h3⟩
    · left; omega
    · right; exact ⟨by omega, by omega⟩
  · rw [List.length_append, List.length_cons, List.length_nil, Nat.zero_add]
    exact add_step hx hy rfl hv (s % 16777216) (s / 16777216) (by omega)

set_option maxRecDepth 100000 in
set_option maxHeartbeats 400000 in
theorem RAdd_small (a b : ByteArray) (w : World) (ha : a.size ≤ 100000000) (hb : b.size ≤ 100000000) (h1 : SN a < 256 ^ 7) (h2 : SN b < 256 ^ 7) :
    Calls Tryz.prog 13 #[.string a, .string b] w fun e w' => e = .returned (.string (Enc (SN a + SN b))) ∧ Below w.heap.size w w' := by
  have c1 := fun w => small_yes a 7 w (by omega) (by decide) h1
  have c2 := fun w => small_yes b 7 w (by omega) (by decide) h2
  have e7 : (256 : Nat) ^ 7 = 72057594037927936 := by decide
  rw [e7] at h1 h2
  have c3 := fun w => ROfN_any ((SN a + SN b : Nat) : Int) w (by omega)
  rw [Int.toNat_natCast, Int.natCast_add] at c3
  have hm1 : (SN a : Int) ≤ 72057594037927936 := by omega
  have hm2 : (SN b : Int) ≤ 72057594037927936 := by omega
  have C1 := Lib.hid c1; have C2 := Lib.hid c2; have C3 := Lib.hid c3
  clear c1 c2 c3 h1 h2 e7
  go_enter Tryz.func13, Tryz.ntmps13
  go_wp2_with fail
  refine (C1.out _).mono ?_
  rintro _ _ ⟨rfl, rfl⟩
  go_wp2_with fail
  refine (C2.out _).mono ?_
  rintro _ _ ⟨rfl, rfl⟩
  go_wp2_with fail
  refine (C3.out _).mono ?_
  rintro _ _ ⟨rfl, hb⟩
  go_wp2_with fail
  go_ret
  exact ⟨rfl, hb⟩

set_option maxRecDepth 100000 in
set_option maxHeartbeats 4000000 in
theorem RAdd_large (a b : ByteArray) (w : World) (ha : a.size ≤ 100000000) (hb : b.size ≤ 100000000) (hno : ¬ (SN a < 256 ^ 7 ∧ SN b < 256 ^ 7)) :
    Calls Tryz.prog 13 #[.string a, .string b] w fun e w' => e = .returned (.string (Enc (SN a + SN b))) ∧ Below w.heap.size w w' := by
  obtain ⟨i0, hi, hz0, hz1, hz2⟩ := info_parts info_int
  have hbb : (decide (SN a < 256 ^ 7) && decide (SN b < 256 ^ 7)) = false := by
    rw [Bool.and_eq_false_iff]
    rcases Nat.lt_or_ge (SN a) (256 ^ 7) with h | h
    · right; rw [decide_eq_false_iff_not]; exact fun h2 => hno ⟨h, h2⟩
    · left; rw [decide_eq_false_iff_not]; omega
  have c1 := fun w => small_any a 7 w (by omega) (by decide) _ rfl
  have c2 := fun w => small_any b 7 w (by omega) (by decide) _ rfl
  have c3 := fun w => rof_any a w (by omega)
  have c4 := fun w => rof_any b w (by omega)
  generalize decide (SN a < 256 ^ 7) = p1 at *
  generalize decide (SN b < 256 ^ 7) = p2 at *
  have C1 := Lib.hid c1; have C2 := Lib.hid c2; have C3 := Lib.hid c3; have C4 := Lib.hid c4
  clear c1 c2 c3 c4 hno
  obtain ⟨A, hA⟩ : ∃ A, A = SN a + SN b := ⟨_, rfl⟩
  rw [← hA]
  have HA := Lib.hid hA; clear hA
  have hpp : (p1 = false) ∨ (p1 = true ∧ p2 = false) := by cases p1 <;> cases p2 <;> simp_all
  clear hbb
  rcases hpp with rfl | ⟨rfl, rfl⟩
  all_goals
    go_enter Tryz.func13, Tryz.ntmps13
    go_wp2_with fail
    refine (C1.out _).mono ?_
    rintro _ _ ⟨z1, rfl, -, rfl⟩
    go_wp2_with fail
    refine (C2.out _).mono ?_
    rintro _ _ ⟨z2, rfl, -, rfl⟩
    go_wp2_with fail
    refine (C3.out _).mono ?_
    rintro _ w1 ⟨va, la, rfl, hsa, hda, hta, hva, hla, hb1⟩
    have HVA := Lib.hid hva; clear hva
    go_wp2_with fail
    refine (C4.out _).mono ?_
    rintro _ w2 ⟨vb, lb, rfl, hsb, hdb, htb, hvb, hlb, hb2⟩
    have HVB := Lib.hid hvb; clear hvb
    have hsa2 := hsa.below hb2
    obtain ⟨aa, ca, rfl, hca, _, hra⟩ := hsa2
    obtain ⟨ab, cb, rfl, hcb, _, hrb⟩ := hsb
    have HW := Lib.hid (hb1.trans (hb2.mono hb1.size))
    have hsz := Nat.le_trans hb1.size hb2.size
    obtain ⟨n, hn⟩ : ∃ n, la.length = n := ⟨_, rfl⟩
    obtain ⟨m, hm⟩ : ∃ m, lb.length = m := ⟨_, rfl⟩
    rw [hn] at hca hra hla ⊢
    rw [hm] at hcb hrb hlb ⊢
    obtain ⟨N, hN1, hN2, hN3⟩ : ∃ N, n ≤ N ∧ m ≤ N ∧ (N ≤ n ∨ N ≤ m) := ⟨max n m, by omega, by omega, by omega⟩
    have HN := Lib.hid hn; have HM := Lib.hid hm; have HRA := Lib.hid hra; have HRB := Lib.hid hrb; have HDA := Lib.hid hda; have HDB := Lib.hid hdb
    have hNb : N ≤ 66666667 := by omega
    clear hn hm hra hrb hda hdb hsa hb1 hb2 hta htb
    go_wp2
    go_loopw [11, 12, 13] (fun o c k wr => RAddRel w2 la lb N o c k wr) (fun _ _ k _ => N + 1 - (intOf k).toNat)
    case atStart => exact ⟨[], 0, .inl (by simp), by omega, rfl, rfl, OwnL.nil _ _ _ _, Dig.nil _, by simp, Below.refl _ _⟩
    case round =>
      obtain ⟨l, b, hl, hb, rfl, rfl, ho, hd, hv, hbel⟩ := hrel
      have HO := Lib.hid ho; have HD := Lib.hid hd; have HVL := Lib.hid hv; have HBel := Lib.hid hbel
      clear ho hd hv hbel
      obtain ⟨K, hK⟩ : ∃ K, l.length = K := ⟨_, rfl⟩
      have HK := Lib.hid hK
      rw [hK] at hl ⊢
      clear hK
      have hown : wr.ownsRow w2.heap.size 3 1 u11 K (ints .i64 l) := by rw [← HK.out]; exact HO.out
      have hwB := HBel.out.size
      obtain ⟨x, hx⟩ : ∃ x, la.getD K 0 = x := ⟨_, rfl⟩
      obtain ⟨y, hy⟩ : ∃ y, lb.getD K 0 = y := ⟨_, rfl⟩
      have hxB : x < 16777216 := by rw [← hx]; exact HDA.out.get (by decide) K
      have hyB : y < 16777216 := by rw [← hy]; exact HDB.out.get (by decide) K
      have hcu : (K < n ∧ ∃ bu ou, aa = some ⟨bu, ou, none⟩ ∧ wr.cell? ⟨bu, ou + K, none⟩ = some (.int .i64 (x : Int))) ∨ (n ≤ K ∧ x = 0) := by
        rcases Nat.lt_or_ge K n with h | h
        · obtain ⟨bv, ov, hav, hbv, hrv⟩ := HRA.out (by omega)
          have hcv := hrv K (by rw [HN.out]; exact h)
          rw [hx] at hcv
          exact .inl ⟨h, bv, ov, hav, (HBel.out.cell (p := ⟨bv, ov + K, none⟩) hbv).trans hcv⟩
        · refine .inr ⟨h, ?_⟩
          rw [← hx, List.getD_eq_getElem?_getD, List.getElem?_eq_none (by rw [HN.out]; exact h)]
          rfl
      have hcv : (K < m ∧ ∃ bu ou, ab = some ⟨bu, ou, none⟩ ∧ wr.cell? ⟨bu, ou + K, none⟩ = some (.int .i64 (y : Int))) ∨ (m ≤ K ∧ y = 0) := by
        rcases Nat.lt_or_ge K m with h | h
        · obtain ⟨bv, ov, hav, hbv, hrv⟩ := HRB.out (by omega)
          have hcv := hrv K (by rw [HM.out]; exact h)
          rw [hy] at hcv
          exact .inl ⟨h, bv, ov, hav, (HBel.out.cell (p := ⟨bv, ov + K, none⟩) hbv).trans hcv⟩
        · refine .inr ⟨h, ?_⟩
          rw [← hy, List.getD_eq_getElem?_getD, List.getElem?_eq_none (by rw [HM.out]; exact h)]
          rfl
      have HX := Lib.hid hx; have HY := Lib.hid hy
      clear hx hy HRA HRB
      by_cases hend : N ≤ K ∧ b = 0
      · obtain ⟨hNK, rfl⟩ := hend
        have hk1 : n ≤ K := by omega
        have hk2 : m ≤ K := by omega
        clear hcu hcv
        go_wp2_with fail
        refine (rnumber_any HO.out.sl HD.out (by have := HK.out; omega)).mono ?_
        rintro _ w3 ⟨rfl, hb3⟩
        go_wp2_with fail
        go_ret
        refine ⟨?_, (HW.out.trans (HBel.out.mono hsz)).trans (hb3.mono (Nat.le_trans hsz hwB))⟩
        have h := HVL.out
        rw [List.take_of_length_le (by have := HN.out; have := HK.out; omega), List.take_of_length_le (by have := HM.out; have := HK.out; omega), HVA.out, HVB.out, ← HA.out] at h
        rw [← h]
        simp
      · have hlt : K < N ∨ (K = N ∧ b = 1) := by
          rcases hl with h | ⟨h1, h2⟩
          · rcases Nat.lt_or_ge K N with h3 | h3
            · exact .inl h3
            · exact .inr ⟨by omega, by omega⟩
          · exact absurd ⟨by omega, h2⟩ hend
        have hstep : K < N ∨ (K = N ∧ x = 0 ∧ y = 0) := by
          rcases hlt with h | ⟨h, -⟩
          · exact .inl h
          · refine .inr ⟨h, ?_, ?_⟩
            · rcases hcu with ⟨h2, -⟩ | ⟨-, h2⟩
              · omega
              · exact h2
            · rcases hcv with ⟨h2, -⟩ | ⟨-, h2⟩
              · omega
              · exact h2
        have HST := Lib.hid hstep
        obtain ⟨t, ht⟩ : ∃ t, t = b + x + y := ⟨_, rfl⟩
        have HT := Lib.hid ht
        clear ht
        clear hend hl hstep
        rcases hcu with ⟨hKn, bu, ou, hau, hcu⟩ | ⟨hKn, hx0⟩ <;> rcases hcv with ⟨hKm, bv, ov, hav, hcv⟩ | ⟨hKm, hy0⟩
        case' inl.inl => subst hau; subst hav
        case' inl.inr => subst hau; subst hy0
        case' inr.inl => subst hx0; subst hav
        case' inr.inr => subst hx0; subst hy0; have hbp : 1 ≤ b := by omega
        all_goals
          have hKb : K ≤ 66666667 := by omega
          have HN3 := Lib.hid hN3; have HLT := Lib.hid hlt
          clear hN3 hlt
          go_wp2_with (at_builtin; refine wpList_append_own_at _ rfl _ _ 76 rfl w2.heap.size 3 i0 (.int .i64 0) 1 8 Tryz.underlying76 hi hz0 hz1 hz2 rfl (by decide) _ _ _ rfl (hown.alloc _) ⟨wr.heap.size, 0, none⟩ 1 1 [_] rfl rfl (cell_one_new _ _ _) (by intro u hu; simp at hu; subst hu; rfl) (by unfold maxLen; have := HLT.out; omega) (by have := HLT.out; omega) (by simp; omega) ?_; intro v' w1 hown' hgrow _ _)
          have hb1 : Below w2.heap.size w2 w1 := (HBel.out.alloc hwB _).trans (OwnL.grown (k := .i64) (l := l) (e := 3) (by rw [OwnL, HK.out]; exact hown.alloc _) (by simp; omega) hgrow)
          have hown2 := OwnL.snoc' (t % 16777216) (by rw [HK.out]; exact hown') (by have := HT.out; omega)
          refine ⟨RAddRel.step (by rw [HK.out]; exact HST.out) HD.out (by rw [HK.out]; exact HX.out) (by rw [HK.out]; exact HY.out) HVL.out hb hxB hyB HT.out hown2 hb1 _ _ (by rw [HK.out]) (by have := HT.out; omega), by have := HLT.out; simp only [intOf]; omega⟩

/-- **sortesref01.Add**. -/
theorem RAdd_any (a b : ByteArray) (w : World) (ha : a.size ≤ 100000000) (hb : b.size ≤ 100000000) :
    Calls Tryz.prog 13 #[.string a, .string b] w fun e w' => e = .returned (.string (Enc (SN a + SN b))) ∧ Below w.heap.size w w' := by
  by_cases h : SN a < 256 ^ 7 ∧ SN b < 256 ^ 7
  · exact RAdd_small a b w ha hb h.1 h.2
  · exact RAdd_large a b w ha hb h

#print axioms RAdd_any
end Go.Proofs.YtolmjeglaolhlaaGreatDoor
