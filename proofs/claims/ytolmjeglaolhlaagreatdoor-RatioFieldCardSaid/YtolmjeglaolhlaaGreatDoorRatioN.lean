/- ratio.Common of a list of numbers of which none is below nought. -/
import Derived.Test.YtolmjeglaolhlaaGreatDoorRatioM
import Derived.Test.YtolmjeglaolhlaaGreatDoorROwn
namespace Go.Proofs.YtolmjeglaolhlaaGreatDoor
open Go.RowKit Num

/-- A slice of strings. -/
def StrS (W : World) (v : Value) (ss : List ByteArray) : Prop :=
  ∃ (a : Option Addr) (cap : Nat), v = .slice a ss.length cap ∧ ss.length ≤ cap ∧ cap ≤ 9223372036854775807 ∧ (0 < ss.length → ∃ b off, a = some ⟨b, off, none⟩ ∧ b < W.heap.size ∧ ∀ i (h : i < ss.length), W.cell? ⟨b, off + i, none⟩ = some (.string ss[i]))
theorem StrS.below {W X : World} {v : Value} {ss : List ByteArray} (h : StrS W v ss) (g : Below W.heap.size W X) : StrS X v ss := by
  obtain ⟨a, cap, rfl, h1, h2, h3⟩ := h
  refine ⟨a, cap, rfl, h1, h2, fun hl => ?_⟩
  obtain ⟨b, off, rfl, hb, hr⟩ := h3 hl
  exact ⟨b, off, rfl, Nat.lt_of_lt_of_le hb g.size, fun i hi => (g.cell (p := ⟨b, _, none⟩) hb).trans (hr i hi)⟩

theorem info_nat : (Tryz.prog.info? 24).map (fun i => (i.zero, i.size, i.bytes)) = some (some (.string ⟨#[]⟩), 1, 16) := by kernel_rfl

/-- The numerators over a common denominator. -/
def nums (D : Nat) (qs : List Rat) : List ByteArray := qs.map fun q => Enc (q.num.natAbs * (D / q.den))

theorem nums_take (D : Nat) (qs : List Rat) (k : Nat) (hk : k < qs.length) : (nums D (qs.take (k + 1))).map Value.string = (nums D (qs.take k)).map Value.string ++ [.string (Enc (qs[k].num.natAbs * (D / qs[k].den)))] := by
  unfold nums
  rw [List.take_succ_eq_append_getElem hk, List.map_append, List.map_append]
  rfl
theorem owns_below {w w' : World} {B n : Nat} {e : TypeId} {v : Value} {cs : List Value} (h : w.ownsRow B e 1 v n cs) (hb : Below w.heap.size w w') : w'.ownsRow B e 1 v n cs := by
  refine ⟨h.1, ?_⟩
  rcases h.2 with h0 | ⟨g, cap, cur, rfl, hB, hg, h1, h2, h3, h4⟩
  · exact .inl h0
  · exact .inr ⟨g, cap, cur, rfl, hB, (hb.block g (Array.getElem?_eq_some_iff.1 hg).1).trans hg, h1, h2, h3, h4⟩
theorem owns_grown {w w' : World} {B n : Nat} {e : TypeId} {v : Value} {cs : List Value} (h : w.ownsRow B e 1 v n cs) (hB : B ≤ w.heap.size) (hg : w.grownBy w' v.ownBlock) : Below B w w' := by
  refine (Below.refl B w).grown hg hB (fun j ej => ?_)
  rcases h.2 with ⟨rfl, _⟩ | ⟨g, cap, cur, rfl, h1, _⟩
  · cases ej
  · cases ej; exact h1
theorem owns_strs {w : World} {B : Nat} {e : TypeId} {v : Value} {ss : List ByteArray} (h : w.ownsRow B e 1 v ss.length (ss.map Value.string)) : StrS w v ss := by
  have h' := h
  rcases h.2 with ⟨rfl, hn⟩ | ⟨g, cap, cur, rfl, _, hg, hnc, hcm, _, _⟩
  · obtain rfl : ss = [] := List.length_eq_zero_iff.1 hn
    exact ⟨none, 0, rfl, Nat.le_refl _, by decide, fun hl => by simp at hl⟩
  · refine ⟨_, cap, rfl, hnc, by unfold maxLen at hcm; omega, fun _ => ⟨g, 0, rfl, (Array.getElem?_eq_some_iff.1 hg).1, fun i hi => ?_⟩⟩
    have hc := World.ownsRow.cells h' (g := g) rfl i (.string ss[i]) (by rw [List.getElem?_map, List.getElem?_eq_getElem hi]; rfl)
    rw [WideShapes.add_plain] at hc
    exact hc

def ComRel (w : World) (qs : List Rat) (i : Value) (wr : World) : Prop := ∃ j : Nat, j ≤ qs.length ∧ i = .int .i64 (j : Int) ∧ Below w.heap.size w wr
def ComRel2 (w : World) (D : Nat) (qs : List Rat) (o i : Value) (wr : World) : Prop :=
  ∃ j : Nat, j ≤ qs.length ∧ i = .int .i64 (j : Int) ∧ wr.ownsRow w.heap.size 24 1 o j ((nums D (qs.take j)).map Value.string) ∧ Below w.heap.size w wr

set_option maxRecDepth 100000 in
set_option maxHeartbeats 4000000 in
/-- **ratio.Common**. -/
theorem Common_yes {v : Value} {qs : List Rat} {w : World} (h : SlR w v qs) (hz : ∀ q ∈ qs, Sz 600000 q) (hd : ∀ j, dens (qs.take j) < 256 ^ 600000) (hn0 : ∀ q ∈ qs, 0 ≤ q.num) (hlen : qs.length ≤ 1000000) :
    Calls Tryz.prog 34 #[v] w fun e w' => ∃ v', e = .returned (.tuple #[.string (Enc (dens qs)), v', .bool true]) ∧ w'.ownsRow w.heap.size 24 1 v' qs.length ((nums (dens qs) qs).map Value.string) ∧ Below w.heap.size w w' := by
  obtain ⟨i0, hi, iz0, iz1, iz2⟩ := info_parts info_nat
  have d0 := fun w' (hb : Below w.heap.size w w') => fold_lcm (h.below hb) hz hd
  have hD : dens qs < 256 ^ 600000 := by have := hd qs.length; rwa [List.take_length] at this
  have zD := Enc_size_le hD
  obtain ⟨a, cap, rfl, h1, h2, h3⟩ := h
  have d1 := fun w => Of_any 1 w (by omega)
  rw [show (1 : Int).toNat = 1 from rfl] at d1
  obtain ⟨n, hn⟩ : ∃ n, qs.length = n := ⟨_, rfl⟩
  rw [hn] at h1 d0 hlen ⊢
  obtain ⟨dn, hdn⟩ : ∃ D, dens qs = D := ⟨_, rfl⟩
  rw [hdn] at d0 zD ⊢
  obtain ⟨DS, hDS⟩ : ∃ D, Enc dn = D := ⟨_, rfl⟩
  rw [hDS] at d0 zD ⊢
  obtain ⟨o, ho⟩ : ∃ o, Enc 1 = o := ⟨_, rfl⟩
  rw [ho] at d0 d1
  have HR := Lib.hid h3; have HZ := Lib.hid hz; have HN0 := Lib.hid hn0; have D0 := Lib.hid d0; have D1 := Lib.hid d1; have HN := Lib.hid hn; have HDS := Lib.hid hDS
  clear h3 hz hn0 d0 d1 hn ho hDS hd hD hdn
  go_enter Tryz.func34, Tryz.ntmps34
  go_wp2_with fail
  go_loopw [16] (fun i wr => ComRel w qs i wr) (fun i _ => n - (intOf i).toNat)
  case atStart => exact ⟨0, by omega, rfl, Below.refl _ _⟩
  case round =>
    obtain ⟨j, hj, rfl, hbel⟩ := hrel
    have HBel := Lib.hid hbel
    clear hbel
    have hjn : j ≤ n := by have := HN.out; omega
    rcases Nat.lt_or_ge j n with hlt | hge
    · have hjl : j < qs.length := by have := HN.out; omega
      obtain ⟨b, off, rfl, hb, hr⟩ := HR.out (by omega)
      obtain ⟨r0, r1, r2⟩ := hr.below hb HBel.out j hjl
      have d2 := fun w => RRat_q qs[j] w ((HZ.out _ (List.getElem_mem hjl)).mono (by decide))
      have hs := HN0.out _ (List.getElem_mem hjl)
      rw [decide_eq_false (by omega : ¬ qs[j].num < 0)] at r0
      unfold rv at d2
      rw [decide_eq_false (by omega : ¬ qs[j].num < 0)] at d2
      generalize Enc qs[j].num.natAbs = x at *
      generalize Enc qs[j].den = y at *
      have HA := Lib.hid (HBel.out.alloc HBel.out.size (.cells #[.bool false, .string x, .string y] 39))
      have D2 := Lib.hid d2
      clear d2 hr hs
      go_wp2_with fail
      refine (D2.out _).mono ?_
      rintro _ w2 ⟨rfl, g2⟩
      have HB2 := Lib.hid (HA.out.trans (g2.mono HA.out.size))
      clear g2
      go_wp2_with fail
      go_roundw
      case rel => exact ⟨j + 1, by have := HN.out; omega, by go_num, HB2.out⟩
      case measure => simp [intOf]; omega
    · obtain rfl : j = n := by omega
      clear hge hj hjn
      go_wp2_with fail
      refine (D1.out _).mono ?_
      rintro _ w1 ⟨rfl, g1⟩
      have HB1 := Lib.hid (HBel.out.trans (g1.mono HBel.out.size))
      clear g1
      go_wp2_with fail
      refine (D0.out _ HB1.out).mono ?_
      rintro _ w2 ⟨rfl, g2⟩
      have HB2 := Lib.hid (HB1.out.trans (g2.mono HB1.out.size))
      clear g2 HB1
      go_wp2_with fail
      go_loopw [8, 33] (fun o i wr => ComRel2 w dn qs o i wr) (fun _ i _ => j - (intOf i).toNat)
      case atStart => exact ⟨0, by omega, rfl, World.ownsRow_nil _ _ _ _, HB2.out⟩
      case round =>
        obtain ⟨k, hk, rfl, hown, hbel⟩ := hrel
        have HBel2 := Lib.hid hbel
        have HO := Lib.hid hown
        clear hbel
        have hkn : k ≤ j := by have := HN.out; omega
        rcases Nat.lt_or_ge k j with hlt | hge
        · have hkl : k < qs.length := by have := HN.out; omega
          obtain ⟨b, off, rfl, hb, hr⟩ := HR.out (by omega)
          obtain ⟨r0, r1, r2⟩ := hr.below hb HBel2.out k hkl
          have hszk := HZ.out _ (List.getElem_mem hkl)
          have zk := sz_strs hszk
          have zq : (Enc (dn / qs[k].den)).size ≤ 600000 := by
            exact Enc_size_le (Nat.lt_of_le_of_lt (Nat.div_le_self _ _) (Enc_small (k := 600000) (by rw [HDS.out]; exact zD)))
          have d3 := fun w => Quo_is (Enc (dn / qs[k].den)) (Enc (dn % qs[k].den)) DS (Enc qs[k].den) w (by omega) (by omega) (by rw [SN_Enc]; exact qs[k].den_pos) (by rw [← HDS.out, SN_Enc, SN_Enc]) (by rw [← HDS.out, SN_Enc, SN_Enc])
          have d4 := fun w => Mul_is (Enc (qs[k].num.natAbs * (dn / qs[k].den))) (Enc qs[k].num.natAbs) (Enc (dn / qs[k].den)) w (by omega) (by omega) (by rw [SN_Enc, SN_Enc])
          obtain ⟨S, hS⟩ : ∃ S, Enc (qs[k].num.natAbs * (dn / qs[k].den)) = S := ⟨_, rfl⟩
          have hst := nums_take dn qs k hkl
          rw [hS] at hst
          have HS := Lib.hid hst
          rw [hS] at d4
          generalize Enc (dn / qs[k].den) = q1 at *
          generalize Enc (dn % qs[k].den) = q2 at *
          generalize decide (qs[k].num < 0) = s at *
          generalize Enc qs[k].num.natAbs = x at *
          generalize Enc qs[k].den = y at *
          have D3 := Lib.hid d3; have D4 := Lib.hid d4
          have HA := Lib.hid (HBel2.out.alloc HBel2.out.size (.cells #[.bool s, .string x, .string y] 39))
          have hbk := Blk.new wr 39 [.bool s, .string x, .string y]
          have R := Lib.hid hbk
          have ho2 := hown.alloc (.cells #[.bool s, .string x, .string y] 39)
          have HO2 := Lib.hid ho2
          clear d3 d4 hr hS zk zq hszk hbk hown HO ho2 hst
          go_upto_region 12 with fail
          generalize wr.alloc (.cells #[.bool s, .string x, .string y] 39) = W2 at *
          obtain ⟨c0, c1, c2⟩ := R.out.rc
          clear r0 r1 r2
          go_wp2_with fail
          refine (D3.out _).mono ?_
          rintro _ w3 ⟨rfl, g3⟩
          replace R := Lib.hid (R.out.on g3); replace HA := Lib.hid (HA.out.trans (g3.mono HA.out.size)); replace HO2 := Lib.hid (owns_below HO2.out g3); clear g3 c0 c1 c2
          obtain ⟨c0, c1, c2⟩ := R.out.rc
          go_wp2_with fail
          refine (D4.out _).mono ?_
          rintro _ w4 ⟨rfl, g3⟩
          replace HA := Lib.hid (HA.out.trans (g3.mono HA.out.size)); replace HO2 := Lib.hid (owns_below HO2.out g3); clear g3 c0 c1 c2 R
          have hown := HO2.out
          have hwB := HA.out.size
          go_wp2_with (at_builtin; refine wpList_append_own_at _ rfl _ _ 26 rfl w.heap.size 24 i0 (.string ⟨#[]⟩) 1 16 Tryz.underlying26 hi iz0 iz1 iz2 rfl (by decide) _ _ _ rfl (hown.alloc _) ⟨w4.heap.size, 0, none⟩ 1 1 [_] rfl rfl (cell_one_new _ _ _) (by intro u hu; simp at hu; subst hu; rfl) (by unfold maxLen; omega) (by omega) (by simp; omega) ?_; intro v' w5 hown' hgrow _ _)
          have hb5 : Below w.heap.size w w5 := (HA.out.alloc hwB _).trans (owns_grown (hown.alloc _) (by simp; omega) hgrow)
          go_roundw
          case rel => exact ⟨k + 1, by have := HN.out; omega, by go_num, by rw [HS.out]; exact hown', hb5⟩
          case measure => simp [intOf]; omega
        · obtain rfl : k = j := by omega
          have e : qs.take k = qs := by rw [← HN.out, List.take_length]
          rw [e] at hown
          have HO := Lib.hid hown
          clear hown
          go_wp2_with fail
          go_ret3
          exact ⟨_, rfl, HO.out, HBel2.out⟩

#print axioms Common_yes
end Go.Proofs.YtolmjeglaolhlaaGreatDoor
