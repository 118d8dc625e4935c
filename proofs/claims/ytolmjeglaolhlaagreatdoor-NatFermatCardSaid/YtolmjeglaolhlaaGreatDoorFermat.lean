/- sorteslaw01.NatFermat: the walk. -/
import Derived.Test.YtolmjeglaolhlaaGreatDoorSanity
import Derived.Test.YtolmjeglaolhlaaGreatDoorNats
import Derived.Test.YtolmjeglaolhlaaGreatDoorOddPow
import Derived.Test.YtolmjeglaolhlaaGreatDoorROwn
import Derived.Test.YtolmjeglaolhlaaGreatDoorPlain
import Derived.Test.YtolmjeglaolhlaaGreatDoorNatA
import Derived.Test.YtolmjeglaolhlaaGreatDoorRMul
import Derived.Deep.QuietTactic
import Derived.BigQuiet
import Derived.RegionTactic
import Derived.BigRegion
import Derived.Deep.RegionHeld3
namespace Go.Proofs.YtolmjeglaolhlaaGreatDoor
open Go.RowKit Num

theorem powStr_sum (a x y m : Nat) (h : m ≠ 0) : Enc (SN (powStr a x m) * SN (powStr a y m) % m) = powStr a (x + y) m := by
  unfold powStr
  rw [if_neg h, if_neg h, if_neg h, SN_Enc, SN_Enc, ← Nat.mul_mod, ← Nat.pow_add]
theorem powStr_size {a e m : Nat} {k : Nat} (h : m < 256 ^ k) : (powStr a e m).size ≤ k := by
  unfold powStr
  split
  · rw [Enc_zero]; exact Nat.zero_le _
  · exact Enc_size_le (Nat.lt_trans (Nat.mod_lt _ (by omega)) h)
theorem fermat_str (a : Nat) (h : a % 2305843009213691579 ≠ 0) (m : Nat) (hm : m = 2305843009213691578) : powStr a m 2305843009213691579 = ⟨#[1]⟩ := by
  unfold powStr
  rw [if_neg (by decide), fermatP a h m hm]
  kernel_rfl
theorem fermat_zero (a : Nat) (h : a % 2305843009213691579 = 0) (m : Nat) (hm : m ≠ 0) : powStr a m 2305843009213691579 = ⟨#[]⟩ := by
  unfold powStr
  rw [if_neg (by decide), Nat.pow_mod, h, Nat.zero_pow (Nat.pos_of_ne_zero hm), Nat.zero_mod]
  kernel_rfl
theorem Enc_nz {n : Nat} (h : n ≠ 0) : Enc n ≠ ⟨#[]⟩ := by
  intro e
  rw [← Enc_zero] at e
  exact h (Enc_inj e)

set_option maxRecDepth 100000 in
set_option maxHeartbeats 4000000 in
theorem Fermat_walk {v1 v2 : Value} {l1 l2 : List Nat} {w : World} (x y : Nat) (hx : x < 4294967296) (hy : y < 4294967296) (he : Env w) (g1 : Sl .u8 w v1 l1) (g2 : Sl .u8 w v2 l2) :
    Calls Tryz.prog 4 #[v1, .agg #[.int .u32 (x : Int), .int .u32 (y : Int)], v2] w fun e w' => e = .returned (.bool true) ∧ Below w.heap.size w w' := by
  have g1' := g1; have g2' := g2
  obtain ⟨a1, c1, rfl, hn1, hc1, -⟩ := g1'
  obtain ⟨a2, c2, rfl, hn2, hc2, -⟩ := g2'
  obtain ⟨n1, hnn1⟩ : ∃ n, l1.length = n := ⟨_, rfl⟩
  obtain ⟨n2, hnn2⟩ : ∃ n, l2.length = n := ⟨_, rfl⟩
  rw [hnn1] at hn1 g1 ⊢
  rw [hnn2] at hn2 g2 ⊢
  obtain ⟨m1, hm1, hi1, hb1⟩ : ∃ m : Nat, m ≤ n1 ∧ min (n1 : Int) 24 = (m : Int) ∧ m ≤ 24 := ⟨min n1 24, by omega, by omega, by omega⟩
  obtain ⟨m2, hm2, hi2, hb2⟩ : ∃ m : Nat, m ≤ n2 ∧ min (n2 : Int) 24 = (m : Int) ∧ m ≤ 24 := ⟨min n2 24, by omega, by omega, by omega⟩
  have k1 : ∀ w', Below w.heap.size w w' → _ := fun w' hb => conv_cut ((g1.cutTo m1 hm1).below hb)
  have k2 : ∀ w', Below w.heap.size w w' → _ := fun w' hb => conv_cut ((g2.cutTo m2 hm2).below hb)
  have hsa := bytes_size (l1.take m1)
  have hsz := bytes_size (l2.take m2)
  rw [List.length_take, hnn1, Nat.min_eq_left hm1] at hsa
  rw [List.length_take, hnn2, Nat.min_eq_left hm2] at hsz
  generalize (ByteArray.mk ((l1.take m1).map UInt8.ofNat).toArray) = a at *
  generalize (ByteArray.mk ((l2.take m2).map UInt8.ofNat).toArray) = z at *
  clear hnn1 hnn2 g1 g2
  have hz24 := size_lt (a := z) (k := 24) (by omega)
  have ha24 := size_lt (a := a) (k := 24) (by omega)
  obtain ⟨u, hu⟩ : ∃ s, s = Enc x := ⟨_, rfl⟩
  obtain ⟨v, hv⟩ : ∃ s, s = Enc y := ⟨_, rfl⟩
  obtain ⟨uv, huv⟩ : ∃ s, s = Enc (x + y) := ⟨_, rfl⟩
  obtain ⟨p, hp⟩ : ∃ s, s = powStr (SN a) x (SN z) := ⟨_, rfl⟩
  obtain ⟨q, hq⟩ : ∃ s, s = powStr (SN a) y (SN z) := ⟨_, rfl⟩
  obtain ⟨r, hr⟩ : ∃ s, s = powStr (SN a) (x + y) (SN z) := ⟨_, rfl⟩
  obtain ⟨pq, hpq⟩ : ∃ s, s = Enc (SN p * SN q) := ⟨_, rfl⟩
  obtain ⟨P, hP⟩ : ∃ s, s = Enc 2305843009213691579 := ⟨_, rfl⟩
  obtain ⟨P1, hP1⟩ : ∃ s, s = Enc 2305843009213691578 := ⟨_, rfl⟩
  obtain ⟨o, ho⟩ : ∃ s, s = powStr (SN a) 2305843009213691578 2305843009213691579 := ⟨_, rfl⟩
  obtain ⟨t, ht⟩ : ∃ s, s = Enc (SN a % 2305843009213691579) := ⟨_, rfl⟩
  obtain ⟨t1, ht1⟩ : ∃ s, s = Enc (SN a / 2305843009213691579) := ⟨_, rfl⟩
  obtain ⟨q1, hq1⟩ : ∃ s, s = Enc (SN pq / SN z) := ⟨_, rfl⟩
  have zu : u.size ≤ 4 := by rw [hu]; exact Enc_size_le (by omega)
  have zv : v.size ≤ 4 := by rw [hv]; exact Enc_size_le (by omega)
  have zuv : uv.size ≤ 5 := by rw [huv]; exact Enc_size_le (by omega)
  have zp : p.size ≤ 24 := by rw [hp]; exact powStr_size hz24
  have zq : q.size ≤ 24 := by rw [hq]; exact powStr_size hz24
  have zpq : pq.size ≤ 48 := by
    rw [hpq]; refine Enc_size_le ?_
    rw [show 48 = 24 + 24 from rfl, Nat.pow_add]
    exact Nat.mul_lt_mul'' (size_lt zp) (size_lt zq)
  have zP : P.size ≤ 8 := by rw [hP]; exact Enc_size_le (by decide)
  have zP1 : P1.size ≤ 8 := by rw [hP1]; exact Enc_size_le (by decide)
  have d1 := fun w => ROfN_any (x : Int) w (by omega)
  have d2 := fun w => ROfN_any (y : Int) w (by omega)
  rw [Int.toNat_natCast, ← hu] at d1
  rw [Int.toNat_natCast, ← hv] at d2
  have d3 := fun w => Pow_is p (decide (SN z ≠ 0)) a u z w (by omega) (by omega) (by omega) (by rw [hu, SN_Enc, hp]) rfl
  have d4 := fun w => Pow_is q (decide (SN z ≠ 0)) a v z w (by omega) (by omega) (by omega) (by rw [hv, SN_Enc, hq]) rfl
  have d5 := fun w => Add_is uv u v w (by omega) (by omega) (by rw [hu, hv, SN_Enc, SN_Enc, huv])
  have d6 := fun w => Pow_is r (decide (SN z ≠ 0)) a uv z w (by omega) (by omega) (by omega) (by rw [huv, SN_Enc, hr]) rfl
  have d7 := fun w => Bits_is (natBits (SN z)) z w (by omega) rfl
  have d8 := fun w => Mul_is pq p q w (by omega) (by omega) hpq.symm
  have d9 := fun w (h : SN z ≠ 0) => Quo_is q1 r pq z w (by omega) (by omega) (by omega) hq1.symm (by rw [hpq, SN_Enc, hp, hq, powStr_sum _ _ _ _ h, hr])
  have d10 := fun w => ROfN_any 2305843009213691579 w (by omega)
  rw [show (2305843009213691579 : Int).toNat = 2305843009213691579 from rfl, ← hP] at d10
  have d11 := fun w => ROfN_any 2305843009213691578 w (by omega)
  rw [show (2305843009213691578 : Int).toNat = 2305843009213691578 from rfl, ← hP1] at d11
  have d12 := fun w => Pow_is o true a P1 P w (by omega) (by omega) (by omega) (by rw [hP, hP1, SN_Enc, SN_Enc, ho]) (by rw [hP, SN_Enc]; rfl)
  have d13 := fun w => Quo_is t1 t a P w (by omega) (by omega) (by rw [hP, SN_Enc]; decide) (by rw [hP, SN_Enc, ht1]) (by rw [hP, SN_Enc, ht])
  have hend : (t = ⟨#[]⟩ ∧ o = ⟨#[]⟩) ∨ (t ≠ ⟨#[]⟩ ∧ o = ⟨#[1]⟩) := by
    by_cases h : SN a % 2305843009213691579 = 0
    · left
      rw [ht, ho, fermat_zero _ h _ (by decide), h, Enc_zero]
      exact ⟨rfl, rfl⟩
    · right
      rw [ht, ho, fermat_str _ h _ rfl]
      exact ⟨Enc_nz h, rfl⟩
  have hbz : decide ((natBits (SN z) : Int) > 0) = decide (SN z ≠ 0) := by
    congr 1
    apply propext
    rcases Nat.eq_zero_or_pos (SN z) with h | h
    · rw [h]; simp [natBits]
    · have := natBits_pos h
      constructor
      · intro _; omega
      · intro _; omega
  generalize natBits (SN z) = nb at *
  have D1 := Lib.hid d1; have D2 := Lib.hid d2; have D3 := Lib.hid d3; have D4 := Lib.hid d4; have D5 := Lib.hid d5; have D6 := Lib.hid d6; have D7 := Lib.hid d7; have D8 := Lib.hid d8; have D9 := Lib.hid d9; have D10 := Lib.hid d10
  have D11 := Lib.hid d11; have D12 := Lib.hid d12; have D13 := Lib.hid d13; have HEND := Lib.hid hend
  have K1 := Lib.hid k1; have K2 := Lib.hid k2
  clear d1 d2 d3 d4 d5 d6 d7 d8 d9 d10 d11 d12 d13 hend k1 k2 hu hv huv hp hq hr hpq hP hP1 ho ht ht1 hq1 zu zv zuv zp zq zpq zP zP1 hz24 ha24 hsa hsz
  obtain ⟨f, hf⟩ : ∃ f, f = decide (SN z ≠ 0) := ⟨_, rfl⟩
  have HF : Hid (f = true → SN z ≠ 0) := Lib.hid (by intro h; rw [hf] at h; exact of_decide_eq_true h)
  rw [← hf] at hbz
  have d3 := D3.out; have d4 := D4.out; have d6 := D6.out
  rw [← hf] at d3 d4 d6
  have D3' := Lib.hid d3; have D4' := Lib.hid d4; have D6' := Lib.hid d6
  clear D3 D4 D6 hf d3 d4 d6
  have hbx := Blk.new w 31 [.int .u32 (x : Int), .int .u32 (y : Int)]
  have HBX := Lib.hid hbx
  have HB := Lib.hid ((Below.refl w.heap.size w).alloc (Nat.le_refl _) (.cells #[.int .u32 (x : Int), .int .u32 (y : Int)] 31))
  clear hbx
  go_enter Tryz.func4, Tryz.ntmps4
  go_wp2_with fail
  refine (sanity_any _ (he.below HB.out)).mono ?_
  rintro _ w1 ⟨rfl, hn⟩
  have hcx1 := (hn.cell (p := ⟨w.heap.size, 0, none⟩) (by simp)).trans (HBX.out.cell 0)
  have hcy1 := (hn.cell (p := ⟨w.heap.size, 1, none⟩) (by simp)).trans (HBX.out.cell 1)
  have hz1 : w.heap.size < w1.heap.size := by have := hn.size; simp at this; omega
  have hb1' := HB.out.trans (hn.mono HB.out.size)
  clear hn HB
  have q1 : (0 : Int) ≤ (m1 : Int) := by omega
  have q1' : (m1 : Int) ≤ (c1 : Int) := by omega
  have q2 : (0 : Int) ≤ (m2 : Int) := by omega
  have q2' : (m2 : Int) ≤ (c2 : Int) := by omega
  have e1 := fun q => K1.out (w1.drewN q) (belowDrewN hb1' q)
  have e2 := fun q => K2.out (w1.drewN q) (belowDrewN hb1' q)
  clear K1 K2
  go_wp2_with fail
  go_quiet (fail)
  have HB2 := Lib.hid (belowDrewN hb1' nq)
  have hcx2 : (w1.drewN nq).cell? ⟨w.heap.size, 0, none⟩ = some (.int .u32 (x : Int)) := ((belowDrewN (Below.refl w1.heap.size w1) nq).cell (p := ⟨w.heap.size, 0, none⟩) hz1).trans hcx1
  have hcy2 : (w1.drewN nq).cell? ⟨w.heap.size, 1, none⟩ = some (.int .u32 (y : Int)) := ((belowDrewN (Below.refl w1.heap.size w1) nq).cell (p := ⟨w.heap.size, 1, none⟩) hz1).trans hcy1
  have hz2 : w.heap.size < (w1.drewN nq).heap.size := Nat.lt_of_lt_of_le hz1 (belowDrewN (Below.refl w1.heap.size w1) nq).size
  clear e1 e2 q1 q1' q2 q2' hi1 hi2 hcx1 hcy1 hb1' hz1
  generalize w1.drewN nq = w2 at *
  have x1 : IntKind.i64.wrap (x : Int) = (x : Int) := by rw [IntKind.wrap_i64]; omega
  have y1 : IntKind.i64.wrap (y : Int) = (y : Int) := by rw [IntKind.wrap_i64]; omega
  go_wp2_with fail
  go_region_held3 (fun w' => w'.cell? ⟨w.heap.size, 0, none⟩ = some (.int .u32 (x : Int)) ∧ w'.cell? ⟨w.heap.size, 1, none⟩ = some (.int .u32 (y : Int)))
    (first | exact ⟨hcx4, hcy4⟩ | exact ⟨hcx3, hcy3⟩ | go_keep)
    ((first
      | (go_at_call 16; (with_reducible refine (D1.out _).mono ?_); rintro _ w3 ⟨rfl, hb3⟩; have hcx3 := (hb3.cell (p := ⟨w.heap.size, 0, none⟩) hz2).trans hcx2; have hcy3 := (hb3.cell (p := ⟨w.heap.size, 1, none⟩) hz2).trans hcy2; have hz3 : w.heap.size < w3.heap.size := Nat.lt_of_lt_of_le hz2 hb3.size)
      | (go_at_call 16; (with_reducible refine (D2.out _).mono ?_); rintro _ w4 ⟨rfl, hb4⟩; have hcx4 := (hb4.cell (p := ⟨w.heap.size, 0, none⟩) hz3).trans hcx3; have hcy4 := (hb4.cell (p := ⟨w.heap.size, 1, none⟩) hz3).trans hcy3)
      | fail))
  have HB := Lib.hid (((HB2.out).drew.trans (hb3.mono HB2.out.size)).trans (hb4.mono (Nat.le_trans HB2.out.size hb3.size)))
  clear HB2 hb3 hb4 hcx2 hcy2 hcx3 hcy3 hcx4 hcy4 hz2 hz3 x1 y1
  go_wp2_with fail
  refine (D3'.out _).mono ?_
  rintro _ wn ⟨rfl, hn⟩; replace HB := Lib.hid (HB.out.trans (hn.mono HB.out.size)); clear hn
  go_wp2_with fail
  refine (D4'.out _).mono ?_
  rintro _ wn ⟨rfl, hn⟩; replace HB := Lib.hid (HB.out.trans (hn.mono HB.out.size)); clear hn
  go_wp2_with fail
  refine (D5.out _).mono ?_
  rintro _ wn ⟨rfl, hn⟩; replace HB := Lib.hid (HB.out.trans (hn.mono HB.out.size)); clear hn
  go_wp2_with fail
  refine (D6'.out _).mono ?_
  rintro _ wn ⟨rfl, hn⟩; replace HB := Lib.hid (HB.out.trans (hn.mono HB.out.size)); clear hn
  go_wp2_with fail
  refine (D7.out _).mono ?_
  rintro _ wn ⟨rfl, hn⟩; replace HB := Lib.hid (HB.out.trans (hn.mono HB.out.size)); clear hn
  cases f with
  | false =>
    obtain rfl : nb = 0 := by
      have := of_decide_eq_false hbz
      omega
    clear hbz
    go_wp2_with fail
    refine (D10.out _).mono ?_
    rintro _ wn ⟨rfl, hn⟩; replace HB := Lib.hid (HB.out.trans (hn.mono HB.out.size)); clear hn
    go_wp2_with fail
    refine (D11.out _).mono ?_
    rintro _ wn ⟨rfl, hn⟩; replace HB := Lib.hid (HB.out.trans (hn.mono HB.out.size)); clear hn
    go_wp2_with fail
    refine (D12.out _).mono ?_
    rintro _ wn ⟨rfl, hn⟩; replace HB := Lib.hid (HB.out.trans (hn.mono HB.out.size)); clear hn
    go_wp2_with fail
    refine (D13.out _).mono ?_
    rintro _ wn ⟨rfl, hn⟩; replace HB := Lib.hid (HB.out.trans (hn.mono HB.out.size)); clear hn
    rcases HEND.out with ⟨rfl, rfl⟩ | ⟨h0, rfl⟩
    · go_wp2_with fail
      go_ret
      exact ⟨rfl, HB.out⟩
    · have h1 := not_nil h0
      go_wp2_with fail
      go_ret
      exact ⟨by simp [h1], HB.out⟩
  | true =>
    have hp : 0 < nb := by have := of_decide_eq_true hbz; omega
    have hpI : (0 : Int) < (nb : Int) := by omega
    clear hbz
    go_wp2_with fail
    refine (D8.out _).mono ?_
    rintro _ wn ⟨rfl, hn⟩; replace HB := Lib.hid (HB.out.trans (hn.mono HB.out.size)); clear hn
    go_wp2_with fail
    refine (D9.out _ (HF.out trivial)).mono ?_
    rintro _ wn ⟨rfl, hn⟩; replace HB := Lib.hid (HB.out.trans (hn.mono HB.out.size)); clear hn
    go_wp2_with fail
    refine (D10.out _).mono ?_
    rintro _ wn ⟨rfl, hn⟩; replace HB := Lib.hid (HB.out.trans (hn.mono HB.out.size)); clear hn
    go_wp2_with fail
    refine (D11.out _).mono ?_
    rintro _ wn ⟨rfl, hn⟩; replace HB := Lib.hid (HB.out.trans (hn.mono HB.out.size)); clear hn
    go_wp2_with fail
    refine (D12.out _).mono ?_
    rintro _ wn ⟨rfl, hn⟩; replace HB := Lib.hid (HB.out.trans (hn.mono HB.out.size)); clear hn
    go_wp2_with fail
    refine (D13.out _).mono ?_
    rintro _ wn ⟨rfl, hn⟩; replace HB := Lib.hid (HB.out.trans (hn.mono HB.out.size)); clear hn
    rcases HEND.out with ⟨rfl, rfl⟩ | ⟨h0, rfl⟩
    · go_wp2_with fail
      go_ret
      exact ⟨rfl, HB.out⟩
    · have h1 := not_nil h0
      go_wp2_with fail
      go_ret
      exact ⟨by simp [h1], HB.out⟩

#print axioms Fermat_walk
end Go.Proofs.YtolmjeglaolhlaaGreatDoor
