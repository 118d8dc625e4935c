/- sortesref01.of: the digits to the base 2^24. -/
import Derived.Test.YtmbgohaljiiigaaGreatDoorROwn
import Derived.Test.YtmbgohaljiiigaaGreatDoorCanon
import Derived.Test.YtmbgohaljiiigaaGreatDoorRPlain
namespace Go.Proofs.YtmbgohaljiiigaaGreatDoor
open Go.RowKit Num

/-- Three bytes more. -/
theorem val_chunk (t : List UInt8) (n m : Nat) (h1 : n ≤ m) (h2 : m ≤ t.length) :
    val (t.drop n) = val ((t.drop n).take (m - n)) * 256 ^ (t.length - m) + val (t.drop m) := by
  have _ := h2
  have h := val_append ((t.drop n).take (m - n)) ((t.drop n).drop (m - n))
  rw [List.take_append_drop] at h
  rw [h, List.drop_drop, show n + (m - n) = m by omega]
  simp

theorem val_take_succ (t : List UInt8) (n j : Nat) (h : n + j < t.length) : val ((t.drop n).take (j + 1)) = val ((t.drop n).take j) * 256 + (t.getD (n + j) 0).toNat := by
  rw [List.take_add_one, List.getElem?_drop, List.getElem?_eq_getElem h]
  simp only [Option.toList_some, val_snoc]
  congr 2
  simp [List.getD_eq_getElem?_getD, List.getElem?_eq_getElem h]

/-- What the outer loop holds: the digits of the bytes behind. -/
def ROfRel (w : World) (t : List UInt8) (o i : Value) (wr : World) : Prop :=
  ∃ l : List Nat, 3 * l.length ≤ t.length + 2 ∧ i = .int .i64 ((t.length : Int) - 3 * (l.length : Int)) ∧ OwnL .i64 wr w.heap.size 3 o l ∧ Dig 16777216 l ∧ vl 16777216 l = val (t.drop (t.length - 3 * l.length)) ∧ Below w.heap.size w wr

theorem ROfRel.step {w wr w' : World} {t : List UInt8} {l : List Nat} {v' : Value} {d : Nat} (h3 : 3 * l.length < t.length) (hd : Dig 16777216 l) (hv : vl 16777216 l = val (t.drop (t.length - 3 * l.length)))
    (hx : d = val ((t.drop (t.length - 3 * (l.length + 1))).take (t.length - 3 * l.length - (t.length - 3 * (l.length + 1)))))
    (ho : OwnL .i64 w' w.heap.size 3 v' (l ++ [d])) (hb : Below w.heap.size w w') (z : Int) (hz : z = (t.length : Int) - 3 * (l.length : Int) - 3) :
    ROfRel w t v' (.int .i64 z) w' := by
  have _ := wr
  refine ⟨l ++ [d], by simp; omega, by simp; omega, ho, hd.append (Dig.cons ?_ (Dig.nil _)), ?_, hb⟩
  · rw [hx]
    have := val_lt ((t.drop (t.length - 3 * (l.length + 1))).take (t.length - 3 * l.length - (t.length - 3 * (l.length + 1))))
    refine Nat.lt_of_lt_of_le this ?_
    rw [show (16777216 : Nat) = 256 ^ 3 by decide]
    refine Nat.pow_le_pow_right (by decide) ?_
    simp; omega
  · rw [vl_snoc, hv]
    simp only [List.length_append, List.length_cons, List.length_nil, Nat.zero_add]
    rw [val_chunk t (t.length - 3 * (l.length + 1)) (t.length - 3 * l.length) (by omega) (by omega), ← hx, show t.length - (t.length - 3 * l.length) = 3 * l.length by omega, Nat.pow_mul]
    rw [show (256 : Nat) ^ 3 = 16777216 by decide]
    generalize 16777216 ^ l.length = P
    generalize val (t.drop (t.length - 3 * l.length)) = q
    rw [Nat.mul_comm]; omega

theorem rof_inner {t : ByteArray} {T : List UInt8} (hT : t.data.toList = T) {i : Nat} (hi : i < t.size) {dd : Nat} (hdd : dd ≤ 65535) :
    wrap64 ((dd : Int) * 256 + wrap64 ((t[i].toNat : Nat) : Int)) = ((dd * 256 + (T.getD i 0).toNat : Nat) : Int) := by
  have e : T.getD i 0 = t[i] := by
    rw [← hT, List.getD_eq_getElem?_getD, List.getElem?_eq_getElem (by simpa using hi)]
    rfl
  rw [e]
  have := t[i].toNat_lt
  generalize t[i].toNat = c at *
  unfold wrap64
  omega

set_option maxRecDepth 100000 in
set_option maxHeartbeats 2000000 in
/-- **sortesref01.of**. -/
theorem rof_any (s : ByteArray) (w : World) (hs : s.size ≤ 268435456) :
    Calls Tryz.prog 77 #[.string s] w fun e w' => ∃ v l, e = .returned v ∧ Sl .i64 w' v l ∧ Dig 16777216 l ∧ Tr l ∧ vl 16777216 l = SN s ∧ 3 * l.length ≤ s.size + 2 ∧ Below w.heap.size w w' := by
  obtain ⟨i0, hi, hz0, hz1, hz2⟩ := info_parts info_int
  go_enter Tryz.func77, Tryz.ntmps77
  go_wp2_with fail
  refine (Canon_any s _ hs).mono ?_
  rintro _ _ ⟨rfl, rfl⟩
  have hsv : SN (Enc (SN s)) = SN s := SN_Enc _
  have hbig : ∀ k, k < (Enc (SN s)).size → 256 ^ k ≤ SN s := fun k h => Enc_big h
  have hsz : (Enc (SN s)).size ≤ 268435456 := Nat.le_trans (Enc_size_le (SN_lt s)) hs
  have hts : (Enc (SN s)).size ≤ s.size := Enc_size_le (SN_lt s)
  generalize Enc (SN s) = t at *
  have HSV := Lib.hid hsv; have HBIG := Lib.hid hbig; clear hsv hbig
  have HS := Lib.hid hs; clear hs
  have hN2 : t.data.toList.length = t.size := rfl
  obtain ⟨T, hT⟩ : ∃ T, t.data.toList = T := ⟨_, rfl⟩
  rw [hT] at hN2
  go_wp2
  go_loopw [3, 4] (fun o i wr => ROfRel w T o i wr) (fun _ i _ => (intOf i).toNat)
  case atStart => exact ⟨[], by simp, by rw [hN2]; simp, OwnL.nil _ _ _ _, Dig.nil _, by simp, Below.refl _ _⟩
  case round =>
    obtain ⟨l, hl, rfl, ho, hd, hv, hb⟩ := hrel
    have HO := Lib.hid ho; have HV := Lib.hid hv; have HBel := Lib.hid hb; have HD := Lib.hid hd
    clear ho hv hb hd
    have hTN := hN2
    rw [hN2] at hl HV ⊢
    generalize hN : t.size = N at *
    rcases Nat.lt_or_ge (3 * l.length) N with hlt | hge
    · obtain ⟨e, he⟩ : ∃ e, e = N - 3 * l.length := ⟨_, rfl⟩
      obtain ⟨n', hn'⟩ : ∃ n', n' = N - 3 * (l.length + 1) := ⟨_, rfl⟩
      have ez : (N : Int) - 3 * (l.length : Int) = (e : Int) := by omega
      have em : max ((e : Int) - 3) 0 = (n' : Int) := by omega
      have he0 : 0 < e := by omega
      have hne : n' ≤ e := by omega
      have hn3 : e ≤ n' + 3 := by omega
      have heN : e ≤ N := by omega
      rw [ez]
      have HE := Lib.hid he; have HN' := Lib.hid hn'; have EZ := Lib.hid ez
      clear he hn' ez
      have hm : (n' = 0 ∧ (e : Int) - 3 < 0) ∨ ((e : Int) - 3 = (n' : Int)) := by have := HE.out; have := HN'.out; omega
      clear em
      rcases hm with ⟨h0, hm⟩ | hm
      all_goals go_wp2
      all_goals go_loop [5, 6] (fun d k => ∃ (j dd : Nat), n' + j ≤ e ∧ k = .int .i64 ((n' + j : Nat) : Int) ∧ d = .int .i64 (dd : Int) ∧ dd = val ((T.drop n').take j)) (fun _ k => e - (intOf k).toNat)
      case atStart => exact ⟨0, 0, by omega, by simp [h0], rfl, by simp⟩
      case atStart => exact ⟨0, 0, by omega, by simp, rfl, by simp⟩
      all_goals
        obtain ⟨j, dd, hj, rfl, rfl, hdd⟩ := hrel
        have hown : wr.ownsRow w.heap.size 3 1 u3 l.length (ints .i64 l) := HO.out
        have hwB := HBel.out.size
        rcases Nat.lt_or_ge (n' + j) e with hje | hje
        · have hb3 : dd ≤ 65535 := by
            have h1 := val_lt ((T.drop n').take j)
            rw [← hdd] at h1
            have h2 : ((T.drop n').take j).length ≤ 2 := by simp; omega
            have h3 : (256 : Nat) ^ ((T.drop n').take j).length ≤ 256 ^ 2 := Nat.pow_le_pow_right (by decide) h2
            omega
          have hsz3 : n' + j < t.size := by omega
          have HDD := Lib.hid hdd
          clear hdd
          go_wp2
          refine ⟨⟨j + 1, val ((T.drop n').take (j + 1)), by omega, by simp; omega, ?_, rfl⟩, by simp only [intOf]; omega⟩
          rw [val_take_succ _ _ _ (by omega), ← HDD.out, ← rof_inner hT hsz3 hb3]
          try (subst h0; simp)
        · obtain rfl : n' + j = e := by omega
          have HDD := Lib.hid hdd
          clear hdd
          go_wp2_with (at_builtin; refine wpList_append_own_at _ rfl _ _ 73 rfl w.heap.size 3 i0 (.int .i64 0) 1 8 Tryz.underlying73 hi hz0 hz1 hz2 rfl (by decide) _ _ _ rfl (hown.alloc _) ⟨wr.heap.size, 0, none⟩ 1 1 [.int .i64 (dd : Int)] rfl rfl (cell_one_new _ _ _) (by intro u hu; simp at hu; subst hu; rfl) (by unfold maxLen; omega) (by omega) (by simp; omega) ?_; intro v' w1 hown' hgrow _ _)
          have hb1 : Below w.heap.size w w1 := (HBel.out.alloc hwB _).trans (OwnL.grown (k := .i64) (l := l) (e := 3) (hown.alloc _) (by simp; omega) hgrow)
          have hx : dd = val ((T.drop (T.length - 3 * (l.length + 1))).take (T.length - 3 * l.length - (T.length - 3 * (l.length + 1)))) := by
            rw [hTN, ← HN'.out, ← HE.out, show n' + j - n' = j by omega]; exact HDD.out
          have hEZ := EZ.out
          refine ⟨ROfRel.step (wr := wr) (by omega) HD.out (by rw [hTN]; exact HV.out) hx (OwnL.snoc hown') hb1 _ (by omega), by simp only [intOf]; omega⟩
    · go_wp2
      go_ret
      have hv : vl 16777216 l = SN s := by
        rw [HV.out, show N - 3 * l.length = 0 by omega, List.drop_zero, ← hT]
        exact HSV.out
      refine ⟨_, l, ?_, HO.out.sl, HD.out, ?_, hv, ?_, HBel.out⟩
      · rfl
      · rcases Nat.eq_zero_or_pos l.length with hl0 | hl0
        · rw [List.length_eq_zero_iff.1 hl0]; exact Tr.nil
        · apply Tr.of_last
          intro h0
          have h1 := split_last hl0
          rw [h0] at h1
          have h2 : vl 16777216 l = vl 16777216 (l.take (l.length - 1)) := by
            conv => lhs; rw [h1]
            rw [vl_snoc]; simp
          have h3 := vl_lt (HD.out.take (l.length - 1))
          rw [← h2, hv, List.length_take, Nat.min_eq_left (by omega)] at h3
          have h4 := HBIG.out (3 * (l.length - 1)) (by omega)
          rw [Nat.pow_mul] at h4
          have h5 : (256 : Nat) ^ 3 = 16777216 := by decide
          rw [h5] at h4
          omega
      · omega

#print axioms rof_any
end Go.Proofs.YtmbgohaljiiigaaGreatDoor
