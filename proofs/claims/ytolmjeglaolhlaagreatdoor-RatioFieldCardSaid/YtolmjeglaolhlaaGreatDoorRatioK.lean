/- ratio: Text. -/
import Derived.Test.YtolmjeglaolhlaaGreatDoorRatioE
import Derived.Test.YtolmjeglaolhlaaGreatDoorText
namespace Go.Proofs.YtolmjeglaolhlaaGreatDoor
open Go.RowKit Num

/-- The text of a number. -/
def ratText (q : Rat) : ByteArray := (if q.num < 0 then ⟨#[45]⟩ ++ DecS q.num.natAbs else DecS q.num.natAbs) ++ (if q.den = 1 then ⟨#[]⟩ else ⟨#[47]⟩ ++ DecS q.den)

theorem DecS_size {n k : Nat} (h : n < 256 ^ k) (hk : 0 < k) : (DecS n).size ≤ 3 * k := by
  show (decD n).toArray.size ≤ 3 * k
  rw [List.size_toArray]
  refine decD_length_le (Nat.lt_of_lt_of_le h ?_) (by omega)
  rw [Nat.pow_mul]
  exact Nat.pow_le_pow_left (by decide) k

theorem append_empty (a : ByteArray) : a ++ ⟨#[]⟩ = a := ByteArray.append_empty

theorem RB1.same {w X : World} {B : Nat} {s : Bool} {a b : ByteArray} (h : Blk X B 39 [.bool s, .string a, .string b]) (hb : Below w.heap.size w X) (hB : w.heap.size ≤ B) :
    Blk (((X.setCell ⟨B, 0, none⟩ (.bool s)).setCell ⟨B, 1, none⟩ (.string a)).setCell ⟨B, 2, none⟩ (.string b)) B 39 [.bool s, .string a, .string b] ∧ Below w.heap.size w (((X.setCell ⟨B, 0, none⟩ (.bool s)).setCell ⟨B, 1, none⟩ (.string a)).setCell ⟨B, 2, none⟩ (.string b)) :=
  ⟨set3 h _ _ _, bel3 hb hB _ _ _⟩

set_option maxRecDepth 100000 in
set_option maxHeartbeats 2000000 in
/-- **ratio.Text** of a number. -/
theorem Text_q (q : Rat) (w : World) (hq : Sz 600000 q) (he : Env w) :
    Calls Tryz.prog 29 #[rv q] w fun e w' => e = .returned (.string (ratText q)) ∧ Below w.heap.size w w' := by
  have sq := sz_strs hq
  have d1 := fun w => value_q q w (hq.mono (by decide))
  have d2 := fun w' (h : Env w') => Text_any (Enc q.num.natAbs) w' (by omega) h
  have d3 := fun w' (h : Env w') => Text_any (Enc q.den) w' (by omega) h
  have d4 := fun w => Of_any 1 w (by omega)
  rw [show (1 : Int).toNat = 1 from rfl] at d4
  rw [SN_Enc] at d2 d3
  have ht : ratText q = (if decide (q.num < 0) then ⟨#[45]⟩ ++ DecS q.num.natAbs else DecS q.num.natAbs) ++ (if q.den = 1 then ⟨#[]⟩ else ⟨#[47]⟩ ++ DecS q.den) := by
    unfold ratText
    by_cases h : q.num < 0 <;> simp [h]
  have hd : (q.den = 1 ∧ Enc q.den = Enc 1) ∨ (q.den ≠ 1 ∧ Enc q.den ≠ Enc 1) := by
    by_cases h : q.den = 1
    · exact .inl ⟨h, by rw [h]⟩
    · exact .inr ⟨h, fun e => h (Enc_inj e)⟩
  have zn : (DecS q.num.natAbs).size ≤ 3 * 600000 := DecS_size hq.1 (by decide)
  have zd : (DecS q.den).size ≤ 3 * 600000 := DecS_size hq.2 (by decide)
  rw [ht]
  unfold rv at d1 ⊢
  generalize DecS q.num.natAbs = tn at *
  generalize DecS q.den = td at *
  generalize decide (q.num < 0) = s at *
  generalize Enc q.num.natAbs = a at *
  generalize Enc q.den = b at *
  generalize Enc 1 = o at *
  generalize q.den = dn at *
  obtain ⟨t1, ht1⟩ : ∃ t, (if s = true then ⟨#[45]⟩ ++ tn else tn) = t := ⟨_, rfl⟩
  rw [ht1]
  have HT := Lib.hid ht1
  have z1 : t1.size ≤ 1 + 3 * 600000 := by
    rw [← ht1]
    have e45 : (ByteArray.mk #[45]).size = 1 := rfl
    split
    · rw [ByteArray.size_append]; omega
    · omega
  clear ht1
  have hbk := Blk.new w 39 [.bool s, .string a, .string b]
  have R := Lib.hid hbk
  have HB := Lib.hid ((Below.refl w.heap.size w).alloc (Nat.le_refl _) (.cells #[.bool s, .string a, .string b] 39))
  have HE := Lib.hid he
  have D1 := Lib.hid d1; have D2 := Lib.hid d2; have D3 := Lib.hid d3; have D4 := Lib.hid d4
  clear d1 d2 d3 d4 ht sq hq hbk he
  go_enter Tryz.func29, Tryz.ntmps29
  go_wp2_with fail
  refine (D1.out _).mono ?_
  rintro _ w1 ⟨rfl, g1⟩
  replace R := Lib.hid (R.out.on g1)
  replace HB := Lib.hid (HB.out.trans (g1.mono HB.out.size))
  clear g1
  obtain ⟨c0, c1, c2⟩ := R.out.rc
  have f0 := R.out.free 0; have f1 := R.out.free 1; have f2 := R.out.free 2
  go_upto_region 2 with fail
  obtain ⟨r', hb'⟩ := RB1.same R.out HB.out (Nat.le_refl _)
  replace R := Lib.hid r'
  replace HB := Lib.hid hb'
  clear c0 c1 c2 f0 f1 f2 r' hb'
  generalize ((w1.setCell ⟨w.heap.size, 0, none⟩ (.bool s)).setCell ⟨w.heap.size, 1, none⟩ (.string a)).setCell ⟨w.heap.size, 2, none⟩ (.string b) = X at *
  obtain ⟨c0, c1, c2⟩ := R.out.rc
  go_wp2_with fail
  refine (D2.out _ (HE.out.below HB.out)).mono ?_
  rintro _ w2 ⟨rfl, g2⟩
  replace R := Lib.hid (R.out.on g2)
  replace HB := Lib.hid (HB.out.trans (g2.mono HB.out.size))
  clear g2 c0 c1 c2
  obtain ⟨c0, c1, c2⟩ := R.out.rc
  have hlt := R.out.lt
  go_upto_if 10 with fail
  go_cut [3] from 4 (fun v wc => v = .string t1 ∧ wc = w2)
  case first =>
    cases s with
    | false =>
      go_wp2_with fail
      go_meet
      case rel => exact ⟨by rw [← HT.out]; rfl, rfl⟩
    | true =>
      go_wp2_with fail
      go_meet
      case rel => exact ⟨by rw [← HT.out]; rfl, rfl⟩
  case rest =>
    obtain ⟨rfl, rfl⟩ := hcut
    clear HT
    go_upto_region 5 with fail
    rcases hd with ⟨rfl, rfl⟩ | ⟨hd1, hd2⟩
    · go_region_held3 (fun w' => w'.cell? ⟨w.heap.size, 0, none⟩ = some (.bool s) ∧ w'.cell? ⟨w.heap.size, 1, none⟩ = some (.string a) ∧ w'.cell? ⟨w.heap.size, 2, none⟩ = some (.string b))
        (first | exact r3.rc | go_keep)
        ((first
          | (go_at_call 55; refine (D4.out _).mono ?_; rintro _ w3 ⟨rfl, h3⟩; have g3 : Below wc.heap.size wc w3 := (Below.refl _ _).drew.trans h3; have r3 := R.out.on g3)
          | fail))
      replace R := Lib.hid r3
      replace HB := Lib.hid (HB.out.trans (g3.mono HB.out.size))
      clear c0 c1 c2 r3 h3 g3
      obtain ⟨c0, c1, c2⟩ := R.out.rc
      go_wp2_with fail
      go_ret
      exact ⟨by simp [append_empty], HB.out⟩
    · have hl := list_ne hd2
      have hl2 : ¬ b.toList = o.toList := by rw [ByteArray.toList_eq, ByteArray.toList_eq]; exact hl
      have hl3 : (b.toList == o.toList) = false := beq_eq_false_iff_ne.2 hl2
      go_region_held3 (fun w' => w'.cell? ⟨w.heap.size, 0, none⟩ = some (.bool s) ∧ w'.cell? ⟨w.heap.size, 1, none⟩ = some (.string a) ∧ w'.cell? ⟨w.heap.size, 2, none⟩ = some (.string b))
        (first | exact r3.rc | go_keep)
        ((first
          | (go_at_call 55; refine (D4.out _).mono ?_; rintro _ w3 ⟨rfl, h3⟩; have g3 : Below wc.heap.size wc w3 := (Below.refl _ _).drew.trans h3; have r3 := R.out.on g3)
          | fail))
      replace R := Lib.hid r3
      replace HB := Lib.hid (HB.out.trans (g3.mono HB.out.size))
      clear c0 c1 c2 r3 h3 g3
      obtain ⟨c0, c1, c2⟩ := R.out.rc
      go_wp2_with fail
      refine (D3.out _ (HE.out.below HB.out)).mono ?_
      rintro _ w4 ⟨rfl, g4⟩
      go_wp2_with fail
      go_ret
      exact ⟨by simp, HB.out.trans (g4.mono HB.out.size)⟩

#print axioms Text_q
end Go.Proofs.YtolmjeglaolhlaaGreatDoor
