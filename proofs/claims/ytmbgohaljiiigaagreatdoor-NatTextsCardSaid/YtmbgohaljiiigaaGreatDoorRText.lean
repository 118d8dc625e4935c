/- sortesref01.Text. -/
import Derived.Test.YtmbgohaljiiigaaGreatDoorRQuoS
import Derived.Test.YtmbgohaljiiigaaGreatDoorRInt
import Derived.Test.YtmbgohaljiiigaaGreatDoorDec
import Derived.Deep.LoopGhost
namespace Go.Proofs.YtmbgohaljiiigaaGreatDoor
open Go.RowKit Num

theorem rtext_mono {a b : Nat} (h : a ≤ b) : (Enc a).size ≤ (Enc b).size := Enc_size_le (Nat.lt_of_le_of_lt h (Enc_small (Nat.le_refl _)))

theorem rtext_next {V m : Nat} {out : List UInt8} (hv : V = m * 10 ^ out.length + dval out) (ha : AllDig out) (hm : 0 < m) :
    V = (m / 10) * 10 ^ (UInt8.ofNat (48 + m % 10) :: out).length + dval (UInt8.ofNat (48 + m % 10) :: out) ∧ AllDig (UInt8.ofNat (48 + m % 10) :: out) ∧ (m / 10 = 0 → DecRt (UInt8.ofNat (48 + m % 10) :: out)) := by
  have hb := dec_byte (Nat.mod_lt m (show 0 < 10 by decide))
  have hall : AllDig (UInt8.ofNat (48 + m % 10) :: out) := by
    intro c hc
    rcases List.mem_cons.1 hc with rfl | h
    · rw [hb]; omega
    · exact ha c h
  refine ⟨?_, hall, fun h0 => ⟨hall, .inr ⟨_, _, rfl, fun e => ?_⟩⟩⟩
  · rw [dval_cons, hb, List.length_cons, Nat.pow_succ, show 48 + m % 10 - 48 = m % 10 by omega, hv]
    have := Nat.div_add_mod m 10
    generalize 10 ^ out.length = P
    generalize m / 10 = q at *
    generalize m % 10 = r at *
    rw [← this]
    grind
  · have := congrArg UInt8.toNat e
    rw [hb] at this
    simp at this
    omega

theorem rtext_len {V m S : Nat} {out : List UInt8} (hv : V = m * 10 ^ out.length + dval out) (hm : 0 < m) (hV : V < 256 ^ S) : out.length < 3 * S := by
  rcases Nat.lt_or_ge out.length (3 * S) with h | h
  · exact h
  · have h1 : 10 ^ (3 * S) ≤ 10 ^ out.length := Nat.pow_le_pow_right (by decide) h
    rw [Nat.pow_mul] at h1
    have h2 : (256 : Nat) ^ S ≤ (10 ^ 3) ^ S := Nat.pow_le_pow_left (by decide) S
    have h3 : 10 ^ out.length ≤ m * 10 ^ out.length := Nat.le_mul_of_pos_left _ hm
    omega

/-- One byte that was just laid becomes a string. -/
theorem conv_one {W : World} (z : Int) (n : Nat) (hz : z = (n : Int)) :
    (convert 22 9 (.slice (some ⟨W.heap.size, 0, none⟩) 1 1)).run Tryz.prog (W.alloc (.cells #[.int .u8 z] 5)) = .ok (.string ⟨#[UInt8.ofNat n]⟩) (W.alloc (.cells #[.int .u8 z] 5)) := by
  have h := run_convert_bytes_arg (P := Tryz.prog) (W.alloc (.cells #[.int .u8 z] 5)) 22 5 Tryz.underlying22 Tryz.underlying5 W.heap.size 0 1 1 [z] (by simp) (fun i hi => by
    obtain rfl : i = 0 := by omega
    have hb := Blk.new W 5 [.int .u8 z]
    rw [Nat.zero_add]
    exact hb.cell 0) 9 Tryz.underlying9
  have e : strOfNums [z] = ⟨#[UInt8.ofNat n]⟩ := by
    unfold strOfNums
    subst hz
    simp
  rw [e] at h
  exact h

def RTextRel (w : World) (V k : Nat) (a s : Value) (wr : World) : Prop :=
  ∃ (m : Nat) (out : List UInt8), a = .string (Enc m) ∧ s = .string ⟨out.toArray⟩ ∧ m = k ∧ V = m * 10 ^ out.length + dval out ∧ AllDig out ∧ (m = 0 → DecRt out) ∧ Below w.heap.size w wr

set_option maxRecDepth 100000 in
set_option maxHeartbeats 1000000 in
theorem RText_pos (s : ByteArray) (w : World) (hs : s.size ≤ 100000000) (hpos : 0 < SN s) :
    Calls Tryz.prog 55 #[.string s] w fun x w' => x = .returned (.string (DecS (SN s))) ∧ Below w.heap.size w w' := by
  have hV := SN_lt s
  obtain ⟨V, hVe⟩ : ∃ V, SN s = V := ⟨_, rfl⟩
  have cc := fun w => Canon_any s w (by omega)
  have hcn : 0 < (Enc (SN s)).size := by
    rcases Nat.eq_zero_or_pos (Enc (SN s)).size with h | h
    · have := Enc_small (n := SN s) (k := 0) (by omega); simp at this; omega
    · exact h
  rw [hVe] at cc hcn hV hpos ⊢
  have co := fun w => ROfN_any 10 w (by omega)
  rw [show Enc (10 : Int).toNat = ⟨#[10]⟩ by kernel_rfl] at co
  have CC := Lib.hid cc; have CO := Lib.hid co; have HV := Lib.hid hV; have HP := Lib.hid hpos
  clear cc co hV hVe hpos
  go_enter Tryz.func55, Tryz.ntmps55
  go_wp2_with fail
  refine (CC.out _).mono ?_
  rintro _ _ ⟨rfl, rfl⟩
  obtain ⟨t, ht⟩ : ∃ t, Enc V = t := ⟨_, rfl⟩
  rw [ht] at hcn ⊢
  have hne : ((t.size : Int) == 0) = false := by rw [beq_eq_false_iff_ne]; omega
  have HT := Lib.hid ht
  clear ht
  go_wp2_with fail
  go_loopg [0, 3] V (fun k a s wr => RTextRel w V k a s wr)
  case atStart => exact ⟨V, [], by rw [HT.out], rfl, rfl, by simp, AllDig.nil, fun h => by have := HP.out; omega, Below.refl _ _⟩
  case round =>
    clear hcn hne
    obtain ⟨m, out, rfl, rfl, hk, hv, ha, hr, hbel⟩ := hrel
    rcases Nat.eq_zero_or_pos m with h0 | h0
    · subst h0
      have hd := decD_of (hr rfl)
      have hvv : V = dval out := by simpa using hv
      have he : Enc 0 = ⟨#[]⟩ := by kernel_rfl
      rw [he]
      have HD := Lib.hid hd; have HVV := Lib.hid hvv; have HBel := Lib.hid hbel
      clear he hd hvv hv ha hr hbel hk
      go_wp2_with fail
      go_ret
      exact ⟨by unfold DecS; rw [HVV.out, HD.out]; rfl, HBel.out⟩
    · have hlen := rtext_len hv h0 HV.out
      obtain ⟨n1, n2, n3⟩ := rtext_next hv ha h0
      have hp : 0 < (Enc m).size := by
        rcases Nat.eq_zero_or_pos (Enc m).size with h | h
        · have := Enc_small (n := m) (k := 0) (by omega); simp at this; omega
        · exact h
      have hsz : (Enc m).size ≤ 100000000 := by
        refine Nat.le_trans (Enc_size_le (k := s.size) ?_) hs
        have h1 := HV.out
        have h2 : m ≤ m * 10 ^ out.length := Nat.le_mul_of_pos_right _ (Nat.pow_pos (by decide))
        omega
      have hq := fun w => RQuo_pos (Enc m) ⟨#[10]⟩ w hsz (by decide) (by decide)
      rw [SN_Enc, show SN ⟨#[10]⟩ = 10 by kernel_rfl] at hq
      have hint := fun w => RInt_any (Enc (m % 10)) w (Nat.le_trans (rtext_mono (Nat.mod_le m 10)) (by omega))
      rw [SN_Enc, intPair_lt (by omega)] at hint
      have hd10 : m % 10 < 10 := Nat.mod_lt _ (by decide)
      obtain ⟨t', ht'⟩ : ∃ t', Enc m = t' := ⟨_, rfl⟩
      obtain ⟨q, hqe⟩ : ∃ q, m / 10 = q := ⟨_, rfl⟩
      obtain ⟨d, hde⟩ : ∃ d, m % 10 = d := ⟨_, rfl⟩
      rw [ht'] at hq hp hsz ⊢
      rw [hqe, hde] at hq
      rw [hde] at hint hd10
      rw [hqe, hde] at n1 n3
      rw [hde] at n2
      have hqm : q < m := by rw [← hqe]; omega
      have HQ := Lib.hid hq; have HI := Lib.hid hint; have HK := Lib.hid hk; have N1 := Lib.hid n1; have N2 := Lib.hid n2; have N3 := Lib.hid n3; have HBel := Lib.hid hbel
      clear hq hint hk n1 n2 n3 hbel hv ha hr ht' hqe hde h0
      go_wp2_with fail
      refine (CO.out _).mono ?_
      rintro _ w2 ⟨rfl, hb2⟩
      have HB2 := Lib.hid (HBel.out.trans (hb2.mono HBel.out.size)); clear hb2
      go_wp2_with fail
      refine (HQ.out _).mono ?_
      rintro _ w3 ⟨rfl, hb3⟩
      have HB3 := Lib.hid (HB2.out.trans (hb3.mono HB2.out.size)); clear hb3
      go_wp2_with fail
      refine (HI.out _).mono ?_
      rintro _ _ ⟨rfl, rfl⟩
      have hcv := fun (W : World) => conv_one (W := W) (48 + (d : Int)) (48 + d) (by simp)
      obtain ⟨c, hc⟩ : ∃ c, UInt8.ofNat (48 + d) = c := ⟨_, rfl⟩
      have hN1 := N1.out; have hN2 := N2.out; have hN3 := N3.out
      rw [hc] at hcv hN1 hN2 hN3
      have M1 := Lib.hid hN1; have M2 := Lib.hid hN2; have M3 := Lib.hid hN3
      clear hN1 hN2 hN3 hc N1 N2 N3
      have hcat : (ByteArray.mk #[c] ++ ByteArray.mk out.toArray) = ByteArray.mk (c :: out).toArray := by
        apply ByteArray.ext
        simp
      have HCAT := Lib.hid hcat
      clear hcat
      go_wp2_with fail
      rw [HCAT.out]
      go_roundg q
      case measure => rw [← HK.out]; exact hqm
      case rel => exact ⟨q, c :: out, rfl, rfl, rfl, M1.out, M2.out, M3.out, HB3.out.alloc HB3.out.size _⟩

set_option maxRecDepth 100000 in
/-- **sortesref01.Text**. -/
theorem RText_any (s : ByteArray) (w : World) (hs : s.size ≤ 100000000) :
    Calls Tryz.prog 55 #[.string s] w fun x w' => x = .returned (.string (DecS (SN s))) ∧ Below w.heap.size w w' := by
  rcases Nat.eq_zero_or_pos (SN s) with h | h
  · have cc := fun w => Canon_any s w (by omega)
    rw [h, show Enc 0 = ⟨#[]⟩ by kernel_rfl] at cc
    rw [h, show DecS 0 = ⟨#[48]⟩ by kernel_rfl]
    have CC := Lib.hid cc
    clear cc h
    go_enter Tryz.func55, Tryz.ntmps55
    go_wp2_with fail
    refine (CC.out _).mono ?_
    rintro _ _ ⟨rfl, rfl⟩
    go_wp2_with fail
    go_ret
    exact ⟨rfl, Below.refl _ _⟩
  · exact RText_pos s w hs h

#print axioms RText_any
end Go.Proofs.YtmbgohaljiiigaaGreatDoor
