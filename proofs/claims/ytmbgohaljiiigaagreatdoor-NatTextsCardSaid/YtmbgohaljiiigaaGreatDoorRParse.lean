/- sortesref01.Parse. -/
import Derived.Test.YtmbgohaljiiigaaGreatDoorRSub
import Derived.Test.YtmbgohaljiiigaaGreatDoorParse
namespace Go.Proofs.YtmbgohaljiiigaaGreatDoor
open Go.RowKit Num

theorem allDig_take_succ {s : ByteArray} {k : Nat} (hk : k < s.size) (h : AllDig (s.data.toList.take k)) (hc : 48 ≤ s[k].toNat ∧ s[k].toNat ≤ 57) :
    AllDig (s.data.toList.take (k + 1)) ∧ dval (s.data.toList.take (k + 1)) = dval (s.data.toList.take k) * 10 + (s[k].toNat - 48) := by
  have e : s.data.toList.take (k + 1) = s.data.toList.take k ++ [s[k]] := by
    rw [List.take_succ_eq_append_getElem (by simpa using hk)]; rfl
  rw [e]
  refine ⟨h.append (fun c hc' => ?_), ?_⟩
  · simp at hc'; rw [hc']; exact hc
  · rw [dval_append, dval_cons]; simp

theorem not_allDig {s : ByteArray} {k : Nat} (hk : k < s.size) (hc : ¬ (48 ≤ s[k].toNat ∧ s[k].toNat ≤ 57)) : ¬ AllDig s.data.toList := fun h =>
  hc (h _ (by have := List.getElem_mem (l := s.data.toList) (n := k) (by simpa using hk); exact this))

def RParseRel (w : World) (s : ByteArray) (a i : Value) (wr : World) : Prop :=
  ∃ k : Nat, k ≤ s.size ∧ i = .int .i64 (k : Int) ∧ a = .string (Enc (dval (s.data.toList.take k))) ∧ AllDig (s.data.toList.take k) ∧ Below w.heap.size w wr

set_option maxRecDepth 100000 in
set_option maxHeartbeats 400000 in
theorem RParse_empty (w : World) : Calls Tryz.prog 57 #[.string ⟨#[]⟩] w fun e w' => e = .returned (.tuple #[.string (Enc 0), .bool false]) ∧ Below w.heap.size w w' := by
  go_enter Tryz.func57, Tryz.ntmps57
  go_wp2
  go_ret2
  exact ⟨rfl, Below.refl _ _⟩

set_option maxRecDepth 100000 in
set_option maxHeartbeats 400000 in
theorem RParse_zero (s : ByteArray) (w : World) (h1 : 1 < s.size) (h0 : (s[0]'(by omega)).toNat = 48) : Calls Tryz.prog 57 #[.string s] w fun e w' => e = .returned (.tuple #[.string (Enc 0), .bool false]) ∧ Below w.heap.size w w' := by
  have hne : ((s.size : Int) == 0) = false := by rw [beq_eq_false_iff_ne]; omega
  have h1i : (1 : Int) < (s.size : Int) := by omega
  go_enter Tryz.func57, Tryz.ntmps57
  go_wp2
  go_ret2
  exact ⟨rfl, Below.refl _ _⟩

set_option maxRecDepth 100000 in
set_option maxHeartbeats 2000000 in
theorem RParse_loop (s : ByteArray) (w : World) (h1 : 0 < s.size) (hs : s.size ≤ 16777216) (h0 : s.size = 1 ∨ (s[0]'h1).toNat ≠ 48) (R : Value)
    (hy : AllDig s.data.toList → R = .tuple #[.string (Enc (dval s.data.toList)), .bool true]) (hn : ¬ AllDig s.data.toList → R = .tuple #[.string (Enc 0), .bool false]) :
    Calls Tryz.prog 57 #[.string s] w fun e w' => e = .returned R ∧ Below w.heap.size w w' := by
  have co := fun w => ROfN_any 10 w (by omega)
  rw [show Enc (10 : Int).toNat = ⟨#[10]⟩ by kernel_rfl] at co
  have HY := Lib.hid hy; have HN := Lib.hid hn; have CO := Lib.hid co
  clear hy hn co
  have hne : ((s.size : Int) == 0) = false := by rw [beq_eq_false_iff_ne]; omega
  have hpart : ((1 : Int) < (s.size : Int) ∧ (((s[0]'h1).toNat : Int) == 48) = false) ∨ ((s.size : Int) ≤ 1) := by
    rcases Nat.lt_or_ge 1 s.size with h2 | h2
    · exact .inl ⟨by omega, by rw [beq_eq_false_iff_ne]; omega⟩
    · exact .inr (by omega)
  clear h0
  have hmx : Tryz.prog.follows .mixedOrders = true := by kernel_rfl
  rcases hpart with ⟨h2, h3⟩ | h2
  all_goals
    go_enter Tryz.func57, Tryz.ntmps57
    go_wp2
    go_loopw [4, 5] (fun a i wr => RParseRel w s a i wr) (fun _ i _ => s.size - (intOf i).toNat)
    case atStart => exact ⟨0, by omega, rfl, rfl, AllDig.nil, Below.refl _ _⟩
    case round =>
      obtain ⟨k, hk, rfl, rfl, hall, hbel⟩ := hrel
      have HBel := Lib.hid hbel; have HA := Lib.hid hall
      clear hbel hall
      rcases Nat.lt_or_ge k s.size with hlt | hge
      · have hc := s[k].toNat_lt
        rcases (show s[k].toNat < 48 ∨ 57 < s[k].toNat ∨ (48 ≤ s[k].toNat ∧ s[k].toNat ≤ 57) by omega) with h5 | h5 | ⟨h5, h6⟩
        · have HNA := Lib.hid (not_allDig hlt (by omega))
          go_wp2
          go_ret2
          exact ⟨by rw [HN.out HNA.out]; rfl, HBel.out⟩
        · have HNA := Lib.hid (not_allDig hlt (by omega))
          go_wp2
          go_ret2
          exact ⟨by rw [HN.out HNA.out]; rfl, HBel.out⟩
        · have hts := allDig_take_succ hlt HA.out ⟨h5, h6⟩
          obtain ⟨V, hV⟩ : ∃ V, dval (s.data.toList.take k) = V := ⟨_, rfl⟩
          have hVs : (Enc V).size ≤ k := by
            refine Enc_size_le ?_
            rw [← hV]
            have h7 := dval_lt HA.out
            rw [List.length_take, Nat.min_eq_left (by simpa using hk)] at h7
            exact Nat.lt_of_lt_of_le h7 (Nat.pow_le_pow_left (by decide) _)
          have cm := fun w => RMul_any (Enc V) ⟨#[10]⟩ w (by omega) (by decide)
          rw [SN_Enc, show SN ⟨#[10]⟩ = 10 by kernel_rfl] at cm
          have hVs2 : (Enc (V * 10)).size ≤ k + 1 := by
            refine Enc_size_le ?_
            have h8 := Enc_small hVs
            rw [Nat.pow_succ]
            exact Nat.mul_lt_mul'' h8 (by decide)
          have cd := fun w => ROfN_any ((s[k].toNat : Int) - 48) w (by omega)
          rw [show ((s[k].toNat : Int) - 48).toNat = s[k].toNat - 48 by omega] at cd
          have ca := fun w => RAdd_any (Enc (V * 10)) (Enc (s[k].toNat - 48)) w (by omega) (Nat.le_trans (Enc_size_le (k := 1) (by omega)) (by decide))
          rw [SN_Enc, SN_Enc] at ca
          rw [hV] at hts ⊢
          have HTS := Lib.hid hts; have CM := Lib.hid cm; have CD := Lib.hid cd; have CA := Lib.hid ca
          clear hts cm cd ca hV hVs hVs2
          have e8 : IntKind.u8.wrap ((s[k].toNat : Int) - 48) = (s[k].toNat : Int) - 48 := by rw [IntKind.wrap_u8]; omega
          have e9 : IntKind.i64.wrap ((s[k].toNat : Int) - 48) = (s[k].toNat : Int) - 48 := by rw [IntKind.wrap_i64]; omega
          go_wp2_with fail
          go_region_with (first | (go_at_call 45; (with_reducible refine (CO.out _).mono ?_); rintro _ w3 ⟨rfl, hb3⟩) | (go_at_call 44; (with_reducible refine (CM.out _).mono ?_); rintro _ w4 ⟨rfl, hb4⟩) | (go_at_call 45; (with_reducible refine (CD.out _).mono ?_); rintro _ w5 ⟨rfl, hb5⟩) | (go_at_call 24; (with_reducible refine (CA.out _).mono ?_); rintro _ w6 ⟨rfl, hb6⟩))
          all_goals go_wp2
          all_goals
            have g3 := (HBel.out.drew).trans (hb3.mono HBel.out.size)
            have g4 := g3.trans (hb4.mono g3.size)
            have g5 := g4.trans (hb5.mono g4.size)
            have g6 := g5.trans (hb6.mono g5.size)
            exact ⟨⟨k + 1, by omega, by go_num, by rw [HTS.out.2], HTS.out.1, g6⟩, by simp only [intOf]; omega⟩
      · obtain rfl : k = s.size := by omega
        go_wp2
        go_ret2
        have h9 := HA.out
        rw [List.take_of_length_le (by simp)] at h9 ⊢
        exact ⟨by rw [HY.out h9]; rfl, HBel.out⟩

/-- **sortesref01.Parse**. -/
theorem RParse_any (s : ByteArray) (w : World) (hs : s.size ≤ 16777216) :
    Calls Tryz.prog 57 #[.string s] w fun e w' => e = .returned (parsePair s.data.toList) ∧ Below w.heap.size w w' := by
  rcases Nat.eq_zero_or_pos s.size with h0 | h0
  · have hl : s.data.toList = [] := List.length_eq_zero_iff.1 (by simpa using h0)
    have he : s = ⟨#[]⟩ := ByteArray.ext (Array.ext' hl)
    rw [parsePair_no (by rw [hl]; rintro ⟨_, h⟩; rcases h with h | ⟨c, t, h, _⟩ <;> simp at h), he]
    exact RParse_empty w
  · have hhead : s.data.toList.head? = some (s[0]'h0) := by
      rw [List.head?_eq_getElem?, List.getElem?_eq_getElem (by simpa using h0)]; rfl
    have hhead2 : ∀ c t, s.data.toList = c :: t → c = s[0]'h0 := fun c t h => by rw [h] at hhead; simpa using hhead
    have hsl : s.data.toList.length = s.size := by simp
    by_cases h1 : s.size = 1 ∨ (s[0]'h0).toNat ≠ 48
    · refine RParse_loop s w h0 hs h1 _ (fun hc => parsePair_yes ?_) (fun hc => parsePair_no fun h => hc h.1)
      refine ⟨hc, ?_⟩
      cases hl : s.data.toList with
      | nil => rw [hl] at hsl; simp at hsl; omega
      | cons c t =>
        have e := hhead2 c t hl
        by_cases h48 : c = 48
        · left
          rcases h1 with h1 | h1
          · have : t = [] := List.length_eq_zero_iff.1 (by rw [hl] at hsl; simp at hsl; omega)
            rw [this, h48]
          · exfalso; apply h1; rw [← e, h48]; rfl
        · right; exact ⟨c, t, rfl, h48⟩
    · have h2 : 1 < s.size := by omega
      have h3 : (s[0]'h0).toNat = 48 := by omega
      rw [parsePair_no]
      · exact RParse_zero s w h2 h3
      · rintro ⟨_, h⟩
        rcases h with h | ⟨c, t, h, hc⟩
        · rw [h] at hsl; simp at hsl; omega
        · have e := hhead2 c t h
          apply hc
          rw [e]
          exact UInt8.toNat_inj.1 h3

#print axioms RParse_any
end Go.Proofs.YtmbgohaljiiigaaGreatDoor
