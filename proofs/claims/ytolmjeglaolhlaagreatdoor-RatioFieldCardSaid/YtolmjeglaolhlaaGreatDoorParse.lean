/- The contract of nat.Parse: texts as nat.Text writes them are read, and no others. -/
import Derived.Test.YtolmjeglaolhlaaGreatDoorNatA
import Derived.Test.YtolmjeglaolhlaaGreatDoorPlain
import Derived.Lib.AtoiErrMem
import Derived.Deep.DeepCutAuto
namespace Go.Proofs.YtolmjeglaolhlaaGreatDoor
open Go.RowKit Num Go.Lib

/-- A rune that is no digit. -/
def notDig (r : Nat) : Bool := decide (r < 48) || decide (57 < r)

theorem notDig_iff (r : Nat) : notDig r = true ↔ ¬ (48 ≤ r ∧ r ≤ 57) := by
  unfold notDig
  simp only [Bool.or_eq_true, decide_eq_true_eq]
  omega

theorem idx_none (s : ByteArray) : ∀ (f pos : Nat), (∀ i (h : i < s.size), pos ≤ i → 48 ≤ (s[i]'h).toNat ∧ (s[i]'h).toNat ≤ 57) → idxFuncFrom notDig true s f pos = -1
  | 0, _, _ => rfl
  | f + 1, pos, h => by
    unfold idxFuncFrom
    split
    · rename_i hp
      have h1 := h pos hp (Nat.le_refl _)
      rw [decode_ascii s pos hp (by omega)]
      have h2 : notDig (s[pos]'hp).toNat = false := by
        rw [← Bool.not_eq_true, notDig_iff]; omega
      simp only [h2, Bool.false_eq_true, if_false]
      exact idx_none s f (pos + 1) fun i hi hle => h i hi (by omega)
    · rfl

theorem idx_some (s : ByteArray) : ∀ (f pos i : Nat) (hi : i < s.size), pos ≤ i → s.size ≤ pos + f → ¬ (48 ≤ (s[i]'hi).toNat ∧ (s[i]'hi).toNat ≤ 57) → 0 ≤ idxFuncFrom notDig true s f pos
  | 0, pos, i, hi, h1, h2, _ => by omega
  | f + 1, pos, i, hi, h1, h2, h3 => by
    unfold idxFuncFrom
    rw [if_pos (by omega)]
    have hp : pos < s.size := by omega
    rcases Nat.lt_or_ge (s[pos]'hp).toNat 128 with ha | ha
    · rw [decode_ascii s pos hp ha]
      by_cases hd : notDig (s[pos]'hp).toNat = true
      · simp only [hd, if_true]; omega
      · simp only [hd]
        have hne : pos ≠ i := by
          intro e; subst e
          rw [notDig_iff] at hd
          exact hd h3
        exact idx_some s f (pos + 1) i hi (by omega) (by omega) h3
    · have hr := (decode_high s pos hp ha).1
      have hd : notDig (Utf8.decode s pos).1 = true := by rw [notDig_iff]; omega
      simp only [hd, if_true]; omega

theorem idx_all {s : ByteArray} (h : AllDig s.data.toList) : decide (0 ≤ idxFunc notDig true s) = false := by
  unfold idxFunc
  rw [idx_none s s.size 0 fun i hi _ => h _ (by
    have : (s[i]'hi) = s.data.toList[i]'(by simpa using hi) := rfl
    rw [this]; exact List.getElem_mem _)]
  rfl

theorem idx_not {s : ByteArray} (h : ¬ AllDig s.data.toList) : decide (0 ≤ idxFunc notDig true s) = true := by
  have : ∃ c ∈ s.data.toList, ¬ (48 ≤ c.toNat ∧ c.toNat ≤ 57) := by
    apply Classical.byContradiction
    intro hc
    apply h
    intro c hm
    apply Classical.byContradiction
    intro hn
    exact hc ⟨c, hm, hn⟩
  obtain ⟨c, hm, hn⟩ := this
  obtain ⟨i, hi, rfl⟩ := List.getElem_of_mem hm
  rw [decide_eq_true_eq]
  exact idx_some s s.size 0 i (by simpa using hi) (Nat.zero_le _) (by omega) hn

set_option maxHeartbeats 400000 in
theorem notDig_fn (w : World) : PredAtRunes Tryz.prog 96 #[] notDig w := fun W r hr hb => by
  unfold FnGives
  rcases Nat.lt_or_ge r 48 with h | h
  · have d1 : decide ((r : Int) < 48) = true := by simp; omega
    have e : notDig r = true := by rw [notDig_iff]; omega
    rw [e]
    go_enter Tryz.func96, Tryz.ntmps96
    go_wp2
    go_ret
    exact ⟨rfl, 0, rfl⟩
  · have d1 : decide ((r : Int) < 48) = false := by simp; omega
    rcases Nat.lt_or_ge 57 r with h2 | h2
    · have d2 : decide (57 < (r : Int)) = true := by simp; omega
      have e : notDig r = true := by rw [notDig_iff]; omega
      rw [e]
      go_enter Tryz.func96, Tryz.ntmps96
      go_wp2
      go_ret
      exact ⟨rfl, 0, rfl⟩
    · have d2 : decide (57 < (r : Int)) = false := by simp; omega
      have e : notDig r = false := by rw [← Bool.not_eq_true, notDig_iff]; omega
      rw [e]
      go_enter Tryz.func96, Tryz.ntmps96
      go_wp2
      go_ret
      exact ⟨rfl, 0, rfl⟩

theorem contains_any (s : ByteArray) (w : World) :
    Calls Tryz.prog 95 #[.string s, .func (.func 96) #[] #[]] w fun e w' => e = .returned (.bool (decide (0 ≤ idxFunc notDig true s))) ∧ Below w.heap.size w w' :=
  Tryz.strings_ContainsFunc_runes 96 #[] (enters_of Tryz.func96 (by kernel_rfl) rfl) notDig s w (notDig_fn w)

set_option maxRecDepth 100000 in
set_option maxHeartbeats 800000 in
theorem Parse_empty (w : World) : Calls Tryz.prog 58 #[.string ⟨#[]⟩] w fun e w' => e = .returned (.tuple #[.string (Enc 0), .bool false]) ∧ Below w.heap.size w w' := by
  go_enter Tryz.func58, Tryz.ntmps58
  go_wp2
  go_ret2
  exact ⟨rfl, Below.refl _ _⟩

theorem notEmpty {s : ByteArray} (h : 0 < s.size) : s.toList.isEmpty = false := by
  rw [ByteArray.toList_eq]
  cases hl : s.data.toList with
  | nil =>
    have h2 : s.data.toList.length = s.size := by simp
    rw [hl] at h2
    simp at h2
    omega
  | cons _ _ => rfl

set_option maxRecDepth 100000 in
set_option maxHeartbeats 800000 in
theorem Parse_zero (s : ByteArray) (w : World) (h1 : 1 < s.size) (h0 : (s[0]'(by omega)).toNat = 48) : Calls Tryz.prog 58 #[.string s] w fun e w' => e = .returned (.tuple #[.string (Enc 0), .bool false]) ∧ Below w.heap.size w w' := by
  have hne := notEmpty (show 0 < s.size by omega)
  have h1i : (1 : Int) < (s.size : Int) := by omega
  go_enter Tryz.func58, Tryz.ntmps58
  go_wp2
  go_ret2
  exact ⟨rfl, Below.refl _ _⟩

set_option maxRecDepth 100000 in
set_option maxHeartbeats 800000 in
theorem Parse_other (s : ByteArray) (w : World) (h1 : 0 < s.size) (h0 : s.size = 1 ∨ (s[0]'h1).toNat ≠ 48) (hc : ¬ AllDig s.data.toList) : Calls Tryz.prog 58 #[.string s] w fun e w' => e = .returned (.tuple #[.string (Enc 0), .bool false]) ∧ Below w.heap.size w w' := by
  have hcf := contains_any s w
  rw [idx_not hc] at hcf
  have HCF := Lib.hid hcf
  clear hcf hc
  have hne := notEmpty h1
  rcases Nat.lt_or_ge 1 s.size with h2 | h2
  · have h3 : (((s[0]'h1).toNat : Int) == 48) = false := by rw [beq_eq_false_iff_ne]; omega
    have h1i : (1 : Int) < (s.size : Int) := by omega
    clear h0
    go_enter Tryz.func58, Tryz.ntmps58
    go_wp2_with fail
    refine HCF.out.mono ?_
    rintro e w1 ⟨rfl, hb⟩
    go_wp2
    go_ret2
    exact ⟨rfl, hb⟩
  · have h1i : ¬ (1 : Int) < (s.size : Int) := by omega
    clear h0
    go_enter Tryz.func58, Tryz.ntmps58
    go_wp2_with fail
    refine HCF.out.mono ?_
    rintro e w1 ⟨rfl, hb⟩
    go_wp2
    go_ret2
    exact ⟨rfl, hb⟩

theorem extract_left (s : ByteArray) (n : Nat) : (s.extract 0 n).data.toList = s.data.toList.take n := by
  rw [Lib.extract_data]; simp
theorem extract_right (s : ByteArray) (n : Nat) : (s.extract n s.size).data.toList = s.data.toList.drop n := by
  rw [Lib.extract_data]
  exact List.take_of_length_le (by simp)

/-- A chunk of digits more. -/
theorem parse_step {V g L n : Nat} {rem : List UInt8} (hv : V = L * 10 ^ rem.length + dval rem) (hn : n ≤ rem.length) (hz : L = 0 ∨ n = 9) : V = (L * 1000000000 + dval (rem.take n)) * 10 ^ (rem.length - n) + dval (rem.drop n) := by
  have _ := g
  have h1 : dval rem = dval (rem.take n) * 10 ^ (rem.length - n) + dval (rem.drop n) := by
    have := dval_append (rem.take n) (rem.drop n)
    rw [List.take_append_drop, List.length_drop] at this
    exact this
  rw [hv, h1, Nat.add_mul]
  have h2 : L * 10 ^ rem.length = L * 1000000000 * 10 ^ (rem.length - n) := by
    rcases hz with h | h
    · subst h; simp
    · subst h
      have : (10 : Nat) ^ rem.length = 1000000000 * 10 ^ (rem.length - 9) := by
        rw [show (1000000000 : Nat) = 10 ^ 9 by decide, ← Nat.pow_add, show 9 + (rem.length - 9) = rem.length by omega]
      rw [this, Nat.mul_assoc]
  rw [h2, Nat.add_assoc]

def ParseRel (w : World) (V S : Nat) (g : Nat) (vrem vl' : Value) (wr : World) : Prop :=
  ∃ (rem : ByteArray) (l : List Nat), vrem = .string rem ∧ rem.size = g ∧ AllDig rem.data.toList ∧ Sl .u32 wr vl' l ∧ Dig 4294967296 l ∧ Tr l ∧ V = vl 4294967296 l * 10 ^ g + dval rem.data.toList ∧ (vl 4294967296 l = 0 ∨ g % 9 = 0) ∧ l.length + 2 * g ≤ 2 * S ∧ Below w.heap.size w wr

set_option maxRecDepth 100000 in
set_option maxHeartbeats 1600000 in
theorem Parse_ok (s : ByteArray) (w : World) (h1 : 0 < s.size) (hs : s.size ≤ 16777216) (h0 : s.size = 1 ∨ (s[0]'h1).toNat ≠ 48) (hc : AllDig s.data.toList) : Calls Tryz.prog 58 #[.string s] w fun e w' => e = .returned (.tuple #[.string (Enc (dval s.data.toList)), .bool true]) ∧ Below w.heap.size w w' := by
  have hcf := contains_any s w
  rw [idx_all hc] at hcf
  generalize hV : dval s.data.toList = V
  have HCF := Lib.hid hcf; have HC := Lib.hid hc; have HV := Lib.hid hV
  clear hcf hc hV
  have hne := notEmpty h1
  have htest : (decide ((1 : Int) < (s.size : Int)) && (((s[0]'h1).toNat : Int) == 48)) = false := by
    rcases h0 with h | h
    · have : decide ((1 : Int) < (s.size : Int)) = false := by simp; omega
      rw [this]; rfl
    · have : (((s[0]'h1).toNat : Int) == 48) = false := by rw [beq_eq_false_iff_ne]; omega
      rw [this]; simp
  have hcases : (1 : Int) < (s.size : Int) ∧ (((s[0]'h1).toNat : Int) == 48) = false ∨ ¬ (1 : Int) < (s.size : Int) := by
    rcases Nat.lt_or_ge 1 s.size with h | h
    · left
      refine ⟨by omega, ?_⟩
      rw [beq_eq_false_iff_ne]
      omega
    · right; omega
  clear h0 htest
  go_enter Tryz.func58, Tryz.ntmps58
  go_upto_region 1 with fail
  go_cut [0, 23] (fun v t wx => v = .string s ∧ t = .bool false ∧ Below w.heap.size w wx)
  case first =>
    rcases hcases with ⟨h2, h3⟩ | h2
    · go_wp2_with fail
      refine HCF.out.mono ?_
      rintro e w1 ⟨rfl, hb⟩
      go_wp2_with fail
      go_meet
      exact ⟨rfl, rfl, hb⟩
    · go_wp2_with fail
      refine HCF.out.mono ?_
      rintro e w1 ⟨rfl, hb⟩
      go_wp2_with fail
      go_meet
      exact ⟨rfl, rfl, hb⟩
  case rest =>
    obtain ⟨rfl, rfl, hb0⟩ := hcut
    clear hcases hne
    have HB0 := Lib.hid hb0; clear hb0
    go_wp2
    go_loopg [0, 4] s.size (fun g r l wr => ParseRel w V s.size g r l wr)
    case atStart => exact ⟨s, [], rfl, rfl, HC.out, Sl.nil _ _ _ _ (by decide), Dig.nil _, Tr.nil, by rw [HV.out]; simp, Or.inl rfl, by simp, HB0.out⟩
    case round =>
      obtain ⟨rem, l, rfl, hrg, hall, hsl, hdl, htl, hval, hz, hll, hbel⟩ := hrel
      subst hrg
      have HALL := Lib.hid hall; have HVAL := Lib.hid hval; have HZ := Lib.hid hz; have HBel := Lib.hid hbel
      clear hall hval hz hbel HB0 HC HV HCF
      rcases Nat.eq_zero_or_pos rem.size with h0 | h0
      · have he : rem.toList.isEmpty = true := by
          rw [ByteArray.toList_eq]
          have h2 : rem.data.toList.length = rem.size := by simp
          rw [h0] at h2
          rw [List.length_eq_zero_iff.1 h2]; rfl
        have HR0 := Lib.hid h0; clear h0
        go_wp2_with fail
        refine (number_any hsl hdl (by omega)).mono ?_
        rintro e w4 ⟨rfl, hb4⟩
        go_wp2_with fail
        go_ret2
        have h3 := HVAL.out
        rw [HR0.out] at h3
        have h4 : rem.data.toList = [] := List.length_eq_zero_iff.1 (by have := HR0.out; simpa using this)
        rw [h4] at h3
        simp at h3
        exact ⟨by rw [h3]; rfl, HBel.out.trans (hb4.mono HBel.out.size)⟩
      · have hne := notEmpty h0
        obtain ⟨m, hm, hm2⟩ : ∃ m : Nat, (rem.size : Int) % 9 = (m : Int) ∧ m = rem.size % 9 := ⟨rem.size % 9, by omega, rfl⟩
        obtain ⟨n, hn, hn2⟩ : ∃ n : Nat, n ≤ rem.size ∧ (m = 0 ∧ n = 9 ∨ m ≠ 0 ∧ n = m) := by
          by_cases hm0 : m = 0
          · exact ⟨9, by omega, Or.inl ⟨hm0, rfl⟩⟩
          · exact ⟨m, by omega, Or.inr ⟨hm0, rfl⟩⟩
        have hn9 : n ≤ 9 := by omega
        have hn0 : 0 < n := by omega
        have hcut1 : vl 4294967296 l = 0 ∨ n = 9 := by
          rcases HZ.out with h | h
          · exact Or.inl h
          · right; omega
        have hm9 : (rem.size - n) % 9 = 0 := by omega
        have hpd : AllDig (rem.extract 0 n).data.toList := by rw [extract_left]; exact fun c hc => HALL.out c (List.mem_of_mem_take hc)
        have hpl : (rem.extract 0 n).data.toList.length = n := by rw [extract_left, List.length_take]; simp; omega
        have hps : (rem.extract 0 n).size = n := by rw [← hpl]; simp
        have hat := Tryz.strconv_Atoi (rem.extract 0 n) (((dval (rem.extract 0 n).data.toList : Nat) : Int)) (by omega) (atoi_digits hpd (by intro h; rw [h] at hpl; simp at hpl; omega))
        have hplt := dval_lt hpd
        rw [hpl] at hplt
        have hplt2 : (10 : Nat) ^ n ≤ 10 ^ 9 := Nat.pow_le_pow_right (by omega) hn9
        generalize hP : dval (rem.extract 0 n).data.toList = P at hat hplt
        have hP9 : P < 1000000000 := by
          have : (10 : Nat) ^ 9 = 1000000000 := by decide
          omega
        have hprod := fun (W : World) (hW : Below wr.heap.size wr W) => product_any (w := W.alloc (.cells #[.int .u32 1000000000] 30)) (vb := .slice (some ⟨W.heap.size, 0, none⟩) 1 1) (lb := [1000000000]) ((hsl.below hW).below ((Below.refl _ _).alloc (Nat.le_refl _) _))
          (by have h := Blk.new W 30 (ints .u32 [1000000000]); exact h.row.sl h.lt 1 (by simp) (by decide)) hdl (Dig.cons (by decide) (Dig.nil _)) (by omega) (by simp)
        have htrim := fun (W : World) => trim_any (b := 4294967296) (w := W.alloc (.cells #[.int .u32 (P : Int)] 30)) (v := .slice (some ⟨W.heap.size, 0, none⟩) 1 1) (l := [P])
          (by have h := Blk.new W 30 (ints .u32 [P]); exact h.row.sl h.lt 1 (by simp) (by decide))
        have HM := Lib.hid hm2; have HN2 := Lib.hid hn2; have HCUT := Lib.hid hcut1; have HM9 := Lib.hid hm9; have HAT := Lib.hid hat; have HP := Lib.hid hP; have HPR := Lib.hid hprod; have HTR := Lib.hid htrim
        clear hm2 hcut1 hm9 hpd hpl hat hplt hplt2 hP hprod htrim hps
        have hmcase : ((m : Int) == 0) = true ∧ n = 9 ∨ ((m : Int) == 0) = false ∧ n = m := by
          rcases hn2 with ⟨h, h'⟩ | ⟨h, h'⟩
          · left; exact ⟨by rw [beq_iff_eq]; omega, h'⟩
          · right; exact ⟨by rw [beq_eq_false_iff_ne]; omega, h'⟩
        clear hn2
        go_upto_if 30 with fail
        go_cut [5] (fun v wx => v = .int .i64 (n : Int) ∧ wr = wx)
        case first =>
          rcases hmcase with ⟨hb, hb2⟩ | ⟨hb, hb2⟩
          · subst hb2
            go_wp2_with fail
            go_meet
            exact ⟨rfl, rfl⟩
          · subst hb2
            go_wp2_with fail
            go_meet
            exact ⟨by first | rfl | rw [hm], rfl⟩
        case rest =>
          obtain ⟨rfl, rfl⟩ := hcut
          clear hmcase hm
          go_wp2_with fail
          refine (HAT.out wr).mono ?_
          rintro e w1 ⟨rfl, t, hw1⟩
          have hb1 : Below wr.heap.size wr w1 := by rw [hw1]; exact Lib.bytesWorld_below _ _ _
          clear hw1
          have hb1a := hb1.trans (((Below.refl w1.heap.size w1).alloc (Nat.le_refl _) (.cells #[.int .u32 1000000000] 30)).mono hb1.size)
          go_wp2_with fail
          refine (HPR.out w1 hb1).mono ?_
          rintro e w2 ⟨v2, l2, rfl, hs2, hd2, ht2, hv2, hl2, hb2⟩
          have hb2a := hb1a.trans (hb2.mono hb1a.size)
          have HV2 := Lib.hid hv2; clear hv2
          go_wp2_with fail
          refine (HTR.out w2).mono ?_
          rintro e w' ⟨v3, l3, rfl, hs3, hd3, ht3, hv3, hl3, rfl⟩
          have hb3 : Below w2.heap.size w2 (w2.alloc (.cells #[.int .u32 (P : Int)] 30)) := (Below.refl _ _).alloc (Nat.le_refl _) _
          have hd3' := hd3 (Dig.cons (by omega) (Dig.nil _))
          have HV3 := Lib.hid hv3; clear hv3 hd3
          simp only [List.length_singleton] at hl2 hl3
          go_wp2_with fail
          refine (sum_any (hs2.below hb3) hs3 hd2 hd3' (by omega) (by omega)).mono ?_
          rintro e w4 ⟨v4, l4, rfl, hs4, hd4, ht4, hv4, hl4, hb4⟩
          have HV4 := Lib.hid hv4; clear hv4
          have hb4a := (hb2a.trans (hb3.mono hb2a.size)).trans (hb4.mono (Nat.le_trans hb2a.size hb3.size))
          go_wp2_with fail
          have hlen4 : vl 4294967296 l4 = vl 4294967296 l * 1000000000 + P := by
            rw [HV4.out, HV2.out, HV3.out]; simp
          have hrl : (rem.extract n rem.size).data.toList = rem.data.toList.drop n := extract_right rem n
          have hrs : (rem.extract n rem.size).size = rem.size - n := by
            have h1 : (rem.extract n rem.size).data.toList.length = rem.size - n := by rw [hrl, List.length_drop]; simp
            rw [← h1]; simp
          have hrlen : rem.data.toList.length = rem.size := by simp
          go_roundg (rem.size - n)
          case measure => omega
          case rel =>
            refine ⟨rem.extract n rem.size, l4, rfl, hrs, by rw [hrl]; exact fun c hc => HALL.out c (List.mem_of_mem_drop hc), hs4, hd4, ht4, ?_, Or.inr HM9.out, by omega, HBel.out.trans (hb4a.mono HBel.out.size)⟩
            rw [hlen4, hrl, ← HP.out, extract_left, ← hrlen]
            exact parse_step (g := 0) (by rw [hrlen]; exact HVAL.out) (by omega) HCUT.out

/-- Whether a string is a number in decimal, as it is written. -/
def isDec (s : List UInt8) : Bool := decide (0 < s.length) && (decide (s.length = 1) || s.head? != some 48) && s.all fun c => decide (48 ≤ c.toNat) && decide (c.toNat ≤ 57)

theorem isDec_iff (s : List UInt8) : isDec s = true ↔ DecRt s := by
  unfold isDec DecRt AllDig
  cases s with
  | nil => simp
  | cons c t =>
    simp only [List.length_cons, List.head?_cons, Bool.and_eq_true, Bool.or_eq_true, decide_eq_true_eq, List.all_eq_true]
    constructor
    · rintro ⟨⟨_, h1⟩, h2⟩
      refine ⟨h2, ?_⟩
      rcases h1 with h1 | h1
      · have ht : t = [] := List.length_eq_zero_iff.1 (by omega)
        subst ht
        by_cases hc : c = 48
        · left; rw [hc]
        · right; exact ⟨c, [], rfl, hc⟩
      · right
        refine ⟨c, t, rfl, ?_⟩
        simpa using h1
    · rintro ⟨h1, h2⟩
      refine ⟨⟨by omega, ?_⟩, h1⟩
      rcases h2 with h2 | ⟨d, r, h2, h3⟩
      · left; simp at h2; simp [h2.2]
      · right; simp at h2; simp [h2.1, h3]

/-- What nat.Parse returns. -/
def parsePair (s : List UInt8) : Value := if isDec s then .tuple #[.string (Enc (dval s)), .bool true] else .tuple #[.string (Enc 0), .bool false]
theorem parsePair_yes {s : List UInt8} (h : DecRt s) : parsePair s = .tuple #[.string (Enc (dval s)), .bool true] := by unfold parsePair; rw [if_pos ((isDec_iff s).2 h)]
theorem parsePair_no {s : List UInt8} (h : ¬ DecRt s) : parsePair s = .tuple #[.string (Enc 0), .bool false] := by unfold parsePair; rw [if_neg (fun e => h ((isDec_iff s).1 e))]

/-- **nat.Parse**. -/
theorem Parse_any (s : ByteArray) (w : World) (hs : s.size ≤ 16777216) :
    Calls Tryz.prog 58 #[.string s] w fun e w' => e = .returned (parsePair s.data.toList) ∧ Below w.heap.size w w' := by
  rcases Nat.eq_zero_or_pos s.size with h0 | h0
  · have hl : s.data.toList = [] := List.length_eq_zero_iff.1 (by simpa using h0)
    have he : s = ⟨#[]⟩ := ByteArray.ext (Array.ext' hl)
    rw [parsePair_no (by rw [hl]; rintro ⟨_, h⟩; rcases h with h | ⟨c, t, h, _⟩ <;> simp at h), he]
    exact Parse_empty w
  · have hhead : s.data.toList.head? = some (s[0]'h0) := by
      rw [List.head?_eq_getElem?, List.getElem?_eq_getElem (by simpa using h0)]; rfl
    have hhead2 : ∀ c t, s.data.toList = c :: t → c = s[0]'h0 := fun c t h => by rw [h] at hhead; simpa using hhead
    have hsl : s.data.toList.length = s.size := by simp
    by_cases h1 : s.size = 1 ∨ (s[0]'h0).toNat ≠ 48
    · by_cases hc : AllDig s.data.toList
      · have hrt : DecRt s.data.toList := by
          refine ⟨hc, ?_⟩
          cases hl : s.data.toList with
          | nil => rw [hl] at hsl; simp at hsl; omega
          | cons c t =>
            have e := hhead2 c t hl
            by_cases h48 : c = 48
            · left
              rcases h1 with h1 | h1
              · have : t = [] := List.length_eq_zero_iff.1 (by rw [hl] at hsl; simp at hsl; omega)
                rw [this, h48]
              · exfalso; apply h1; rw [← e, h48]; rfl
            · right; exact ⟨c, t, rfl, h48⟩
        rw [parsePair_yes hrt]
        exact Parse_ok s w h0 hs h1 hc
      · rw [parsePair_no fun h => hc h.1]
        exact Parse_other s w h0 h1 hc
    · have h2 : 1 < s.size := by omega
      have h3 : (s[0]'h0).toNat = 48 := by omega
      rw [parsePair_no]
      · exact Parse_zero s w h2 h3
      · rintro ⟨_, h⟩
        rcases h with h | ⟨c, t, h, hc⟩
        · rw [h] at hsl; simp at hsl; omega
        · have e := hhead2 c t h
          apply hc
          rw [e]
          exact UInt8.toNat_inj.1 h3

#print axioms Parse_any
end Go.Proofs.YtolmjeglaolhlaaGreatDoor
