/- Plain arithmetic of decimal texts: their value, the canonical text of a number. No program in sight. -/
import Derived.Test.YtmbgohaljiiigaaGreatDoorNum
import Derived.Lib.ItoaNum
import Derived.Lib.Atoi
import Derived.Lib.Repeat
namespace Go.Proofs.YtmbgohaljiiigaaGreatDoor
namespace Num

/-- The text of a number in decimal. -/
def decD (n : Nat) : List UInt8 := if n = 0 then [48] else ((dig 10 n).map fun d => UInt8.ofNat (48 + d)).reverse

/-- The value of a text of digits. -/
def dval (s : List UInt8) : Nat := vl 10 (s.reverse.map fun c => c.toNat - 48)

/-- All signs are digits. -/
def AllDig (s : List UInt8) : Prop := ∀ c ∈ s, 48 ≤ c.toNat ∧ c.toNat ≤ 57

theorem AllDig.nil : AllDig [] := by intro c hc; cases hc
theorem AllDig.append {s t : List UInt8} (hs : AllDig s) (ht : AllDig t) : AllDig (s ++ t) := by
  intro c hc; rcases List.mem_append.1 hc with h | h
  · exact hs c h
  · exact ht c h
theorem AllDig.left {s t : List UInt8} (h : AllDig (s ++ t)) : AllDig s := fun c hc => h c (by simp [hc])
theorem AllDig.right {s t : List UInt8} (h : AllDig (s ++ t)) : AllDig t := fun c hc => h c (by simp [hc])
theorem AllDig.dig {s : List UInt8} (h : AllDig s) : Dig 10 (s.reverse.map fun c => c.toNat - 48) := by
  intro x hx
  obtain ⟨c, hc, rfl⟩ := List.mem_map.1 hx
  have := h c (by simpa using hc)
  omega

@[simp] theorem dval_nil : dval [] = 0 := rfl
theorem dval_append (s t : List UInt8) : dval (s ++ t) = dval s * 10 ^ t.length + dval t := by
  unfold dval
  rw [List.reverse_append, List.map_append, vl_append]
  simp [Nat.mul_comm, Nat.add_comm]
theorem dval_lt {s : List UInt8} (h : AllDig s) : dval s < 10 ^ s.length := by
  have := vl_lt h.dig
  simpa [dval] using this

/-- A text as it is written: not empty, no zero in front but for 0. -/
def DecRt (s : List UInt8) : Prop := AllDig s ∧ (s = [48] ∨ ∃ c t, s = c :: t ∧ c ≠ 48)

theorem dec_byte {d : Nat} (h : d < 10) : (UInt8.ofNat (48 + d)).toNat = 48 + d := by
  simp; omega

theorem dec_map_back {l : List Nat} (h : Dig 10 l) : (l.map fun d => UInt8.ofNat (48 + d)).map (fun c => c.toNat - 48) = l := by
  rw [List.map_map]
  conv => rhs; rw [← List.map_id l]
  apply List.map_congr_left
  intro x hx
  have := h x hx
  simp only [Function.comp, dec_byte this, id]
  omega

theorem decD_all (n : Nat) : AllDig (decD n) := by
  unfold decD
  split
  · intro c hc; simp at hc; subst hc; decide
  · intro c hc
    simp only [List.mem_reverse, List.mem_map] at hc
    obtain ⟨d, hd, rfl⟩ := hc
    have := dig_dig (b := 10) (by omega) n d hd
    rw [dec_byte this]; omega

theorem decD_val (n : Nat) : dval (decD n) = n := by
  unfold decD
  split
  · rename_i h; subst h; rfl
  · unfold dval
    rw [List.reverse_reverse, dec_map_back (dig_dig (by omega) n), dig_vl (by omega)]

theorem decD_rt (n : Nat) : DecRt (decD n) := by
  refine ⟨decD_all n, ?_⟩
  unfold decD
  split
  · exact Or.inl rfl
  · rename_i hn
    right
    have ht := dig_tr (b := 10) (by omega) n
    have hd := dig_dig (b := 10) (by omega) n
    have hv := dig_vl (b := 10) (by omega) n
    have hl : 0 < (dig 10 n).length := by
      rcases Nat.eq_zero_or_pos (dig 10 n).length with h | h
      · rw [List.length_eq_zero_iff.1 h] at hv; simp at hv; omega
      · exact h
    have hs := split_last hl
    have h0 := ht.last hl
    have hx := hd.get (by omega) ((dig 10 n).length - 1)
    generalize (dig 10 n).getD ((dig 10 n).length - 1) 0 = x at *
    rw [hs, List.map_append, List.reverse_append]
    refine ⟨UInt8.ofNat (48 + x), _, rfl, ?_⟩
    intro e
    have := congrArg UInt8.toNat e
    rw [dec_byte hx] at this
    simp at this
    omega

theorem byte_of_digit {c d : UInt8} (hc : 48 ≤ c.toNat ∧ c.toNat ≤ 57) (hd : 48 ≤ d.toNat ∧ d.toNat ≤ 57) (h : c.toNat - 48 = d.toNat - 48) : c = d :=
  UInt8.toNat_inj.1 (by omega)

theorem map_back_inj : ∀ {s t : List UInt8}, AllDig s → AllDig t → s.map (fun c => c.toNat - 48) = t.map (fun c => c.toNat - 48) → s = t
  | [], [], _, _, _ => rfl
  | [], _ :: _, _, _, h => by simp at h
  | _ :: _, [], _, _, h => by simp at h
  | c :: s, d :: t, hs, ht, h => by
    simp only [List.map_cons, List.cons.injEq] at h
    rw [byte_of_digit (hs c (by simp)) (ht d (by simp)) h.1, map_back_inj (fun x hx => hs x (by simp [hx])) (fun x hx => ht x (by simp [hx])) h.2]

theorem DecRt.tr {s : List UInt8} (h : DecRt s) (h0 : s ≠ [48]) : Tr (s.reverse.map fun c => c.toNat - 48) := by
  rcases h.2 with h1 | ⟨c, t, rfl, hc⟩
  · exact absurd h1 h0
  · rw [List.reverse_cons, List.map_append]
    apply Tr.snoc
    intro e
    apply hc
    have := h.1 c (by simp)
    have e1 : c.toNat - 48 = 0 := e
    have e2 : c.toNat = 48 := by omega
    exact UInt8.toNat_inj.1 e2

/-- Written texts with one value are the same. -/
theorem dec_inj {s t : List UInt8} (hs : DecRt s) (ht : DecRt t) (hv : dval s = dval t) : s = t := by
  have zero : ∀ u : List UInt8, DecRt u → dval u = 0 → u = [48] := by
    intro u hu h0
    rcases hu.2 with h1 | ⟨c, r, rfl, hc⟩
    · exact h1
    · exfalso
      have htr := hu.tr (by intro e; simp at e; exact hc e.1)
      have h2 := htr.eq_nil (b := 10) (by omega) h0
      simp at h2
  by_cases h1 : s = [48]
  · subst h1
    exact (zero t ht (by rw [← hv]; rfl)).symm
  · by_cases h2 : t = [48]
    · subst h2
      exact zero s hs (by rw [hv]; rfl)
    · have h3 := tr_inj (b := 10) (by omega) hs.1.dig ht.1.dig (hs.tr h1) (ht.tr h2) hv
      have h4 := map_back_inj (s := s.reverse) (t := t.reverse) (fun c hc => hs.1 c (by simpa using hc)) (fun c hc => ht.1 c (by simpa using hc)) h3
      exact List.reverse_inj.1 h4

theorem decD_of {s : List UInt8} (h : DecRt s) : decD (dval s) = s := dec_inj (decD_rt _) h (decD_val _)

/-- The kit's decimal digits are ours. -/
theorem decDigits_rt (u : Nat) : DecRt (Lib.decDigits u) ∧ dval (Lib.decDigits u) = u := by
  induction u using Nat.strongRecOn with
  | _ u ih =>
    rw [Lib.decDigits]
    split
    · rename_i h
      refine ⟨⟨?_, ?_⟩, ?_⟩
      · intro c hc; simp only [List.mem_singleton] at hc; subst hc; rw [dec_byte h]; omega
      · rcases Nat.eq_zero_or_pos u with h0 | h0
        · subst h0; left; rfl
        · right
          refine ⟨_, [], rfl, ?_⟩
          intro e
          have := congrArg UInt8.toNat e
          rw [dec_byte h] at this
          simp at this
          omega
      · show (UInt8.ofNat (48 + u)).toNat - 48 + 10 * 0 = u
        rw [dec_byte h]; omega
    · rename_i h
      obtain ⟨⟨h1, h2⟩, h3⟩ := ih (u / 10) (by omega)
      have hm : u % 10 < 10 := Nat.mod_lt _ (by omega)
      refine ⟨⟨h1.append ?_, ?_⟩, ?_⟩
      · intro c hc; simp only [List.mem_singleton] at hc; subst hc; rw [dec_byte hm]; omega
      · right
        rcases h2 with h2 | ⟨c, t, h2, hc⟩
        · rw [h2] at h3
          have : dval [48] = 0 := rfl
          omega
        · exact ⟨c, t ++ [UInt8.ofNat (48 + u % 10)], by rw [h2]; rfl, hc⟩
      · rw [dval_append, h3]
        show u / 10 * 10 ^ 1 + ((UInt8.ofNat (48 + u % 10)).toNat - 48 + 10 * 0) = u
        rw [dec_byte hm]; omega

theorem decDigits_eq_decD (u : Nat) : Lib.decDigits u = decD u := by
  obtain ⟨h1, h2⟩ := decDigits_rt u
  have := decD_of h1
  rw [h2] at this
  exact this.symm

theorem itoa_nat (n : Nat) : Lib.itoa (n : Int) = decD n := by
  unfold Lib.itoa
  rw [if_neg (by omega), Int.toNat_natCast, decDigits_eq_decD]

theorem decD_length_pos (n : Nat) : 0 < (decD n).length := by
  rcases (decD_rt n).2 with h | ⟨c, t, h, _⟩ <;> rw [h] <;> simp

theorem decD_length_le {n k : Nat} (h : n < 10 ^ k) (hk : 1 ≤ k) : (decD n).length ≤ k := by
  by_cases h0 : n = 0
  · subst h0; simp [decD]; omega
  · unfold decD
    rw [if_neg h0]
    simp only [List.length_reverse, List.length_map]
    have hv := dig_vl (b := 10) (by omega) n
    have ht := dig_tr (b := 10) (by omega) n
    rcases Nat.lt_or_ge k (dig 10 n).length with h1 | h1
    · have := ht.ge (b := 10) (by omega)
      have h2 : 10 ^ k ≤ 10 ^ ((dig 10 n).length - 1) := Nat.pow_le_pow_right (by omega) (by omega)
      omega
    · exact h1

/-- Zeros in front, up to nine digits. -/
theorem repeat_zero (k : Nat) : AllDig (Lib.repeatL [48] k) ∧ dval (Lib.repeatL [48] k) = 0 ∧ (Lib.repeatL [48] k).length = k := by
  induction k with
  | zero => exact ⟨AllDig.nil, rfl, rfl⟩
  | succ k ih =>
    obtain ⟨h1, h2, h3⟩ := ih
    show AllDig ([48] ++ _) ∧ dval ([48] ++ _) = 0 ∧ ([48] ++ _).length = k + 1
    refine ⟨AllDig.append (by intro c hc; simp at hc; subst hc; decide) h1, ?_, by simp [h3]⟩
    rw [dval_append, h2, show dval [48] = 0 from rfl, Nat.zero_mul]

theorem decRt_append {s t : List UInt8} (hs : DecRt s) (ht : AllDig t) (h : s = [48] → t = []) : DecRt (s ++ t) := by
  refine ⟨hs.1.append ht, ?_⟩
  rcases hs.2 with h1 | ⟨c, r, h1, hc⟩
  · left; rw [h h1, h1]; rfl
  · right; exact ⟨c, r ++ t, by rw [h1]; rfl, hc⟩

theorem decD_eq_zero {n : Nat} (h : decD n = [48]) : n = 0 := by
  have := decD_val n
  rw [h] at this
  exact this.symm

/-- The last part of a text: what came before was not empty. -/
theorem text_last {V g k : Nat} {out : List UInt8} (hv : V = g * 10 ^ (9 * k) + dval out) (ha : AllDig out) (hs : out.length = 9 * k) (h0 : k = 0 ∨ g ≠ 0) : decD g ++ out = decD V := by
  have hrt : DecRt (decD g ++ out) := decRt_append (decD_rt g) ha fun h => by
    have hg := decD_eq_zero h
    rcases h0 with h0 | h0
    · exact List.length_eq_zero_iff.1 (by omega)
    · exact absurd hg h0
  refine dec_inj hrt (decD_rt V) ?_
  rw [dval_append, decD_val, decD_val, hs, hv]

/-- A part in the middle of a text. -/
theorem text_mid {V g k r q : Nat} {out : List UInt8} (hv : V = g * 10 ^ (9 * k) + dval out) (ha : AllDig out) (hs : out.length = 9 * k) (hr : g % 1000000000 = r) (hq : q = g / 1000000000) (hl : (decD r).length ≤ 9) :
    V = q * 10 ^ (9 * (k + 1)) + dval (Lib.repeatL [48] (9 - (decD r).length) ++ decD r ++ out) ∧ AllDig (Lib.repeatL [48] (9 - (decD r).length) ++ decD r ++ out) ∧
      (Lib.repeatL [48] (9 - (decD r).length) ++ decD r ++ out).length = 9 * (k + 1) := by
  obtain ⟨h1, h2, h3⟩ := repeat_zero (9 - (decD r).length)
  refine ⟨?_, (h1.append (decD_all r)).append ha, by simp [h3, hs]; omega⟩
  rw [dval_append, dval_append, h2, decD_val, hs, Nat.zero_mul, Nat.zero_add, hv, Nat.mul_add, Nat.pow_add]
  have h4 := Nat.div_add_mod g 1000000000
  rw [hr, ← hq] at h4
  have e : (10 : Nat) ^ (9 * 1) = 1000000000 := by decide
  rw [e]
  generalize 10 ^ (9 * k) = P
  rw [← h4]
  grind

/-- How many parts there are. -/
theorem text_parts {V g k S : Nat} {out : List UInt8} (hv : V = g * 10 ^ (9 * k) + dval out) (h0 : k = 0 ∨ g ≠ 0) (hV : V < 256 ^ S) : 9 * k ≤ 3 * S := by
  rcases h0 with h0 | h0
  · omega
  · have h1 : 10 ^ (9 * k) ≤ g * 10 ^ (9 * k) := Nat.le_mul_of_pos_left _ (by omega)
    have h2 : (8 : Nat) ^ (9 * k) ≤ 10 ^ (9 * k) := Nat.pow_le_pow_left (by omega) _
    have e1 : (8 : Nat) ^ (9 * k) = 2 ^ (27 * k) := by rw [show (8 : Nat) = 2 ^ 3 by decide, ← Nat.pow_mul]; congr 1; omega
    have e2 : (256 : Nat) ^ S = 2 ^ (8 * S) := by rw [show (256 : Nat) = 2 ^ 8 by decide, ← Nat.pow_mul]
    have h3 : (2 : Nat) ^ (27 * k) < 2 ^ (8 * S) := by omega
    have := (Nat.pow_lt_pow_iff_right (by omega)).1 h3
    omega

theorem dval_cons (c : UInt8) (t : List UInt8) : dval (c :: t) = (c.toNat - 48) * 10 ^ t.length + dval t := by
  have := dval_append [c] t
  simpa [dval] using this

theorem decFrom_digits : ∀ (s : List UInt8) (acc : Nat), AllDig s → Lib.decFrom acc s = some (acc * 10 ^ s.length + dval s)
  | [], acc, _ => by simp [Lib.decFrom]
  | c :: s, acc, h => by
    have hc := h c (by simp)
    have ih := decFrom_digits s (acc * 10 + (c.toNat - 48)) fun x hx => h x (by simp [hx])
    unfold Lib.decFrom
    have hd : Lib.digitVal c = some (c.toNat - 48) := by unfold Lib.digitVal; rw [if_pos hc]
    rw [hd]
    simp only []
    rw [ih, dval_cons, List.length_cons, Nat.pow_succ]
    congr 1
    generalize 10 ^ s.length = P
    generalize c.toNat - 48 = d
    grind

/-- The library's reading of digits. -/
theorem atoi_digits {s : List UInt8} (h : AllDig s) (h0 : s ≠ []) : Lib.atoi s = some ((dval s : Nat) : Int) := by
  cases s with
  | nil => exact absurd rfl h0
  | cons c s =>
    have hc := h c (by simp)
    have h1 : (c == 45) = false := by rw [beq_eq_false_iff_ne]; intro e; subst e; simp at hc
    have h2 : (c == 43) = false := by rw [beq_eq_false_iff_ne]; intro e; subst e; simp at hc
    unfold Lib.atoi
    simp only [h1, h2, Bool.false_eq_true, if_false]
    unfold Lib.decNat
    rw [if_neg (by simp), decFrom_digits _ _ h]
    simp

/-- The string of a number in decimal. -/
def DecS (n : Nat) : ByteArray := ⟨(decD n).toArray⟩

#print axioms decDigits_eq_decD
#print axioms repeat_zero
end Num
end Go.Proofs.YtmbgohaljiiigaaGreatDoor
