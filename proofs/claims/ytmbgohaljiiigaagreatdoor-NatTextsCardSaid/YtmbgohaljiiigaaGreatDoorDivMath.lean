/- Plain arithmetic of the long division: one round of the loop of nat.divide. No program in sight. -/
import Derived.Test.YtmbgohaljiiigaaGreatDoorNum
namespace Go.Proofs.YtmbgohaljiiigaaGreatDoor
namespace Num

/-- The estimate is right, or too great by one. -/
theorem est_ok {P T W lowS lowV q vs V : Nat} (hvs : vs = lowS + P * T) (hV : V = lowV + P * W) (hlS : lowS < P) (hlV : lowV < P) (hW : 4294967296 ≤ W) (hlt : vs < 4294967296 * V)
    (hq : q ≤ 4294967295) (hle : q * W ≤ T) (hlast : q = 4294967295 ∨ T < (q + 1) * W) : vs / V ≤ q ∧ q ≤ vs / V + 1 := by
  have hP : 0 < P := by omega
  have hV0 : 0 < V := by
    have : P * 1 ≤ P * W := Nat.mul_le_mul_left _ (by omega)
    omega
  constructor
  · rcases hlast with h | h
    · subst h
      have : vs / V < 4294967296 := by rw [Nat.div_lt_iff_lt_mul hV0]; exact hlt
      omega
    · have h1 : vs / V < q + 1 := by
        rw [Nat.div_lt_iff_lt_mul hV0]
        have h2 : P * (T + 1) ≤ P * ((q + 1) * W) := Nat.mul_le_mul_left _ h
        have h3 : P * ((q + 1) * W) = (q + 1) * (P * W) := by rw [← Nat.mul_assoc, Nat.mul_comm P, Nat.mul_assoc]
        have h4 : (q + 1) * (P * W) ≤ (q + 1) * V := Nat.mul_le_mul_left _ (by omega)
        rw [Nat.mul_add] at h2
        omega
      omega
  · rcases Nat.eq_zero_or_pos q with h0 | h0
    · rw [h0]; exact Nat.zero_le _
    · obtain ⟨p, rfl⟩ : ∃ p, q = p + 1 := ⟨q - 1, by omega⟩
      have h1 : p ≤ vs / V := by
        rw [Nat.le_div_iff_mul_le hV0]
        have h2 : p * V ≤ p * (P * (W + 1)) := Nat.mul_le_mul_left _ (by rw [Nat.mul_add]; omega)
        have h3 : p * (P * (W + 1)) = P * (p * W + p) := by rw [← Nat.mul_assoc, Nat.mul_comm p, Nat.mul_assoc, Nat.mul_add, Nat.mul_one]
        have h4 : P * (p * W + p) ≤ P * T := Nat.mul_le_mul_left _ (by rw [Nat.add_mul] at hle; omega)
        omega
      omega

/-- The two or three digits at the top. -/
theorem vl_top2 {l : List Nat} {m : Nat} (hl : l.length = m + 2) : vl 4294967296 l = vl 4294967296 (l.take m) + 4294967296 ^ m * (l.getD (m + 1) 0 * 4294967296 + l.getD m 0) := by
  have h0 : l.drop (m + 2) = [] := List.drop_of_length_le (by omega)
  rw [vl_take_drop _ l m (by omega), vl_drop _ l m (by omega), vl_drop _ l (m + 1) (by omega), h0, vl_nil]
  congr 2
  omega

theorem vl_top3 {l : List Nat} {m : Nat} (hl : l.length = m + 3) : vl 4294967296 l = vl 4294967296 (l.take m) + 4294967296 ^ m * ((l.getD (m + 2) 0 * 4294967296 + l.getD (m + 1) 0) * 4294967296 + l.getD m 0) := by
  have h0 : l.drop (m + 3) = [] := List.drop_of_length_le (by omega)
  rw [vl_take_drop _ l m (by omega), vl_drop _ l m (by omega), vl_drop _ l (m + 1) (by omega), vl_drop _ l (m + 2) (by omega), h0, vl_nil]
  congr 2
  omega

/-- What stands between two rounds of the division: all that lies above the place k is below the divisor. -/
structure Knuth (U : Nat) (lv o qs : List Nat) (k : Nat) : Prop where
  value : U = vl 4294967296 lv * (4294967296 ^ k * vl 4294967296 (qs.drop k)) + vl 4294967296 o
  less : vl 4294967296 (o.drop k) < vl 4294967296 lv

theorem getD_seg (l : List Nat) (j n i : Nat) (hi : i < n) : (seg l j n).getD i 0 = l.getD (j + i) 0 := by
  unfold seg
  rw [← getD_drop]
  simp [hi]

theorem zero_above {o lv : List Nat} {k : Nat} (h : vl 4294967296 (o.drop k) < vl 4294967296 lv) (dv : Dig 4294967296 lv) :
    ∀ t, k + lv.length ≤ t → o.getD t 0 = 0 := by
  intro t ht
  rcases Nat.lt_or_ge t o.length with hlt | hge
  · rw [show t = k + (t - k) by omega, ← getD_drop]
    have h1 := vl_lt dv
    have hl : t - k < (o.drop k).length := by simp; omega
    rw [vl_take_drop _ (o.drop k) (t - k) (by omega), vl_drop _ (o.drop k) (t - k) hl] at h
    rcases Nat.eq_zero_or_pos ((o.drop k).getD (t - k) 0) with h0 | h0
    · exact h0
    · exfalso
      have h2 : 4294967296 ^ (t - k) * 1 ≤ 4294967296 ^ (t - k) * ((o.drop k).getD (t - k) 0 + 4294967296 * vl 4294967296 ((o.drop k).drop (t - k + 1))) := Nat.mul_le_mul_left _ (by omega)
      have h3 : (4294967296 : Nat) ^ lv.length ≤ 4294967296 ^ (t - k) := Nat.pow_le_pow_right (by omega) (by omega)
      omega
  · rw [List.getD_eq_getElem?_getD, List.getElem?_eq_none hge]; rfl

theorem drop_seg {o : List Nat} {j n : Nat} (hlen : j + n ≤ o.length) (hz : ∀ t, j + n ≤ t → o.getD t 0 = 0) : vl 4294967296 (o.drop j) = vl 4294967296 (seg o j n) := by
  have _ := hlen
  unfold seg
  exact (vl_take_of_zero _ _ _ fun i h1 h2 => by rw [getD_drop]; exact hz _ (by omega)).symm

/-- The first digit of what is divided is not greater than the first one of the divisor. -/
theorem top_le {o lv : List Nat} {j m : Nat} (hk : vl 4294967296 (o.drop (j + 1)) < vl 4294967296 lv) (hl : lv.length = m + 2) (dv : Dig 4294967296 lv) (_hlen : j + lv.length + 1 ≤ o.length) :
    o.getD (j + (m + 2)) 0 ≤ lv.getD (m + 1) 0 := by
  have h1 : 4294967296 ^ (m + 1) * o.getD (j + (m + 2)) 0 ≤ vl 4294967296 (o.drop (j + 1)) := by
    have hlt : m + 1 < (o.drop (j + 1)).length := by simp; omega
    rw [vl_take_drop _ (o.drop (j + 1)) (m + 1) (by omega), vl_drop _ _ _ hlt, getD_drop, show j + 1 + (m + 1) = j + (m + 2) by omega, Nat.mul_add]
    omega
  have h2 : vl 4294967296 lv < 4294967296 ^ (m + 1) * (lv.getD (m + 1) 0 + 1) := by
    have h0 : lv.drop (m + 2) = [] := List.drop_of_length_le (by omega)
    have h3 := vl_lt (dv.take (m + 1))
    rw [List.length_take, Nat.min_eq_left (by omega)] at h3
    rw [vl_take_drop _ lv (m + 1) (by omega), vl_drop _ lv (m + 1) (by omega), h0, vl_nil]
    simp only [Nat.mul_add, Nat.mul_one, Nat.mul_zero, Nat.add_zero]
    omega
  have h3 : 4294967296 ^ (m + 1) * o.getD (j + (m + 2)) 0 < 4294967296 ^ (m + 1) * (lv.getD (m + 1) 0 + 1) := by omega
  have := Nat.lt_of_mul_lt_mul_left h3
  omega

/-- The quotient's digit at j, and the estimate of it. -/
theorem digit_est {o lv : List Nat} {j m q : Nat} (hk : vl 4294967296 (o.drop (j + 1)) < vl 4294967296 lv) (hl : lv.length = m + 2) (hd : Dig 4294967296 o) (dv : Dig 4294967296 lv) (hlen : j + lv.length + 1 ≤ o.length)
    (hv0 : 2147483648 ≤ lv.getD (m + 1) 0) (hq : q ≤ 4294967295) (hle : q * (lv.getD (m + 1) 0 * 4294967296 + lv.getD m 0) ≤ (o.getD (j + (m + 2)) 0 * 4294967296 + o.getD (j + (m + 1)) 0) * 4294967296 + o.getD (j + m) 0)
    (hlast : q = 4294967295 ∨ (o.getD (j + (m + 2)) 0 * 4294967296 + o.getD (j + (m + 1)) 0) * 4294967296 + o.getD (j + m) 0 < (q + 1) * (lv.getD (m + 1) 0 * 4294967296 + lv.getD m 0)) :
    vl 4294967296 (seg o j (m + 3)) < 4294967296 * vl 4294967296 lv ∧ vl 4294967296 (seg o j (m + 3)) / vl 4294967296 lv ≤ q ∧ q ≤ vl 4294967296 (seg o j (m + 3)) / vl 4294967296 lv + 1 := by
  have hz := zero_above hk dv
  have hs : vl 4294967296 (o.drop j) = vl 4294967296 (seg o j (m + 3)) := drop_seg (by omega) fun t ht => hz t (by omega)
  have hlt : vl 4294967296 (seg o j (m + 3)) < 4294967296 * vl 4294967296 lv := by
    rw [← hs, vl_drop _ o j (by omega)]
    have h1 := hd.get (by decide) j
    have h2 : 4294967296 * (vl 4294967296 (o.drop (j + 1)) + 1) ≤ 4294967296 * vl 4294967296 lv := Nat.mul_le_mul_left _ hk
    omega
  refine ⟨hlt, ?_⟩
  have hsl : (seg o j (m + 3)).length = m + 3 := seg_length _ _ _ (by omega)
  have e1 := vl_top3 hsl
  rw [getD_seg _ _ _ _ (by omega), getD_seg _ _ _ _ (by omega), getD_seg _ _ _ _ (by omega)] at e1
  have e2 := vl_top2 hl
  have h1 := vl_lt ((hd.seg j (m + 3)).take m)
  rw [List.length_take, Nat.min_eq_left (by omega)] at h1
  have h2 := vl_lt (dv.take m)
  rw [List.length_take, Nat.min_eq_left (by omega)] at h2
  exact est_ok e1 e2 h1 h2 (by omega) hlt hq hle hlast

/-- What the round leaves. -/
theorem Knuth.next {U : Nat} {lv o o' qs : List Nat} {j m : Nat} (h : Knuth U lv o qs (j + 1)) (hl : lv.length = m + 2) (dv : Dig 4294967296 lv) (hlen : j + lv.length + 1 ≤ o.length) (hlen' : o'.length = o.length) (hj : j < qs.length)
    (hsame : ∀ i, i < j ∨ j + lv.length < i → o'.getD i 0 = o.getD i 0)
    (hseg : vl 4294967296 (seg o' j (m + 3)) + vl 4294967296 (seg o j (m + 3)) / vl 4294967296 lv * vl 4294967296 lv = vl 4294967296 (seg o j (m + 3))) :
    Knuth U lv o' (qs.set j (vl 4294967296 (seg o j (m + 3)) / vl 4294967296 lv)) j := by
  have hz := zero_above h.less dv
  have hV0 : 0 < vl 4294967296 lv := by have := h.less; omega
  have hs : vl 4294967296 (o.drop j) = vl 4294967296 (seg o j (m + 3)) := drop_seg (by omega) fun t ht => hz t (by omega)
  have hs' : vl 4294967296 (o'.drop j) = vl 4294967296 (seg o' j (m + 3)) := drop_seg (by omega) fun t ht => by rw [hsame t (by omega)]; exact hz t (by omega)
  have hm := Nat.div_add_mod (vl 4294967296 (seg o j (m + 3))) (vl 4294967296 lv)
  have hmlt := Nat.mod_lt (vl 4294967296 (seg o j (m + 3))) hV0
  rw [Nat.mul_comm] at hm
  have htake : vl 4294967296 (o'.take j) = vl 4294967296 (o.take j) := by
    have : o'.take j = o.take j := by
      have := seg_congr (l := o') (m := o) hlen' 0 j fun i hi => by rw [Nat.zero_add]; exact hsame i (Or.inl hi)
      simpa [seg] using this
    rw [this]
  constructor
  · have hv := h.value
    rw [vl_take_drop _ o j (by omega), hs] at hv
    rw [vl_take_drop _ o' j (by omega), hs', htake, drop_set_self _ _ _ hj, vl_cons, hv, Nat.pow_succ]
    generalize vl 4294967296 (seg o j (m + 3)) / vl 4294967296 lv = q at *
    generalize vl 4294967296 (seg o j (m + 3)) = S at *
    generalize vl 4294967296 (seg o' j (m + 3)) = S' at *
    generalize vl 4294967296 (qs.drop (j + 1)) = Q at *
    generalize vl 4294967296 lv = V at *
    generalize vl 4294967296 (o.take j) = L at *
    generalize 4294967296 ^ j = B at *
    subst hseg
    clear hm hmlt hs hs' htake hz hv
    grind
  · rw [hs']
    generalize vl 4294967296 (seg o j (m + 3)) / vl 4294967296 lv = q at *
    omega

/-- The divisor, shifted until its first bit is set. -/
theorem normal {lb lv : List Nat} {m s e : Nat} (hl : lb.length = m + 2) (db : Dig 4294967296 lb) (hs : s + e = 32) (h1 : 1 ≤ e) (hlo : 2 ^ (e - 1) ≤ lb.getD (m + 1) 0) (hhi : lb.getD (m + 1) 0 < 2 ^ e)
    (dv : Dig 4294967296 lv) (tv : Tr lv) (hv : vl 4294967296 lv = vl 4294967296 lb * 2 ^ s) : lv.length = m + 2 ∧ 2147483648 ≤ lv.getD (m + 1) 0 ∧ vl 4294967296 lb < 4294967296 ^ (m + 1) * 2 ^ e := by
  have h0 : lb.drop (m + 2) = [] := List.drop_of_length_le (by omega)
  have hb : vl 4294967296 lb = vl 4294967296 (lb.take (m + 1)) + 4294967296 ^ (m + 1) * lb.getD (m + 1) 0 := by
    rw [vl_take_drop _ lb (m + 1) (by omega), vl_drop _ lb (m + 1) (by omega), h0, vl_nil]
    simp only [Nat.mul_zero, Nat.add_zero]
  have h2 := vl_lt (db.take (m + 1))
  rw [List.length_take, Nat.min_eq_left (by omega)] at h2
  generalize lb.getD (m + 1) 0 = d at *
  have e32 : (2 : Nat) ^ e * 2 ^ s = 4294967296 := by rw [← Nat.pow_add, show e + s = 32 by omega]
  have e31 : (2 : Nat) ^ (e - 1) * 2 ^ s = 2147483648 := by rw [← Nat.pow_add, show e - 1 + s = 31 by omega]
  have hup : vl 4294967296 lb < 4294967296 ^ (m + 1) * 2 ^ e := by
    have : 4294967296 ^ (m + 1) * (d + 1) ≤ 4294967296 ^ (m + 1) * 2 ^ e := Nat.mul_le_mul_left _ hhi
    rw [Nat.mul_add] at this
    omega
  have hV1 : vl 4294967296 lv < 4294967296 ^ (m + 2) := by
    have h3 : vl 4294967296 lb * 2 ^ s < 4294967296 ^ (m + 1) * 2 ^ e * 2 ^ s := Nat.mul_lt_mul_of_pos_right hup (Nat.pow_pos (by omega))
    rw [Nat.mul_assoc (4294967296 ^ (m + 1)), e32, ← Nat.pow_succ] at h3
    rw [hv]
    exact h3
  have hV2 : 4294967296 ^ (m + 1) * 2147483648 ≤ vl 4294967296 lv := by
    rw [hv, ← e31, ← Nat.mul_assoc]
    refine Nat.mul_le_mul_right _ ?_
    have : 4294967296 ^ (m + 1) * 2 ^ (e - 1) ≤ 4294967296 ^ (m + 1) * d := Nat.mul_le_mul_left _ hlo
    omega
  have hlen : lv.length = m + 2 := by
    have ha := vl_lt dv
    rcases Nat.lt_trichotomy lv.length (m + 2) with h | h | h
    · exfalso
      have : (4294967296 : Nat) ^ lv.length ≤ 4294967296 ^ (m + 1) := Nat.pow_le_pow_right (by omega) (by omega)
      omega
    · exact h
    · exfalso
      have h3 := tv.ge (b := 4294967296) (by omega)
      have : (4294967296 : Nat) ^ (m + 2) ≤ 4294967296 ^ (lv.length - 1) := Nat.pow_le_pow_right (by omega) (by omega)
      omega
  refine ⟨hlen, ?_, hup⟩
  have h0' : lv.drop (m + 2) = [] := List.drop_of_length_le (by omega)
  have h4 := vl_lt (dv.take (m + 1))
  rw [List.length_take, Nat.min_eq_left (by omega)] at h4
  rw [vl_take_drop _ lv (m + 1) (by omega), vl_drop _ lv (m + 1) (by omega), h0', vl_nil] at hV2
  simp only [Nat.mul_zero, Nat.add_zero] at hV2
  have h5 : 4294967296 ^ (m + 1) * 2147483648 < 4294967296 ^ (m + 1) * (lv.getD (m + 1) 0 + 1) := by rw [Nat.mul_add (4294967296 ^ (m + 1)) (lv.getD (m + 1) 0)]; omega
  have := Nat.lt_of_mul_lt_mul_left h5
  omega

/-- How the loop begins. -/
theorem Knuth.start {la lb lv o : List Nat} {m s M : Nat} (hlb : vl 4294967296 lv = vl 4294967296 lb * 2 ^ s) (hM : M + (m + 2) = la.length + 1) (da : Dig 4294967296 la)
    (hlo : 4294967296 ^ (m + 1) ≤ vl 4294967296 lb)
    (ho : o.length = la.length + 1) (hv : vl 4294967296 o = vl 4294967296 la * 2 ^ s) : Knuth (vl 4294967296 la * 2 ^ s) lv o (List.replicate M 0) M := by
  constructor
  · rw [List.drop_of_length_le (by simp), vl_nil, Nat.mul_zero, Nat.mul_zero, Nat.zero_add, hv]
  · have h1 := vl_take_drop 4294967296 o M (by omega)
    have h2 := vl_lt da
    have hs0 : 0 < (2 : Nat) ^ s := Nat.pow_pos (by omega)
    have h3 : vl 4294967296 la * 2 ^ s < 4294967296 ^ la.length * 2 ^ s := Nat.mul_lt_mul_of_pos_right h2 hs0
    have h4 : (4294967296 : Nat) ^ la.length = 4294967296 ^ M * 4294967296 ^ (m + 1) := by rw [← Nat.pow_add, show M + (m + 1) = la.length by omega]
    have h5 : 4294967296 ^ M * vl 4294967296 (o.drop M) < 4294967296 ^ M * (4294967296 ^ (m + 1) * 2 ^ s) := by rw [← Nat.mul_assoc, ← h4]; omega
    have h6 := Nat.lt_of_mul_lt_mul_left h5
    have h7 : 4294967296 ^ (m + 1) * 2 ^ s ≤ vl 4294967296 lb * 2 ^ s := Nat.mul_le_mul_right _ hlo
    omega

/-- How it ends. -/
theorem Knuth.fin {A D s : Nat} {lv o qs : List Nat} (h : Knuth (A * 2 ^ s) lv o qs 0) (hlb : vl 4294967296 lv = D * 2 ^ s) : vl 4294967296 qs = A / D ∧ vl 4294967296 o / 2 ^ s = A % D ∧ 0 < D := by
  have hv := h.value
  have hless := h.less
  simp only [List.drop_zero, Nat.pow_zero, Nat.one_mul] at hv hless
  rw [hlb] at hv hless
  have hs0 : 0 < (2 : Nat) ^ s := Nat.pow_pos (by omega)
  have hD : 0 < D := by
    rcases Nat.eq_zero_or_pos D with h0 | h0
    · subst h0; simp at hless
    · exact h0
  have hr : vl 4294967296 o = (vl 4294967296 o / 2 ^ s) * 2 ^ s := by
    have h1 : vl 4294967296 o % 2 ^ s = 0 := by
      have h2 : (D * 2 ^ s * vl 4294967296 qs + vl 4294967296 o) % 2 ^ s = 0 := by rw [← hv]; exact Nat.mul_mod_left _ _
      rw [Nat.mul_right_comm, Nat.mul_comm _ (2 ^ s), Nat.mul_add_mod] at h2
      exact h2
    have h3 := Nat.div_add_mod (vl 4294967296 o) (2 ^ s)
    rw [h1, Nat.mul_comm] at h3
    omega
  generalize vl 4294967296 o / 2 ^ s = r at *
  have hr2 : r < D := by
    rw [hr] at hless
    exact Nat.lt_of_mul_lt_mul_right hless
  have hA : A = D * vl 4294967296 qs + r := by
    rw [hr] at hv
    have : A * 2 ^ s = (D * vl 4294967296 qs + r) * 2 ^ s := by rw [Nat.add_mul, hv]; grind
    exact Nat.eq_of_mul_eq_mul_right hs0 this
  refine ⟨?_, ?_, hD⟩
  · rw [hA, Nat.mul_add_div hD, Nat.div_eq_of_lt hr2, Nat.add_zero]
  · rw [hA, Nat.mul_add_mod, Nat.mod_eq_of_lt hr2]

/-- The estimate was right. -/
theorem digit_fix0 {vs V q S1 : Nat} (hV : 0 < V) (h1 : vs / V ≤ q) (h : S1 + q * V = vs) : q = vs / V := by
  have h2 : q ≤ vs / V := by rw [Nat.le_div_iff_mul_le hV]; omega
  omega

/-- The estimate was too great. -/
theorem digit_fix1 {vs V q S1 S2 t2 P : Nat} (hV : 0 < V) (hq : q ≤ vs / V + 1) (hS1 : S1 < P) (h : S1 + q * V = vs + P) (hS2 : S2 < P) (hVP : V ≤ P) (hg : S2 + t2 * P = S1 + V) (ht2 : t2 ≤ 1) :
    1 ≤ q ∧ q - 1 = vs / V ∧ S2 + vs / V * V = vs := by
  have _ := hVP
  have h1 : vs / V < q := by rw [Nat.div_lt_iff_lt_mul hV]; omega
  have h2 : q = vs / V + 1 := by omega
  have h3 := Nat.div_add_mod vs V
  have h4 := Nat.mod_lt vs hV
  rw [Nat.mul_comm] at h3
  generalize vs / V = d at *
  subst h2
  rw [Nat.add_mul, Nat.one_mul] at h
  refine ⟨by omega, by omega, ?_⟩
  rcases (show t2 = 0 ∨ t2 = 1 by omega) with rfl | rfl
  · exfalso; omega
  · omega

#print axioms digit_fix1
#print axioms Knuth.next
#print axioms normal
#print axioms Knuth.start
#print axioms Knuth.fin
end Num
end Go.Proofs.YtmbgohaljiiigaaGreatDoor
