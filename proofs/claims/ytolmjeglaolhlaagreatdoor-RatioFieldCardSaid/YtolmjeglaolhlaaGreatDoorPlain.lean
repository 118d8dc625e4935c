/- Plain arithmetic: numbers by digits, quotients, Montgomery products, decimal texts, rational numbers, a prime number. No program in sight. -/
import GoSem.Op.String
import Derived.Lib.ItoaNum
import Derived.Lib.Atoi
import Derived.Lib.Repeat

/- Plain arithmetic of digits: values of lists of digits to a base (least significant first), values of byte strings (most significant first), their canonical forms. No program in sight. -/
namespace Go.Proofs.YtolmjeglaolhlaaGreatDoor
namespace Num

/-- The value of digits to the base b, the least significant one first. -/
def vl (b : Nat) : List Nat → Nat
  | [] => 0
  | x :: xs => x + b * vl b xs

@[simp] theorem vl_nil (b : Nat) : vl b [] = 0 := rfl
@[simp] theorem vl_cons (b x : Nat) (xs : List Nat) : vl b (x :: xs) = x + b * vl b xs := rfl

theorem vl_append (b : Nat) (xs ys : List Nat) : vl b (xs ++ ys) = vl b xs + b ^ xs.length * vl b ys := by
  induction xs with
  | nil => simp
  | cons x xs ih => simp [ih, Nat.mul_add, Nat.pow_succ, Nat.add_assoc, Nat.mul_comm, Nat.mul_assoc]

theorem vl_snoc (b : Nat) (xs : List Nat) (y : Nat) : vl b (xs ++ [y]) = vl b xs + b ^ xs.length * y := by
  simp [vl_append]

/-- All digits are below the base. -/
def Dig (b : Nat) (xs : List Nat) : Prop := ∀ x ∈ xs, x < b

theorem Dig.nil (b : Nat) : Dig b [] := by intro x hx; cases hx
theorem Dig.cons {b x : Nat} {xs : List Nat} (h : x < b) (hs : Dig b xs) : Dig b (x :: xs) := by
  intro y hy; cases hy with
  | head => exact h
  | tail _ hy => exact hs y hy
theorem Dig.head {b x : Nat} {xs : List Nat} (h : Dig b (x :: xs)) : x < b := h x (by simp)
theorem Dig.tail {b x : Nat} {xs : List Nat} (h : Dig b (x :: xs)) : Dig b xs := fun y hy => h y (by simp [hy])
theorem Dig.append {b : Nat} {xs ys : List Nat} (h : Dig b xs) (hs : Dig b ys) : Dig b (xs ++ ys) := by
  intro x hx; rcases List.mem_append.1 hx with h1 | h1
  · exact h x h1
  · exact hs x h1
theorem Dig.left {b : Nat} {xs ys : List Nat} (h : Dig b (xs ++ ys)) : Dig b xs := fun x hx => h x (by simp [hx])
theorem Dig.right {b : Nat} {xs ys : List Nat} (h : Dig b (xs ++ ys)) : Dig b ys := fun x hx => h x (by simp [hx])
theorem Dig.take {b : Nat} {xs : List Nat} (h : Dig b xs) (k : Nat) : Dig b (xs.take k) := fun x hx => h x (List.mem_of_mem_take hx)
theorem Dig.drop {b : Nat} {xs : List Nat} (h : Dig b xs) (k : Nat) : Dig b (xs.drop k) := fun x hx => h x (List.mem_of_mem_drop hx)
theorem Dig.get {b : Nat} {xs : List Nat} (h : Dig b xs) (hb : 0 < b) (k : Nat) : xs.getD k 0 < b := by
  rw [List.getD_eq_getElem?_getD]
  by_cases hk : k < xs.length
  · rw [List.getElem?_eq_getElem hk]; exact h _ (List.getElem_mem hk)
  · rw [List.getElem?_eq_none (by omega)]; exact hb
theorem Dig.replicate {b : Nat} (hb : 0 < b) (n : Nat) : Dig b (List.replicate n 0) := by
  intro x hx; rw [List.mem_replicate] at hx; omega

theorem vl_lt {b : Nat} {xs : List Nat} (h : Dig b xs) : vl b xs < b ^ xs.length := by
  induction xs with
  | nil => simp
  | cons x xs ih =>
    have h1 := h.head
    have h2 := ih h.tail
    have h3 : b * (vl b xs + 1) ≤ b * b ^ xs.length := Nat.mul_le_mul_left _ h2
    rw [Nat.mul_add] at h3
    simp only [vl_cons, List.length_cons, Nat.pow_succ]
    rw [Nat.mul_comm (b ^ xs.length) b]
    omega

theorem vl_zeros (b n : Nat) : vl b (List.replicate n 0) = 0 := by
  induction n with
  | zero => rfl
  | succ n ih => simp [List.replicate_succ, ih]

theorem vl_append_zeros (b : Nat) (xs : List Nat) (n : Nat) : vl b (xs ++ List.replicate n 0) = vl b xs := by
  rw [vl_append, vl_zeros]; simp

/-- Digits of one length with one value are the same. -/
theorem vl_inj {b : Nat} : ∀ {xs ys : List Nat}, Dig b xs → Dig b ys → xs.length = ys.length → vl b xs = vl b ys → xs = ys
  | [], [], _, _, _, _ => rfl
  | [], _ :: _, _, _, h, _ => by simp at h
  | _ :: _, [], _, _, h, _ => by simp at h
  | x :: xs, y :: ys, hx, hy, hl, hv => by
    have h1 := hx.head
    have h2 := hy.head
    simp only [vl_cons] at hv
    have e1 : (x + b * vl b xs) % b = x := by rw [Nat.add_mul_mod_self_left, Nat.mod_eq_of_lt h1]
    have e2 : (y + b * vl b ys) % b = y := by rw [Nat.add_mul_mod_self_left, Nat.mod_eq_of_lt h2]
    have e : x = y := by rw [← e1, hv, e2]
    subst e
    have e3 : b * vl b xs = b * vl b ys := by omega
    have e4 : vl b xs = vl b ys := Nat.eq_of_mul_eq_mul_left (by omega) e3
    rw [vl_inj hx.tail hy.tail (by simpa using hl) e4]

/-- No zero at the end (the most significant place). -/
def Tr (xs : List Nat) : Prop := xs.getLast? ≠ some 0

theorem Tr.nil : Tr [] := by simp [Tr]
theorem Tr.snoc {xs : List Nat} {y : Nat} (h : y ≠ 0) : Tr (xs ++ [y]) := by simp [Tr, h]
theorem Tr.last {xs : List Nat} (h : Tr xs) (hl : 0 < xs.length) : xs.getD (xs.length - 1) 0 ≠ 0 := by
  intro e
  apply h
  rw [List.getLast?_eq_getElem?]
  rw [List.getD_eq_getElem?_getD, List.getElem?_eq_getElem (by omega)] at e
  rw [List.getElem?_eq_getElem (by omega)]
  simpa using e
theorem Tr.of_last {xs : List Nat} (h : xs.getD (xs.length - 1) 0 ≠ 0) : Tr xs := by
  intro e
  apply h
  rw [List.getLast?_eq_getElem?] at e
  rw [List.getD_eq_getElem?_getD, e]; rfl

theorem split_last {xs : List Nat} (hl : 0 < xs.length) : xs = xs.take (xs.length - 1) ++ [xs.getD (xs.length - 1) 0] := by
  have h1 : xs.getD (xs.length - 1) 0 = xs[xs.length - 1]'(by omega) := by
    rw [List.getD_eq_getElem?_getD, List.getElem?_eq_getElem (by omega)]; rfl
  rw [h1, ← List.take_succ_eq_append_getElem (by omega)]
  rw [List.take_of_length_le (by omega)]

theorem Tr.ge {b : Nat} {xs : List Nat} (h : Tr xs) (hl : 0 < xs.length) : b ^ (xs.length - 1) ≤ vl b xs := by
  have h0 := h.last hl
  rw [split_last hl, vl_snoc]
  have h2 : (xs.take (xs.length - 1)).length = xs.length - 1 := by simp
  rw [h2]
  have h3 : b ^ (xs.length - 1) * 1 ≤ b ^ (xs.length - 1) * xs.getD (xs.length - 1) 0 := Nat.mul_le_mul_left _ (by omega)
  have h4 : (xs.take (xs.length - 1) ++ [xs.getD (xs.length - 1) 0]).length - 1 = xs.length - 1 := by simp
  rw [h4]
  omega

theorem Tr.pos {b : Nat} {xs : List Nat} (h : Tr xs) (hb : 0 < b) (hl : 0 < xs.length) : 0 < vl b xs :=
  Nat.lt_of_lt_of_le (Nat.pow_pos hb) (h.ge hl)

theorem Tr.eq_nil {b : Nat} {xs : List Nat} (h : Tr xs) (hb : 0 < b) (hv : vl b xs = 0) : xs = [] := by
  rcases Nat.eq_zero_or_pos xs.length with h1 | h1
  · exact List.length_eq_zero_iff.1 h1
  · have := h.pos hb h1; omega

/-- Fewer digits, less. -/
theorem vl_lt_of_length {b : Nat} {xs ys : List Nat} (hb : 0 < b) (hx : Dig b xs) (hy : Tr ys) (hl : xs.length < ys.length) : vl b xs < vl b ys :=
  Nat.lt_of_lt_of_le (vl_lt hx) (Nat.le_trans (Nat.pow_le_pow_right hb (by omega)) (hy.ge (by omega)))

/-- Digits without zeros at the end are known by their value. -/
theorem tr_inj {b : Nat} (hb : 0 < b) {xs ys : List Nat} (hx : Dig b xs) (hy : Dig b ys) (tx : Tr xs) (ty : Tr ys) (hv : vl b xs = vl b ys) : xs = ys := by
  rcases Nat.lt_trichotomy xs.length ys.length with h | h | h
  · have := vl_lt_of_length hb hx ty h; omega
  · exact vl_inj hx hy h hv
  · have := vl_lt_of_length hb hy tx h; omega

/-- The value of the first k + 1 digits. -/
theorem vl_take_succ (b : Nat) (xs : List Nat) (k : Nat) (hk : k < xs.length) : vl b (xs.take (k + 1)) = vl b (xs.take k) + b ^ k * xs.getD k 0 := by
  have h1 : xs.getD k 0 = xs[k] := by rw [List.getD_eq_getElem?_getD, List.getElem?_eq_getElem hk]; rfl
  rw [List.take_succ_eq_append_getElem hk, vl_snoc, h1]
  simp [Nat.min_eq_left (Nat.le_of_lt hk)]

theorem vl_take_succ' (b : Nat) (xs : List Nat) (k : Nat) : vl b (xs.take (k + 1)) = vl b (xs.take k) + b ^ k * xs.getD k 0 := by
  rcases Nat.lt_or_ge k xs.length with hk | hk
  · exact vl_take_succ b xs k hk
  · rw [List.take_of_length_le (by omega), List.take_of_length_le hk, List.getD_eq_getElem?_getD, List.getElem?_eq_none hk]; simp

theorem take_set_self (l : List Nat) (k x : Nat) (h : k < l.length) : (l.set k x).take (k + 1) = l.take k ++ [x] := by
  rw [List.take_succ_eq_append_getElem (by simpa using h), List.take_set_of_le (Nat.le_refl _)]
  simp

theorem Dig.set {b : Nat} {l : List Nat} (h : Dig b l) (k x : Nat) (hx : x < b) : Dig b (l.set k x) := by
  intro y hy
  rcases List.mem_or_eq_of_mem_set hy with h1 | h1
  · exact h y h1
  · omega

theorem ldigit_set_ne (l : List Nat) (i j x : Nat) (h : i ≠ j) : (l.set i x).getD j 0 = l.getD j 0 := by
  simp [h]

/-- One more digit is written behind the first k. -/
theorem vl_take_set (b : Nat) (l : List Nat) (k x : Nat) (h : k < l.length) : vl b ((l.set k x).take (k + 1)) = vl b (l.take k) + b ^ k * x := by
  rw [take_set_self l k x h, vl_snoc, List.length_take, Nat.min_eq_left (by omega)]

/-- The value of the digits from k on. -/
theorem vl_drop (b : Nat) (xs : List Nat) (k : Nat) (hk : k < xs.length) : vl b (xs.drop k) = xs.getD k 0 + b * vl b (xs.drop (k + 1)) := by
  have h1 : xs.getD k 0 = xs[k] := by rw [List.getD_eq_getElem?_getD, List.getElem?_eq_getElem hk]; rfl
  rw [List.drop_eq_getElem_cons hk, vl_cons, h1]

theorem vl_take_drop (b : Nat) (xs : List Nat) (k : Nat) (hk : k ≤ xs.length) : vl b xs = vl b (xs.take k) + b ^ k * vl b (xs.drop k) := by
  have := vl_append b (xs.take k) (xs.drop k)
  rw [List.take_append_drop] at this
  rw [this, List.length_take, Nat.min_eq_left hk]

/-- Digits that are cut at a place behind which there are zeros alone. -/
theorem vl_take_of_zero (b : Nat) (xs : List Nat) (k : Nat) (h : ∀ j, k ≤ j → j < xs.length → xs.getD j 0 = 0) : vl b (xs.take k) = vl b xs := by
  rcases Nat.lt_or_ge k xs.length with hk | hk
  · rw [vl_take_drop b xs k (by omega)]
    have hz : xs.drop k = List.replicate (xs.length - k) 0 := by
      apply List.ext_getElem (by simp)
      intro i h1 h2
      have := h (k + i) (by omega) (by simp at h1; omega)
      rw [List.getD_eq_getElem?_getD, List.getElem?_eq_getElem (by simp at h1; omega)] at this
      simpa using this
    rw [hz, vl_zeros]; simp
  · rw [List.take_of_length_le hk]

theorem vl_set (b : Nat) (xs : List Nat) (k y : Nat) (hk : k < xs.length) : vl b (xs.set k y) + b ^ k * xs.getD k 0 = vl b xs + b ^ k * y := by
  induction xs generalizing k with
  | nil => simp at hk
  | cons x xs ih =>
    cases k with
    | zero => simp; omega
    | succ k =>
      have := ih k (by simpa using hk)
      simp only [List.set_cons_succ, vl_cons, List.getD_cons_succ, Nat.pow_succ]
      have e1 : b ^ k * b * xs.getD k 0 = b * (b ^ k * xs.getD k 0) := by rw [Nat.mul_comm (b ^ k) b, Nat.mul_assoc]
      have e2 : b ^ k * b * y = b * (b ^ k * y) := by rw [Nat.mul_comm (b ^ k) b, Nat.mul_assoc]
      rw [e1, e2]
      have e3 : b * vl b (xs.set k y) + b * (b ^ k * xs.getD k 0) = b * vl b xs + b * (b ^ k * y) := by rw [← Nat.mul_add, this, Nat.mul_add]
      omega

/-- The canonical digits of n, at most f of them. -/
def digF (b : Nat) : Nat → Nat → List Nat
  | 0, _ => []
  | f + 1, n => if n = 0 then [] else n % b :: digF b f (n / b)

/-- The canonical digits of n. -/
def dig (b n : Nat) : List Nat := digF b (n.log2 + 1) n

theorem digF_dig {b : Nat} (hb : 0 < b) : ∀ f n, Dig b (digF b f n)
  | 0, _ => Dig.nil b
  | f + 1, n => by
    unfold digF
    split
    · exact Dig.nil b
    · exact Dig.cons (Nat.mod_lt _ hb) (digF_dig hb f _)

theorem digF_vl {b : Nat} (hb : 1 < b) : ∀ f n, n < 2 ^ f → vl b (digF b f n) = n
  | 0, n, h => by simp at h; simp [digF, h]
  | f + 1, n, h => by
    unfold digF
    split
    · simp; omega
    · have h1 : n / b < 2 ^ f := by
        have : n / b ≤ n / 2 := Nat.div_le_div_left (by omega) (by omega)
        rw [Nat.pow_succ] at h; omega
      rw [vl_cons, digF_vl hb f _ h1]
      exact Nat.mod_add_div n b

theorem digF_tr {b : Nat} (hb : 1 < b) : ∀ f n, n < 2 ^ f → Tr (digF b f n)
  | 0, _, _ => by simp [digF, Tr]
  | f + 1, n, h => by
    unfold digF
    split
    · exact Tr.nil
    · rename_i hn
      have h1 : n / b < 2 ^ f := by
        have : n / b ≤ n / 2 := Nat.div_le_div_left (by omega) (by omega)
        rw [Nat.pow_succ] at h; omega
      have ih := digF_tr hb f _ h1
      have iv := digF_vl hb f _ h1
      cases hd : digF b f (n / b) with
      | nil =>
        rw [hd] at iv
        simp at iv
        have h2 : n % b = n := by have := Nat.mod_add_div n b; rw [← iv] at this; omega
        simp [Tr, h2, hn]
      | cons y ys =>
        rw [hd] at ih
        simpa [Tr, List.getLast?_cons] using ih

theorem lt_log2 (n : Nat) : n < 2 ^ (n.log2 + 1) := by
  rcases Nat.eq_zero_or_pos n with h | h
  · subst h; simp
  · exact Nat.lt_log2_self

theorem dig_dig {b : Nat} (hb : 0 < b) (n : Nat) : Dig b (dig b n) := digF_dig hb _ _
theorem dig_vl {b : Nat} (hb : 1 < b) (n : Nat) : vl b (dig b n) = n := digF_vl hb _ _ (lt_log2 n)
theorem dig_tr {b : Nat} (hb : 1 < b) (n : Nat) : Tr (dig b n) := digF_tr hb _ _ (lt_log2 n)
theorem dig_of {b : Nat} (hb : 1 < b) {xs : List Nat} (hx : Dig b xs) (tx : Tr xs) : dig b (vl b xs) = xs :=
  tr_inj (by omega) (dig_dig (by omega) _) hx (dig_tr hb _) tx (dig_vl hb _)

/-- The value of bytes, the most significant one first. -/
def val (s : List UInt8) : Nat := vl 256 (s.reverse.map UInt8.toNat)

theorem bytes_dig (s : List UInt8) : Dig 256 (s.map UInt8.toNat) := by
  intro x hx
  obtain ⟨c, _, rfl⟩ := List.mem_map.1 hx
  exact UInt8.toNat_lt c

@[simp] theorem val_nil : val [] = 0 := rfl
theorem val_append (s t : List UInt8) : val (s ++ t) = val s * 256 ^ t.length + val t := by
  unfold val
  rw [List.reverse_append, List.map_append, vl_append]
  simp [Nat.mul_comm, Nat.add_comm]
theorem val_snoc (s : List UInt8) (c : UInt8) : val (s ++ [c]) = val s * 256 + c.toNat := by
  rw [val_append]; simp [val]
theorem val_cons (c : UInt8) (s : List UInt8) : val (c :: s) = c.toNat * 256 ^ s.length + val s := by
  have := val_append [c] s
  simpa [val] using this
theorem val_lt (s : List UInt8) : val s < 256 ^ s.length := by
  have := vl_lt (b := 256) (xs := s.reverse.map UInt8.toNat) (bytes_dig _)
  simpa [val] using this
theorem val_zero_cons (s : List UInt8) : val (0 :: s) = val s := by rw [val_cons]; simp

/-- A number's canonical bytes: no zero in front. -/
def enc (n : Nat) : List UInt8 := ((dig 256 n).map UInt8.ofNat).reverse

/-- Bytes without zeros in front. -/
def canon : List UInt8 → List UInt8
  | [] => []
  | c :: s => if c = 0 then canon s else c :: s

theorem toNat_ofNat_map {xs : List Nat} (h : Dig 256 xs) : (xs.map UInt8.ofNat).map UInt8.toNat = xs := by
  rw [List.map_map]
  conv => rhs; rw [← List.map_id xs]
  apply List.map_congr_left
  intro x hx
  have := h x hx
  simp [Nat.mod_eq_of_lt this]

theorem val_enc (n : Nat) : val (enc n) = n := by
  unfold val enc
  rw [List.reverse_reverse, toNat_ofNat_map (dig_dig (by omega) n), dig_vl (by omega)]

theorem val_canon : ∀ s : List UInt8, val (canon s) = val s
  | [] => rfl
  | c :: s => by
    unfold canon
    split
    · rename_i h; subst h; rw [val_zero_cons, val_canon s]
    · rfl

/-- Right: no zero in front. -/
def Rt (s : List UInt8) : Prop := s.head? ≠ some 0

theorem canon_rt : ∀ s : List UInt8, Rt (canon s)
  | [] => by simp [Rt, canon]
  | c :: s => by
    unfold canon
    split
    · exact canon_rt s
    · rename_i h; simpa [Rt] using h

theorem canon_of_rt {s : List UInt8} (h : Rt s) : canon s = s := by
  cases s with
  | nil => rfl
  | cons c s =>
    unfold canon
    rw [if_neg]
    intro e; subst e; exact h rfl

theorem rt_tr {s : List UInt8} (h : Rt s) : Tr (s.reverse.map UInt8.toNat) := by
  cases s with
  | nil => simp [Tr]
  | cons c s =>
    simp only [List.reverse_cons, List.map_append, List.map_cons, List.map_nil]
    apply Tr.snoc
    intro e
    apply h
    have : c = 0 := by
      have := congrArg UInt8.ofNat e
      simpa using this
    simp [this]

theorem rt_inj {s t : List UInt8} (hs : Rt s) (ht : Rt t) (hv : val s = val t) : s = t := by
  have h := tr_inj (b := 256) (by omega) (bytes_dig s.reverse) (bytes_dig t.reverse) (rt_tr hs) (rt_tr ht) hv
  have h2 := congrArg (List.map UInt8.ofNat) h
  have hm : ∀ u : List UInt8, (u.map UInt8.toNat).map UInt8.ofNat = u := by
    intro u
    rw [List.map_map]
    conv => rhs; rw [← List.map_id u]
    apply List.map_congr_left
    intro x _
    simp
  rw [hm, hm] at h2
  exact List.reverse_inj.1 h2

theorem enc_rt (n : Nat) : Rt (enc n) := by
  have h := dig_tr (b := 256) (by omega) n
  have hd := dig_dig (b := 256) (by omega) n
  unfold Rt enc
  rw [List.head?_reverse, List.getLast?_map]
  intro e
  apply h
  cases hg : (dig 256 n).getLast? with
  | none => rw [hg] at e; simp at e
  | some y =>
    rw [hg] at e
    simp at e
    have hy : y < 256 := hd y (List.mem_of_getLast? hg)
    have := congrArg UInt8.toNat e
    simp at this
    rw [Nat.mod_eq_of_lt hy] at this
    rw [this]

theorem enc_of_rt {s : List UInt8} (h : Rt s) : enc (val s) = s := rt_inj (enc_rt _) h (val_enc _)
theorem enc_val (s : List UInt8) : enc (val s) = canon s := rt_inj (enc_rt _) (canon_rt s) (by rw [val_enc, val_canon])
theorem enc_inj {m n : Nat} (h : enc m = enc n) : m = n := by rw [← val_enc m, h, val_enc]
theorem enc_zero : enc 0 = [] := rfl
theorem enc_eq_nil {n : Nat} : enc n = [] ↔ n = 0 := ⟨fun h => enc_inj (by rw [h]; rfl), fun h => by rw [h]; rfl⟩

theorem enc_length_le {n k : Nat} (h : n < 256 ^ k) : (enc n).length ≤ k := by
  have h1 : (enc n).length = (dig 256 n).length := by simp [enc]
  rw [h1]
  rcases Nat.lt_or_ge k (dig 256 n).length with hk | hk
  · have := (dig_tr (b := 256) (by omega) n).ge (b := 256) (by omega)
    rw [dig_vl (by omega)] at this
    have h2 : 256 ^ k ≤ 256 ^ ((dig 256 n).length - 1) := Nat.pow_le_pow_right (by omega) (by omega)
    omega
  · exact hk

theorem canon_length_le : ∀ s : List UInt8, (canon s).length ≤ s.length
  | [] => by simp [canon]
  | c :: s => by
    unfold canon
    split
    · have := canon_length_le s; simp; omega
    · simp

/-- Less at a place, and the same above it: less. -/
theorem vl_lt_at {b : Nat} {la lb : List Nat} {j : Nat} (da : Dig b la) (hl : la.length = lb.length) (hj : j < la.length) (hd : la.drop (j + 1) = lb.drop (j + 1)) (hx : la.getD j 0 < lb.getD j 0) : vl b la < vl b lb := by
  rw [vl_take_drop b la j (by omega), vl_take_drop b lb j (by omega), vl_drop b la j hj, vl_drop b lb j (by omega), hd]
  have h1 := vl_lt (da.take j)
  rw [List.length_take, Nat.min_eq_left (by omega)] at h1
  generalize la.getD j 0 = x at *
  generalize lb.getD j 0 = y at *
  generalize vl b (lb.drop (j + 1)) = t
  have h2 : b ^ j * (x + b * t + 1) ≤ b ^ j * (y + b * t) := Nat.mul_le_mul_left _ (by omega)
  rw [Nat.mul_add] at h2
  omega

/-- -1, 0 or 1: how two numbers compare. -/
def cmpZ (m n : Nat) : Int := if m < n then -1 else if m = n then 0 else 1
theorem cmpZ_lt {m n : Nat} (h : m < n) : cmpZ m n = -1 := by simp [cmpZ, h]
theorem cmpZ_eq {m n : Nat} (h : m = n) : cmpZ m n = 0 := by simp [cmpZ, h]
theorem cmpZ_gt {m n : Nat} (h : n < m) : cmpZ m n = 1 := by unfold cmpZ; rw [if_neg (by omega), if_neg (by omega)]

theorem or_add (x c r : Nat) (hx : x < 256 ^ r) : x ||| (c * 256 ^ r) = x + c * 256 ^ r := by
  have e : 256 ^ r = 2 ^ (8 * r) := by rw [Nat.pow_mul]
  rw [e] at hx ⊢
  rw [Nat.or_comm, Nat.mul_comm, ← Nat.two_pow_add_eq_or_of_lt hx, Nat.add_comm]

theorem or_mul (a x r : Nat) (hx : x < 2 ^ r) : (a * 2 ^ r) ||| x = a * 2 ^ r + x := by
  rw [Nat.mul_comm, ← Nat.two_pow_add_eq_or_of_lt hx]

theorem drop_set_self (l : List Nat) (k x : Nat) (h : k < l.length) : (l.set k x).drop k = x :: l.drop (k + 1) := by
  rw [List.drop_eq_getElem_cons (by simpa using h)]
  simp [List.drop_set]

/-- n digits from place j on. -/
def seg (l : List Nat) (j n : Nat) : List Nat := (l.drop j).take n

theorem seg_length (l : List Nat) (j n : Nat) (h : j + n ≤ l.length) : (seg l j n).length = n := by simp [seg]; omega

theorem getD_drop (l : List Nat) (j k : Nat) : (l.drop j).getD k 0 = l.getD (j + k) 0 := by
  simp [List.getElem?_drop]

theorem vl_seg_succ (b : Nat) (l : List Nat) (j k : Nat) : vl b (seg l j (k + 1)) = vl b (seg l j k) + b ^ k * l.getD (j + k) 0 := by
  unfold seg
  rw [vl_take_succ', getD_drop]

theorem seg_congr {l m : List Nat} (hl : l.length = m.length) (j k : Nat) (h : ∀ i, i < k → l.getD (j + i) 0 = m.getD (j + i) 0) : seg l j k = seg m j k := by
  apply List.ext_getElem
  · simp [seg, hl]
  · intro i h1 h2
    have hi : i < k := by simp [seg] at h1; omega
    have hj : j + i < l.length := by simp [seg] at h1; omega
    have := h i hi
    rw [List.getD_eq_getElem?_getD, List.getD_eq_getElem?_getD, List.getElem?_eq_getElem hj, List.getElem?_eq_getElem (by omega)] at this
    simpa [seg] using this

theorem vl_seg_set (b : Nat) (l : List Nat) (j k x : Nat) (h : j + k < l.length) : vl b (seg (l.set (j + k) x) j (k + 1)) = vl b (seg l j k) + b ^ k * x := by
  rw [vl_seg_succ]
  have e1 : (l.set (j + k) x).getD (j + k) 0 = x := by simp [h]
  have e2 : seg (l.set (j + k) x) j k = seg l j k := seg_congr (by simp) j k fun i hi => ldigit_set_ne _ _ _ _ (by omega)
  rw [e1, e2]

theorem Dig.seg {b : Nat} {l : List Nat} (h : Dig b l) (j k : Nat) : Dig b (seg l j k) := (h.drop j).take k

theorem pow_split (k : Nat) : 4294967296 ^ (k / 4) * 256 ^ (k % 4) = 256 ^ k := by
  have e : 4294967296 = 256 ^ 4 := by decide
  rw [e, ← Nat.pow_mul, ← Nat.pow_add, Nat.div_add_mod]

theorem set_reverse (r : List Nat) (k x : Nat) (h : k < r.length) : r.reverse.set (r.length - 1 - k) x = (r.set k x).reverse := by
  apply List.ext_getElem
  · simp
  · intro i h1 h2
    simp only [List.length_set, List.length_reverse] at h1
    rw [List.getElem_set, List.getElem_reverse, List.getElem_reverse, List.getElem_set]
    simp only [List.length_set]
    by_cases e : r.length - 1 - k = i
    · rw [if_pos e, if_pos (by omega)]
    · rw [if_neg e, if_neg (by omega)]

/-- A byte of a number, out of its digits to the base 2^32. -/
theorem byte_of {l : List Nat} (hd : Dig 4294967296 l) (k : Nat) : l.getD (k / 4) 0 / 256 ^ (k % 4) % 256 = vl 4294967296 l / 256 ^ k % 256 := by
  have hr : k % 4 < 4 := Nat.mod_lt _ (by omega)
  rcases Nat.lt_or_ge (k / 4) l.length with hk | hk
  · rw [vl_take_drop _ l (k / 4) (by omega), vl_drop _ l (k / 4) hk, ← pow_split k]
    have h1 := vl_lt (hd.take (k / 4))
    rw [List.length_take, Nat.min_eq_left (by omega)] at h1
    rw [← Nat.div_div_eq_div_mul, Nat.add_mul_div_left _ _ (Nat.pow_pos (by omega)), Nat.div_eq_of_lt h1, Nat.zero_add]
    generalize l.getD (k / 4) 0 = x
    generalize vl 4294967296 (l.drop (k / 4 + 1)) = t
    have e : 4294967296 * t = 256 ^ (k % 4) * (256 * (256 ^ (3 - k % 4) * t)) := by
      rw [← Nat.mul_assoc, ← Nat.mul_assoc, ← Nat.pow_succ, ← Nat.pow_add, show k % 4 + 1 + (3 - k % 4) = 4 by omega]
    rw [e, Nat.add_mul_div_left _ _ (Nat.pow_pos (by omega)), Nat.add_mul_mod_self_left]
  · have h1 := vl_lt hd
    have h2 : (4294967296 : Nat) ^ l.length ≤ 256 ^ k := by
      rw [show 4294967296 = 256 ^ 4 by decide, ← Nat.pow_mul]
      exact Nat.pow_le_pow_right (by omega) (by omega)
    rw [List.getD_eq_getElem?_getD, List.getElem?_eq_none hk, Nat.div_eq_of_lt (a := vl 4294967296 l) (by omega)]
    simp

theorem canon_dropWhile : ∀ s : List UInt8, s.dropWhile (· == 0) = canon s
  | [] => rfl
  | c :: s => by
    unfold canon
    by_cases h : c = 0
    · subst h; simp [canon_dropWhile s]
    · simp [h]

theorem val_of_rev {r : List Nat} (hd : Dig 256 r) : val (r.reverse.map UInt8.ofNat) = vl 256 r := by
  unfold val
  rw [← List.map_reverse, List.reverse_reverse, toNat_ofNat_map hd]

/-- The number of a string. -/
def SN (s : ByteArray) : Nat := val s.data.toList

/-- The string of a number. -/
def Enc (n : Nat) : ByteArray := ⟨(enc n).toArray⟩

theorem SN_Enc (n : Nat) : SN (Enc n) = n := by
  show val (enc n).toArray.toList = n
  rw [List.toList_toArray, val_enc]

theorem Enc_inj {m n : Nat} (h : Enc m = Enc n) : m = n := by rw [← SN_Enc m, h, SN_Enc]

theorem Enc_size_le {n k : Nat} (h : n < 256 ^ k) : (Enc n).size ≤ k := by
  show (enc n).toArray.size ≤ k
  rw [List.size_toArray]
  exact enc_length_le h

theorem SN_lt (s : ByteArray) : SN s < 256 ^ s.size := by
  have := val_lt s.data.toList
  have e : s.data.toList.length = s.size := by simp
  rw [e] at this
  exact this

/-- How many binary digits a number has. -/
def natBits (n : Nat) : Nat := if n = 0 then 0 else n.log2 + 1
theorem natBits_zero : natBits 0 = 0 := rfl
theorem natBits_of {n k : Nat} (h1 : 2 ^ k ≤ n) (h2 : n < 2 ^ (k + 1)) : natBits n = k + 1 := by
  have h0 : 0 < (2 : Nat) ^ k := Nat.pow_pos (by omega)
  unfold natBits
  rw [if_neg (by omega), (Nat.log2_eq_iff (by omega)).2 ⟨h1, h2⟩]

/-- The binary digits of a number out of the first one of its digits. -/
theorem natBits_vl {l : List Nat} {n x e : Nat} (hd : Dig 4294967296 l) (hn : l.length = n + 1) (hx : l.getD n 0 = x) (h1 : 1 ≤ e) (hlo : 2 ^ (e - 1) ≤ x) (hhi : x < 2 ^ e) : natBits (vl 4294967296 l) = 32 * n + e := by
  have h0 : l.drop (n + 1) = [] := List.drop_of_length_le (by omega)
  have hv : vl 4294967296 l = vl 4294967296 (l.take n) + 4294967296 ^ n * x := by
    rw [vl_take_drop _ l n (by omega), vl_drop _ l n (by omega), h0, hx, vl_nil]
    simp only [Nat.mul_zero, Nat.add_zero]
  have h2 := vl_lt (hd.take n)
  rw [List.length_take, Nat.min_eq_left (by omega)] at h2
  have hp : (4294967296 : Nat) ^ n = 2 ^ (32 * n) := by rw [Nat.pow_mul]
  have h3 : 4294967296 ^ n * (x + 1) ≤ 4294967296 ^ n * 2 ^ e := Nat.mul_le_mul_left _ hhi
  have h4 : 4294967296 ^ n * 2 ^ (e - 1) ≤ 4294967296 ^ n * x := Nat.mul_le_mul_left _ hlo
  have e1 : 4294967296 ^ n * 2 ^ e = 2 ^ (32 * n + e) := by rw [hp, Nat.pow_add]
  have e2 : 4294967296 ^ n * 2 ^ (e - 1) = 2 ^ (32 * n + (e - 1)) := by rw [hp, Nat.pow_add]
  rw [Nat.mul_add, e1] at h3
  rw [e2] at h4
  have := natBits_of (n := vl 4294967296 l) (k := 32 * n + (e - 1)) (by omega) (by rw [show 32 * n + (e - 1) + 1 = 32 * n + e by omega]; omega)
  omega

/-- No zero in front. -/
def rightB : List UInt8 → Bool
  | [] => true
  | c :: _ => c != 0
theorem rightB_iff (l : List UInt8) : rightB l = true ↔ Rt l := by
  cases l with
  | nil => simp [rightB, Rt]
  | cons c l => simp [rightB, Rt]

end Num
end Go.Proofs.YtolmjeglaolhlaaGreatDoor

/- Plain arithmetic of the long division: one round of the loop of nat.divide. No program in sight. -/
namespace Go.Proofs.YtolmjeglaolhlaaGreatDoor
namespace Num

/-- The estimate is right, or too great by one. -/
theorem est_ok {P T W lowS lowV q vs V : Nat} (hvs : vs = lowS + P * T) (hV : V = lowV + P * W) (hlS : lowS < P) (hlV : lowV < P) (hW : 4294967296 ≤ W) (hlt : vs < 4294967296 * V)
    (hq : q ≤ 4294967295) (hle : q * W ≤ T) (hlast : q = 4294967295 ∨ T < (q + 1) * W) : vs / V ≤ q ∧ q ≤ vs / V + 1 := by
  have hP : 0 < P := by omega
  have hV0 : 0 < V := by
    have : P * 1 ≤ P * W := Nat.mul_le_mul_left _ (by omega)
    omega
  constructor
  · rcases hlast with h | h
    · subst h
      have : vs / V < 4294967296 := by rw [Nat.div_lt_iff_lt_mul hV0]; exact hlt
      omega
    · have h1 : vs / V < q + 1 := by
        rw [Nat.div_lt_iff_lt_mul hV0]
        have h2 : P * (T + 1) ≤ P * ((q + 1) * W) := Nat.mul_le_mul_left _ h
        have h3 : P * ((q + 1) * W) = (q + 1) * (P * W) := by rw [← Nat.mul_assoc, Nat.mul_comm P, Nat.mul_assoc]
        have h4 : (q + 1) * (P * W) ≤ (q + 1) * V := Nat.mul_le_mul_left _ (by omega)
        rw [Nat.mul_add] at h2
        omega
      omega
  · rcases Nat.eq_zero_or_pos q with h0 | h0
    · rw [h0]; exact Nat.zero_le _
    · obtain ⟨p, rfl⟩ : ∃ p, q = p + 1 := ⟨q - 1, by omega⟩
      have h1 : p ≤ vs / V := by
        rw [Nat.le_div_iff_mul_le hV0]
        have h2 : p * V ≤ p * (P * (W + 1)) := Nat.mul_le_mul_left _ (by rw [Nat.mul_add]; omega)
        have h3 : p * (P * (W + 1)) = P * (p * W + p) := by rw [← Nat.mul_assoc, Nat.mul_comm p, Nat.mul_assoc, Nat.mul_add, Nat.mul_one]
        have h4 : P * (p * W + p) ≤ P * T := Nat.mul_le_mul_left _ (by rw [Nat.add_mul] at hle; omega)
        omega
      omega

/-- The two or three digits at the top. -/
theorem vl_top2 {l : List Nat} {m : Nat} (hl : l.length = m + 2) : vl 4294967296 l = vl 4294967296 (l.take m) + 4294967296 ^ m * (l.getD (m + 1) 0 * 4294967296 + l.getD m 0) := by
  have h0 : l.drop (m + 2) = [] := List.drop_of_length_le (by omega)
  rw [vl_take_drop _ l m (by omega), vl_drop _ l m (by omega), vl_drop _ l (m + 1) (by omega), h0, vl_nil]
  congr 2
  omega

theorem vl_top3 {l : List Nat} {m : Nat} (hl : l.length = m + 3) : vl 4294967296 l = vl 4294967296 (l.take m) + 4294967296 ^ m * ((l.getD (m + 2) 0 * 4294967296 + l.getD (m + 1) 0) * 4294967296 + l.getD m 0) := by
  have h0 : l.drop (m + 3) = [] := List.drop_of_length_le (by omega)
  rw [vl_take_drop _ l m (by omega), vl_drop _ l m (by omega), vl_drop _ l (m + 1) (by omega), vl_drop _ l (m + 2) (by omega), h0, vl_nil]
  congr 2
  omega

/-- What stands between two rounds of the division: all that lies above the place k is below the divisor. -/
structure Knuth (U : Nat) (lv o qs : List Nat) (k : Nat) : Prop where
  value : U = vl 4294967296 lv * (4294967296 ^ k * vl 4294967296 (qs.drop k)) + vl 4294967296 o
  less : vl 4294967296 (o.drop k) < vl 4294967296 lv

theorem getD_seg (l : List Nat) (j n i : Nat) (hi : i < n) : (seg l j n).getD i 0 = l.getD (j + i) 0 := by
  unfold seg
  rw [← getD_drop]
  simp [hi]

theorem zero_above {o lv : List Nat} {k : Nat} (h : vl 4294967296 (o.drop k) < vl 4294967296 lv) (dv : Dig 4294967296 lv) :
    ∀ t, k + lv.length ≤ t → o.getD t 0 = 0 := by
  intro t ht
  rcases Nat.lt_or_ge t o.length with hlt | hge
  · rw [show t = k + (t - k) by omega, ← getD_drop]
    have h1 := vl_lt dv
    have hl : t - k < (o.drop k).length := by simp; omega
    rw [vl_take_drop _ (o.drop k) (t - k) (by omega), vl_drop _ (o.drop k) (t - k) hl] at h
    rcases Nat.eq_zero_or_pos ((o.drop k).getD (t - k) 0) with h0 | h0
    · exact h0
    · exfalso
      have h2 : 4294967296 ^ (t - k) * 1 ≤ 4294967296 ^ (t - k) * ((o.drop k).getD (t - k) 0 + 4294967296 * vl 4294967296 ((o.drop k).drop (t - k + 1))) := Nat.mul_le_mul_left _ (by omega)
      have h3 : (4294967296 : Nat) ^ lv.length ≤ 4294967296 ^ (t - k) := Nat.pow_le_pow_right (by omega) (by omega)
      omega
  · rw [List.getD_eq_getElem?_getD, List.getElem?_eq_none hge]; rfl

theorem drop_seg {o : List Nat} {j n : Nat} (hlen : j + n ≤ o.length) (hz : ∀ t, j + n ≤ t → o.getD t 0 = 0) : vl 4294967296 (o.drop j) = vl 4294967296 (seg o j n) := by
  have _ := hlen
  unfold seg
  exact (vl_take_of_zero _ _ _ fun i h1 h2 => by rw [getD_drop]; exact hz _ (by omega)).symm

/-- The first digit of what is divided is not greater than the first one of the divisor. -/
theorem top_le {o lv : List Nat} {j m : Nat} (hk : vl 4294967296 (o.drop (j + 1)) < vl 4294967296 lv) (hl : lv.length = m + 2) (dv : Dig 4294967296 lv) (_hlen : j + lv.length + 1 ≤ o.length) :
    o.getD (j + (m + 2)) 0 ≤ lv.getD (m + 1) 0 := by
  have h1 : 4294967296 ^ (m + 1) * o.getD (j + (m + 2)) 0 ≤ vl 4294967296 (o.drop (j + 1)) := by
    have hlt : m + 1 < (o.drop (j + 1)).length := by simp; omega
    rw [vl_take_drop _ (o.drop (j + 1)) (m + 1) (by omega), vl_drop _ _ _ hlt, getD_drop, show j + 1 + (m + 1) = j + (m + 2) by omega, Nat.mul_add]
    omega
  have h2 : vl 4294967296 lv < 4294967296 ^ (m + 1) * (lv.getD (m + 1) 0 + 1) := by
    have h0 : lv.drop (m + 2) = [] := List.drop_of_length_le (by omega)
    have h3 := vl_lt (dv.take (m + 1))
    rw [List.length_take, Nat.min_eq_left (by omega)] at h3
    rw [vl_take_drop _ lv (m + 1) (by omega), vl_drop _ lv (m + 1) (by omega), h0, vl_nil]
    simp only [Nat.mul_add, Nat.mul_one, Nat.mul_zero, Nat.add_zero]
    omega
  have h3 : 4294967296 ^ (m + 1) * o.getD (j + (m + 2)) 0 < 4294967296 ^ (m + 1) * (lv.getD (m + 1) 0 + 1) := by omega
  have := Nat.lt_of_mul_lt_mul_left h3
  omega

/-- The quotient's digit at j, and the estimate of it. -/
theorem digit_est {o lv : List Nat} {j m q : Nat} (hk : vl 4294967296 (o.drop (j + 1)) < vl 4294967296 lv) (hl : lv.length = m + 2) (hd : Dig 4294967296 o) (dv : Dig 4294967296 lv) (hlen : j + lv.length + 1 ≤ o.length)
    (hv0 : 2147483648 ≤ lv.getD (m + 1) 0) (hq : q ≤ 4294967295) (hle : q * (lv.getD (m + 1) 0 * 4294967296 + lv.getD m 0) ≤ (o.getD (j + (m + 2)) 0 * 4294967296 + o.getD (j + (m + 1)) 0) * 4294967296 + o.getD (j + m) 0)
    (hlast : q = 4294967295 ∨ (o.getD (j + (m + 2)) 0 * 4294967296 + o.getD (j + (m + 1)) 0) * 4294967296 + o.getD (j + m) 0 < (q + 1) * (lv.getD (m + 1) 0 * 4294967296 + lv.getD m 0)) :
    vl 4294967296 (seg o j (m + 3)) < 4294967296 * vl 4294967296 lv ∧ vl 4294967296 (seg o j (m + 3)) / vl 4294967296 lv ≤ q ∧ q ≤ vl 4294967296 (seg o j (m + 3)) / vl 4294967296 lv + 1 := by
  have hz := zero_above hk dv
  have hs : vl 4294967296 (o.drop j) = vl 4294967296 (seg o j (m + 3)) := drop_seg (by omega) fun t ht => hz t (by omega)
  have hlt : vl 4294967296 (seg o j (m + 3)) < 4294967296 * vl 4294967296 lv := by
    rw [← hs, vl_drop _ o j (by omega)]
    have h1 := hd.get (by decide) j
    have h2 : 4294967296 * (vl 4294967296 (o.drop (j + 1)) + 1) ≤ 4294967296 * vl 4294967296 lv := Nat.mul_le_mul_left _ hk
    omega
  refine ⟨hlt, ?_⟩
  have hsl : (seg o j (m + 3)).length = m + 3 := seg_length _ _ _ (by omega)
  have e1 := vl_top3 hsl
  rw [getD_seg _ _ _ _ (by omega), getD_seg _ _ _ _ (by omega), getD_seg _ _ _ _ (by omega)] at e1
  have e2 := vl_top2 hl
  have h1 := vl_lt ((hd.seg j (m + 3)).take m)
  rw [List.length_take, Nat.min_eq_left (by omega)] at h1
  have h2 := vl_lt (dv.take m)
  rw [List.length_take, Nat.min_eq_left (by omega)] at h2
  exact est_ok e1 e2 h1 h2 (by omega) hlt hq hle hlast

/-- What the round leaves. -/
theorem Knuth.next {U : Nat} {lv o o' qs : List Nat} {j m : Nat} (h : Knuth U lv o qs (j + 1)) (hl : lv.length = m + 2) (dv : Dig 4294967296 lv) (hlen : j + lv.length + 1 ≤ o.length) (hlen' : o'.length = o.length) (hj : j < qs.length)
    (hsame : ∀ i, i < j ∨ j + lv.length < i → o'.getD i 0 = o.getD i 0)
    (hseg : vl 4294967296 (seg o' j (m + 3)) + vl 4294967296 (seg o j (m + 3)) / vl 4294967296 lv * vl 4294967296 lv = vl 4294967296 (seg o j (m + 3))) :
    Knuth U lv o' (qs.set j (vl 4294967296 (seg o j (m + 3)) / vl 4294967296 lv)) j := by
  have hz := zero_above h.less dv
  have hV0 : 0 < vl 4294967296 lv := by have := h.less; omega
  have hs : vl 4294967296 (o.drop j) = vl 4294967296 (seg o j (m + 3)) := drop_seg (by omega) fun t ht => hz t (by omega)
  have hs' : vl 4294967296 (o'.drop j) = vl 4294967296 (seg o' j (m + 3)) := drop_seg (by omega) fun t ht => by rw [hsame t (by omega)]; exact hz t (by omega)
  have hm := Nat.div_add_mod (vl 4294967296 (seg o j (m + 3))) (vl 4294967296 lv)
  have hmlt := Nat.mod_lt (vl 4294967296 (seg o j (m + 3))) hV0
  rw [Nat.mul_comm] at hm
  have htake : vl 4294967296 (o'.take j) = vl 4294967296 (o.take j) := by
    have : o'.take j = o.take j := by
      have := seg_congr (l := o') (m := o) hlen' 0 j fun i hi => by rw [Nat.zero_add]; exact hsame i (Or.inl hi)
      simpa [seg] using this
    rw [this]
  constructor
  · have hv := h.value
    rw [vl_take_drop _ o j (by omega), hs] at hv
    rw [vl_take_drop _ o' j (by omega), hs', htake, drop_set_self _ _ _ hj, vl_cons, hv, Nat.pow_succ]
    generalize vl 4294967296 (seg o j (m + 3)) / vl 4294967296 lv = q at *
    generalize vl 4294967296 (seg o j (m + 3)) = S at *
    generalize vl 4294967296 (seg o' j (m + 3)) = S' at *
    generalize vl 4294967296 (qs.drop (j + 1)) = Q at *
    generalize vl 4294967296 lv = V at *
    generalize vl 4294967296 (o.take j) = L at *
    generalize 4294967296 ^ j = B at *
    subst hseg
    clear hm hmlt hs hs' htake hz hv
    grind
  · rw [hs']
    generalize vl 4294967296 (seg o j (m + 3)) / vl 4294967296 lv = q at *
    omega

/-- The divisor, shifted until its first bit is set. -/
theorem normal {lb lv : List Nat} {m s e : Nat} (hl : lb.length = m + 2) (db : Dig 4294967296 lb) (hs : s + e = 32) (h1 : 1 ≤ e) (hlo : 2 ^ (e - 1) ≤ lb.getD (m + 1) 0) (hhi : lb.getD (m + 1) 0 < 2 ^ e)
    (dv : Dig 4294967296 lv) (tv : Tr lv) (hv : vl 4294967296 lv = vl 4294967296 lb * 2 ^ s) : lv.length = m + 2 ∧ 2147483648 ≤ lv.getD (m + 1) 0 ∧ vl 4294967296 lb < 4294967296 ^ (m + 1) * 2 ^ e := by
  have h0 : lb.drop (m + 2) = [] := List.drop_of_length_le (by omega)
  have hb : vl 4294967296 lb = vl 4294967296 (lb.take (m + 1)) + 4294967296 ^ (m + 1) * lb.getD (m + 1) 0 := by
    rw [vl_take_drop _ lb (m + 1) (by omega), vl_drop _ lb (m + 1) (by omega), h0, vl_nil]
    simp only [Nat.mul_zero, Nat.add_zero]
  have h2 := vl_lt (db.take (m + 1))
  rw [List.length_take, Nat.min_eq_left (by omega)] at h2
  generalize lb.getD (m + 1) 0 = d at *
  have e32 : (2 : Nat) ^ e * 2 ^ s = 4294967296 := by rw [← Nat.pow_add, show e + s = 32 by omega]
  have e31 : (2 : Nat) ^ (e - 1) * 2 ^ s = 2147483648 := by rw [← Nat.pow_add, show e - 1 + s = 31 by omega]
  have hup : vl 4294967296 lb < 4294967296 ^ (m + 1) * 2 ^ e := by
    have : 4294967296 ^ (m + 1) * (d + 1) ≤ 4294967296 ^ (m + 1) * 2 ^ e := Nat.mul_le_mul_left _ hhi
    rw [Nat.mul_add] at this
    omega
  have hV1 : vl 4294967296 lv < 4294967296 ^ (m + 2) := by
    have h3 : vl 4294967296 lb * 2 ^ s < 4294967296 ^ (m + 1) * 2 ^ e * 2 ^ s := Nat.mul_lt_mul_of_pos_right hup (Nat.pow_pos (by omega))
    rw [Nat.mul_assoc (4294967296 ^ (m + 1)), e32, ← Nat.pow_succ] at h3
    rw [hv]
    exact h3
  have hV2 : 4294967296 ^ (m + 1) * 2147483648 ≤ vl 4294967296 lv := by
    rw [hv, ← e31, ← Nat.mul_assoc]
    refine Nat.mul_le_mul_right _ ?_
    have : 4294967296 ^ (m + 1) * 2 ^ (e - 1) ≤ 4294967296 ^ (m + 1) * d := Nat.mul_le_mul_left _ hlo
    omega
  have hlen : lv.length = m + 2 := by
    have ha := vl_lt dv
    rcases Nat.lt_trichotomy lv.length (m + 2) with h | h | h
    · exfalso
      have : (4294967296 : Nat) ^ lv.length ≤ 4294967296 ^ (m + 1) := Nat.pow_le_pow_right (by omega) (by omega)
      omega
    · exact h
    · exfalso
      have h3 := tv.ge (b := 4294967296) (by omega)
      have : (4294967296 : Nat) ^ (m + 2) ≤ 4294967296 ^ (lv.length - 1) := Nat.pow_le_pow_right (by omega) (by omega)
      omega
  refine ⟨hlen, ?_, hup⟩
  have h0' : lv.drop (m + 2) = [] := List.drop_of_length_le (by omega)
  have h4 := vl_lt (dv.take (m + 1))
  rw [List.length_take, Nat.min_eq_left (by omega)] at h4
  rw [vl_take_drop _ lv (m + 1) (by omega), vl_drop _ lv (m + 1) (by omega), h0', vl_nil] at hV2
  simp only [Nat.mul_zero, Nat.add_zero] at hV2
  have h5 : 4294967296 ^ (m + 1) * 2147483648 < 4294967296 ^ (m + 1) * (lv.getD (m + 1) 0 + 1) := by rw [Nat.mul_add (4294967296 ^ (m + 1)) (lv.getD (m + 1) 0)]; omega
  have := Nat.lt_of_mul_lt_mul_left h5
  omega

/-- How the loop begins. -/
theorem Knuth.start {la lb lv o : List Nat} {m s M : Nat} (hlb : vl 4294967296 lv = vl 4294967296 lb * 2 ^ s) (hM : M + (m + 2) = la.length + 1) (da : Dig 4294967296 la)
    (hlo : 4294967296 ^ (m + 1) ≤ vl 4294967296 lb)
    (ho : o.length = la.length + 1) (hv : vl 4294967296 o = vl 4294967296 la * 2 ^ s) : Knuth (vl 4294967296 la * 2 ^ s) lv o (List.replicate M 0) M := by
  constructor
  · rw [List.drop_of_length_le (by simp), vl_nil, Nat.mul_zero, Nat.mul_zero, Nat.zero_add, hv]
  · have h1 := vl_take_drop 4294967296 o M (by omega)
    have h2 := vl_lt da
    have hs0 : 0 < (2 : Nat) ^ s := Nat.pow_pos (by omega)
    have h3 : vl 4294967296 la * 2 ^ s < 4294967296 ^ la.length * 2 ^ s := Nat.mul_lt_mul_of_pos_right h2 hs0
    have h4 : (4294967296 : Nat) ^ la.length = 4294967296 ^ M * 4294967296 ^ (m + 1) := by rw [← Nat.pow_add, show M + (m + 1) = la.length by omega]
    have h5 : 4294967296 ^ M * vl 4294967296 (o.drop M) < 4294967296 ^ M * (4294967296 ^ (m + 1) * 2 ^ s) := by rw [← Nat.mul_assoc, ← h4]; omega
    have h6 := Nat.lt_of_mul_lt_mul_left h5
    have h7 : 4294967296 ^ (m + 1) * 2 ^ s ≤ vl 4294967296 lb * 2 ^ s := Nat.mul_le_mul_right _ hlo
    omega

/-- How it ends. -/
theorem Knuth.fin {A D s : Nat} {lv o qs : List Nat} (h : Knuth (A * 2 ^ s) lv o qs 0) (hlb : vl 4294967296 lv = D * 2 ^ s) : vl 4294967296 qs = A / D ∧ vl 4294967296 o / 2 ^ s = A % D ∧ 0 < D := by
  have hv := h.value
  have hless := h.less
  simp only [List.drop_zero, Nat.pow_zero, Nat.one_mul] at hv hless
  rw [hlb] at hv hless
  have hs0 : 0 < (2 : Nat) ^ s := Nat.pow_pos (by omega)
  have hD : 0 < D := by
    rcases Nat.eq_zero_or_pos D with h0 | h0
    · subst h0; simp at hless
    · exact h0
  have hr : vl 4294967296 o = (vl 4294967296 o / 2 ^ s) * 2 ^ s := by
    have h1 : vl 4294967296 o % 2 ^ s = 0 := by
      have h2 : (D * 2 ^ s * vl 4294967296 qs + vl 4294967296 o) % 2 ^ s = 0 := by rw [← hv]; exact Nat.mul_mod_left _ _
      rw [Nat.mul_right_comm, Nat.mul_comm _ (2 ^ s), Nat.mul_add_mod] at h2
      exact h2
    have h3 := Nat.div_add_mod (vl 4294967296 o) (2 ^ s)
    rw [h1, Nat.mul_comm] at h3
    omega
  generalize vl 4294967296 o / 2 ^ s = r at *
  have hr2 : r < D := by
    rw [hr] at hless
    exact Nat.lt_of_mul_lt_mul_right hless
  have hA : A = D * vl 4294967296 qs + r := by
    rw [hr] at hv
    have : A * 2 ^ s = (D * vl 4294967296 qs + r) * 2 ^ s := by rw [Nat.add_mul, hv]; grind
    exact Nat.eq_of_mul_eq_mul_right hs0 this
  refine ⟨?_, ?_, hD⟩
  · rw [hA, Nat.mul_add_div hD, Nat.div_eq_of_lt hr2, Nat.add_zero]
  · rw [hA, Nat.mul_add_mod, Nat.mod_eq_of_lt hr2]

/-- The estimate was right. -/
theorem digit_fix0 {vs V q S1 : Nat} (hV : 0 < V) (h1 : vs / V ≤ q) (h : S1 + q * V = vs) : q = vs / V := by
  have h2 : q ≤ vs / V := by rw [Nat.le_div_iff_mul_le hV]; omega
  omega

/-- The estimate was too great. -/
theorem digit_fix1 {vs V q S1 S2 t2 P : Nat} (hV : 0 < V) (hq : q ≤ vs / V + 1) (hS1 : S1 < P) (h : S1 + q * V = vs + P) (hS2 : S2 < P) (hVP : V ≤ P) (hg : S2 + t2 * P = S1 + V) (ht2 : t2 ≤ 1) :
    1 ≤ q ∧ q - 1 = vs / V ∧ S2 + vs / V * V = vs := by
  have _ := hVP
  have h1 : vs / V < q := by rw [Nat.div_lt_iff_lt_mul hV]; omega
  have h2 : q = vs / V + 1 := by omega
  have h3 := Nat.div_add_mod vs V
  have h4 := Nat.mod_lt vs hV
  rw [Nat.mul_comm] at h3
  generalize vs / V = d at *
  subst h2
  rw [Nat.add_mul, Nat.one_mul] at h
  refine ⟨by omega, by omega, ?_⟩
  rcases (show t2 = 0 ∨ t2 = 1 by omega) with rfl | rfl
  · exfalso; omega
  · omega

end Num
end Go.Proofs.YtolmjeglaolhlaaGreatDoor

/- Plain arithmetic of Montgomery's products. No program in sight. -/
namespace Go.Proofs.YtolmjeglaolhlaaGreatDoor
namespace Num

/-- One step of Newton's iteration for the inverse modulo 2^32. -/
theorem inv_step {m x P P' : Nat} (hP : P' ∣ P * P) (hQ : P' ∣ 4294967296) (h : ((m : Int) * x - 1) % (P : Int) = 0) :
    ((m : Int) * ((x : Int) * ((2 - (m : Int) * x) % 4294967296) % 4294967296) - 1) % (P' : Int) = 0 := by
  obtain ⟨t, ht⟩ := Int.dvd_of_emod_eq_zero h
  obtain ⟨c, hc⟩ := hP
  obtain ⟨d, hd⟩ := hQ
  apply Int.emod_eq_zero_of_dvd
  have h1 := Int.emod_add_mul_ediv (2 - (m : Int) * x) 4294967296
  have h2 := Int.emod_add_mul_ediv ((x : Int) * ((2 - (m : Int) * x) % 4294967296)) 4294967296
  generalize (2 - (m : Int) * x) % 4294967296 = u at *
  generalize (2 - (m : Int) * x) / 4294967296 = v at *
  generalize ((x : Int) * u) % 4294967296 = r at *
  generalize ((x : Int) * u) / 4294967296 = s at *
  have hd' : (4294967296 : Int) = (P' : Int) * (d : Int) := by rw [← Int.natCast_mul, ← hd]; rfl
  have hc' : (P : Int) * (P : Int) = (P' : Int) * (c : Int) := by rw [← Int.natCast_mul, ← Int.natCast_mul, hc]
  rw [hd'] at h1 h2
  have hx : (m : Int) * x = 1 + (P : Int) * t := by omega
  refine ⟨-(c * t * t) - m * x * d * v - m * d * s, ?_⟩
  have e1 : r = x * u - P' * d * s := by omega
  have e2 : u = 2 - m * x - P' * d * v := by omega
  rw [e1, e2]
  have e3 : (m : Int) * (x * (2 - m * x - P' * d * v) - P' * d * s) - 1 = (m * x) * (2 - m * x) - 1 - m * x * (P' * d * v) - m * (P' * d * s) := by grind
  rw [e3]
  have e4 : (m : Int) * x * (2 - m * x) - 1 = -(P' * c * t * t) := by
    rw [hx, ← hc']; grind
  rw [e4]
  grind

/-- An odd number times itself. -/
theorem odd_sq {m : Nat} (h : m % 2 = 1) : ((m : Int) * m - 1) % (8 : Nat) = 0 := by
  have h8 : (m % 8 = 1 ∨ m % 8 = 3 ∨ m % 8 = 5 ∨ m % 8 = 7) := by omega
  have e : ((m : Int) * m - 1) % 8 = (((m % 8 : Nat) : Int) * ((m % 8 : Nat) : Int) - 1) % 8 := by
    have h1 : (m : Int) = 8 * ((m / 8 : Nat) : Int) + ((m % 8 : Nat) : Int) := by omega
    generalize ((m / 8 : Nat) : Int) = a at *
    generalize ((m % 8 : Nat) : Int) = b at *
    rw [h1]
    have : (8 * a + b) * (8 * a + b) - 1 = 8 * (8 * a * a + 2 * a * b) + (b * b - 1) := by grind
    rw [this]
    omega
  show ((m : Int) * m - 1) % 8 = 0
  rw [e]
  rcases h8 with h | h | h | h <;> rw [h] <;> decide

/-- Powers of the base have no divisor in common with an odd number. -/
theorem coprime_odd {M : Nat} (h : M % 2 = 1) (k : Nat) : Nat.Coprime (4294967296 ^ k) M := by
  rw [show (4294967296 : Nat) = 2 ^ 32 by decide, ← Nat.pow_mul]
  apply Nat.Coprime.pow_left
  rw [Nat.coprime_iff_gcd_eq_one, Nat.gcd_rec, h]
  rfl

/-- Two rests are the same if they are so when multiplied by R. -/
theorem cancel_mod {R M x y : Nat} (hc : Nat.Coprime R M) (h : x * R % M = y * R % M) : x % M = y % M := by
  have key : ∀ {a b : Nat}, a ≤ b → a * R % M = b * R % M → a % M = b % M := by
    intro a b hab he
    have h1 : M ∣ b * R - a * R := Nat.dvd_of_mod_eq_zero (Nat.sub_mod_eq_zero_of_mod_eq he.symm)
    rw [← Nat.sub_mul] at h1
    obtain ⟨c, h2⟩ : M ∣ b - a := (Nat.Coprime.dvd_of_dvd_mul_right (Nat.Coprime.symm hc) h1)
    rw [show b = a + M * c by omega, Nat.add_mul_mod_self_left]
  rcases Nat.le_total x y with h1 | h1
  · exact key h1 h
  · exact (key h1 h.symm).symm

/-- A Montgomery product of two numbers in Montgomery's form. -/
theorem mont_mul {R M x y r : Nat} (hc : Nat.Coprime R M) (hr : r < M) (h : r * R % M = (x * R % M) * (y * R % M) % M) : r = x * y * R % M := by
  have h1 : r * R % M = (x * y * R) * R % M := by
    rw [h, ← Nat.mul_mod]
    congr 1
    grind
  have h2 := cancel_mod hc h1
  rwa [Nat.mod_eq_of_lt hr] at h2

theorem mont_out {R M x r : Nat} (hc : Nat.Coprime R M) (hr : r < M) (h : r * R % M = (x * R % M) * 1 % M) : r = x % M := by
  rw [Nat.mul_one, Nat.mod_mod] at h
  have h2 := cancel_mod hc h
  rwa [Nat.mod_eq_of_lt hr] at h2

/-- The first j binary digits of e, as a number, and one more. -/
theorem bits_next {e N j : Nat} (hj : j < N) : e / 2 ^ (N - (j + 1)) = 2 * (e / 2 ^ (N - j)) + e / 2 ^ (N - 1 - j) % 2 := by
  rw [show N - (j + 1) = N - 1 - j by omega, show N - j = (N - 1 - j) + 1 by omega, Nat.pow_succ, ← Nat.div_div_eq_div_mul]
  have := Nat.div_add_mod (e / 2 ^ (N - 1 - j)) 2
  omega

/-- Squares and products of powers. -/
theorem pow_next {a E bit : Nat} : a ^ (2 * E + bit) = a ^ E * a ^ E * a ^ bit := by
  rw [Nat.pow_add, Nat.two_mul, Nat.pow_add]

/-- One round of a Montgomery product. -/
theorem mont_round {A M P Q T T2 vb y q B : Nat} (h : T * P = A * vb + Q * M) (h2 : T2 * B = T + y * A + q * M) : T2 * (P * B) = A * (vb + P * y) + (Q + P * q) * M := by
  have e : T2 * (P * B) = (T2 * B) * P := by grind
  rw [e, h2]
  grind

theorem mont_small {A M T T2 y q B : Nat} (hA : A < M) (hy : y < B) (hq : q < B) (hT : T < 2 * M) (h2 : T2 * B = T + y * A + q * M) : T2 < 2 * M := by
  have h1 : y * A ≤ (B - 1) * M := Nat.mul_le_mul (by omega) (by omega)
  have h3 : q * M ≤ (B - 1) * M := Nat.mul_le_mul (by omega) (Nat.le_refl _)
  obtain ⟨C, rfl⟩ : ∃ C, B = C + 1 := ⟨B - 1, by omega⟩
  rw [Nat.add_sub_cancel] at h1 h3
  refine Nat.lt_of_mul_lt_mul_right (a := C + 1) ?_
  rw [h2]
  have e : 2 * M * (C + 1) = 2 * (C * M) + 2 * M := by grind
  rw [e]
  generalize C * M = u at *
  generalize y * A = v at *
  generalize q * M = x at *
  omega

/-- What a Montgomery product leaves: a rest that the modulus was taken off from, or not. -/
theorem mont_end {A M R Q T X r : Nat} (h : T * R = A * X + Q * M) (hr : r = T ∨ r + M = T) : r * R % M = A * X % M := by
  have h1 : T * R % M = A * X % M := by rw [h, Nat.add_mul_mod_self_right]
  rcases hr with rfl | rfl
  · exact h1
  · rw [← h1, Nat.add_mul, Nat.add_mul_mod_self_left]

/-- The number q of a round makes the lowest digit nought. -/
theorem mont_q {m x t0 : Nat} (hx : ((m : Int) * x - 1) % 4294967296 = 0) (q : Nat) (hq : (q : Int) = ((t0 : Int) * ((-(x : Int)) % 4294967296)) % 4294967296) : (t0 + q * m) % 4294967296 = 0 := by
  have h1 := Int.emod_add_mul_ediv (-(x : Int)) 4294967296
  have h2 := Int.emod_add_mul_ediv ((t0 : Int) * ((-(x : Int)) % 4294967296)) 4294967296
  rw [← hq] at h2
  obtain ⟨c, hc⟩ := Int.dvd_of_emod_eq_zero hx
  generalize (-(x : Int)) % 4294967296 = n at *
  generalize (-(x : Int)) / 4294967296 = d at *
  generalize ((t0 : Int) * n) / 4294967296 = s at *
  have e1 : (q : Int) = t0 * n - 4294967296 * s := by omega
  have e2 : n = -x - 4294967296 * d := by omega
  have e3 : (m : Int) * x = 1 + 4294967296 * c := by omega
  have e4 : ((t0 + q * m : Nat) : Int) = 4294967296 * (-(t0 * c) - t0 * d * m - s * m) := by
    rw [Int.natCast_add, Int.natCast_mul, e1, e2]
    have : (t0 : Int) + (t0 * (-x - 4294967296 * d) - 4294967296 * s) * m = t0 - t0 * (m * x) - 4294967296 * (t0 * d * m) - 4294967296 * (s * m) := by grind
    rw [this, e3]
    grind
  have : ((t0 + q * m : Nat) : Int) % 4294967296 = 0 := by rw [e4]; exact Int.mul_emod_right _ _
  omega

end Num
end Go.Proofs.YtolmjeglaolhlaaGreatDoor

/- Plain arithmetic of the reference's digits. No program in sight. -/
namespace Go.Proofs.YtolmjeglaolhlaaGreatDoor
namespace Num

theorem vl_snoc_take (B : Nat) (o : List Nat) (d k : Nat) (ho : o.length = k) : vl B (o ++ [d]) = vl B o + B ^ k * d := by rw [vl_snoc, ho]

/-- One digit of a difference. -/
theorem minus_step {B k x y br : Nat} {o u v : List Nat} (hx : u.getD k 0 = x) (hy : v.getD k 0 = y) (hbr : br ≤ 1) (hxB : x < B) (hyB : y < B) (ho : o.length = k)
    (hv : vl B o + vl B (v.take k) = vl B (u.take k) + br * B ^ k) (d br' : Nat) (hd : d + br + y = x + br' * B) : vl B (o ++ [d]) + vl B (v.take (k + 1)) = vl B (u.take (k + 1)) + br' * B ^ (k + 1) := by
  have _ := hbr; have _ := hxB; have _ := hyB
  rw [vl_snoc_take B o d k ho, vl_take_succ', vl_take_succ', hx, hy, Nat.pow_succ]
  generalize B ^ k = P at *
  have h1 : P * (d + br + y) = P * (x + br' * B) := by rw [hd]
  grind

/-- One digit of a sum. -/
theorem add_step {B k x y c : Nat} {o u v : List Nat} (hx : u.getD k 0 = x) (hy : v.getD k 0 = y) (ho : o.length = k)
    (hv : vl B o + c * B ^ k = vl B (u.take k) + vl B (v.take k)) (d c' : Nat) (hd : d + B * c' = c + x + y) : vl B (o ++ [d]) + c' * B ^ (k + 1) = vl B (u.take (k + 1)) + vl B (v.take (k + 1)) := by
  rw [vl_snoc_take B o d k ho, vl_take_succ', vl_take_succ', hx, hy, Nat.pow_succ]
  generalize B ^ k = P at *
  have h1 : P * (d + B * c') = P * (c + x + y) := by rw [hd]
  grind

/-- One digit of a multiple. -/
theorem times_step {B k x m c : Nat} {o u : List Nat} (hx : u.getD k 0 = x) (ho : o.length = k)
    (hv : vl B o + c * B ^ k = vl B (u.take k) * m) (d c' : Nat) (hd : d + B * c' = x * m + c) : vl B (o ++ [d]) + c' * B ^ (k + 1) = vl B (u.take (k + 1)) * m := by
  rw [vl_snoc_take B o d k ho, vl_take_succ', hx, Nat.pow_succ]
  generalize B ^ k = P at *
  have h1 : P * (d + B * c') = P * (x * m + c) := by rw [hd]
  grind

/-- One digit of a quotient. -/
theorem quo_step (B X V x : Nat) (hV : 0 < V) : (x + B * X) / V = B * (X / V) + (x + B * (X % V)) / V ∧ (x + B * X) % V = (x + B * (X % V)) % V := by
  have h := Nat.div_add_mod X V
  have e : x + B * X = V * (B * (X / V)) + (x + B * (X % V)) := by
    generalize X / V = q at *
    generalize X % V = r at *
    rw [← h]
    grind
  rw [e]
  constructor
  · rw [Nat.mul_add_div hV]
  · rw [Nat.mul_add_mod]

theorem quo_digit {B X V x : Nat} (hV : 0 < V) (hx : x < B) : (x + B * (X % V)) / V < B := by
  have h := Nat.mod_lt X hV
  rw [Nat.div_lt_iff_lt_mul hV]
  calc x + B * (X % V) < B + B * (X % V) := by omega
    _ = B * (X % V + 1) := by rw [Nat.mul_add, Nat.mul_one, Nat.add_comm]
    _ ≤ B * V := Nat.mul_le_mul_left _ h

/-- Three bytes of a digit. -/
theorem three_bytes {d : Nat} (h : d < 16777216) : d / 65536 * 65536 + d / 256 % 256 * 256 + d % 256 = d ∧ d / 65536 < 256 := by omega

theorem val_three (b : List UInt8) (x y z : Nat) (hx : x < 256) (hy : y < 256) (hz : z < 256) : val (b ++ [UInt8.ofNat x, UInt8.ofNat y, UInt8.ofNat z]) = val b * 16777216 + (x * 65536 + y * 256 + z) := by
  rw [show [UInt8.ofNat x, UInt8.ofNat y, UInt8.ofNat z] = [UInt8.ofNat x] ++ [UInt8.ofNat y] ++ [UInt8.ofNat z] by rfl, ← List.append_assoc, ← List.append_assoc, val_snoc, val_snoc, val_snoc]
  have e : ∀ n, n < 256 → (UInt8.ofNat n).toNat = n := fun n hn => by simp; omega
  rw [e x hx, e y hy, e z hz]
  omega

end Num
end Go.Proofs.YtolmjeglaolhlaaGreatDoor

/- Plain facts on canonical strings: how long they are, how they compare, their bits. No program in sight. -/
namespace Go.Proofs.YtolmjeglaolhlaaGreatDoor
namespace Num

theorem Enc_big {n k : Nat} (h : k < (Enc n).size) : 256 ^ k ≤ n := by
  rcases Nat.lt_or_ge n (256 ^ k) with h1 | h1
  · have := Enc_size_le h1; omega
  · exact h1

theorem Enc_small {n k : Nat} (h : (Enc n).size ≤ k) : n < 256 ^ k := by
  have h1 := SN_lt (Enc n)
  rw [SN_Enc] at h1
  exact Nat.lt_of_lt_of_le h1 (Nat.pow_le_pow_right (by decide) h)

/-- The first byte of a string and its number. -/
theorem SN_ge {t : ByteArray} (h : 0 < t.size) : t[0].toNat * 256 ^ (t.size - 1) ≤ SN t ∧ SN t < (t[0].toNat + 1) * 256 ^ (t.size - 1) := by
  have e : t.data.toList = t[0] :: t.data.toList.drop 1 := by
    have h1 := List.drop_eq_getElem_cons (l := t.data.toList) (i := 0) (by simpa using h)
    rw [List.drop_zero] at h1
    exact h1
  have h2 : SN t = val (t[0] :: t.data.toList.drop 1) := by
    show val t.data.toList = _
    rw [← e]
  have hl : (t.data.toList.drop 1).length = t.size - 1 := by simp
  rw [h2, val_cons, hl]
  have := val_lt (t.data.toList.drop 1)
  rw [hl] at this
  constructor
  · omega
  · rw [Nat.add_mul, Nat.one_mul]; omega

theorem Enc_first {n : Nat} (h : 0 < (Enc n).size) : (Enc n)[0].toNat ≠ 0 := by
  have hr : Rt (enc n) := enc_rt n
  have e : (Enc n).data.toList = enc n := by show (enc n).toArray.toList = _; simp
  intro h0
  unfold Rt at hr
  apply hr
  rw [← e]
  have h1 := List.drop_eq_getElem_cons (l := (Enc n).data.toList) (i := 0) (by simpa using h)
  rw [List.drop_zero] at h1
  rw [h1]
  simp
  exact UInt8.toNat_inj.1 h0

/-- Strings of one length compare as their numbers. -/
theorem bytesLess_val : ∀ (a b : List UInt8), a.length = b.length → Go.Op.bytesLess a b = decide (val a < val b)
  | [], [], _ => by simp [Go.Op.bytesLess]
  | x :: a, y :: b, h => by
    have hl : a.length = b.length := by simpa using h
    have ih := bytesLess_val a b hl
    have h1 := val_lt a
    have h2 := val_lt b
    rw [← hl] at h2
    unfold Go.Op.bytesLess
    rw [ih, val_cons, val_cons, ← hl]
    generalize 256 ^ a.length = P at *
    generalize val a = va at *
    generalize val b = vb at *
    rcases Nat.lt_trichotomy x.toNat y.toNat with hxy | hxy | hxy
    · have e1 : decide (x < y) = true := by simpa [UInt8.lt_iff_toNat_lt] using hxy
      have h3 : (x.toNat + 1) * P ≤ y.toNat * P := Nat.mul_le_mul_right _ hxy
      rw [Nat.add_mul, Nat.one_mul] at h3
      rw [e1]
      simp
      omega
    · have e1 : decide (x < y) = false := by simp [UInt8.lt_iff_toNat_lt]; omega
      have e2 : (x == y) = true := by rw [beq_iff_eq]; exact UInt8.toNat_inj.1 hxy
      rw [e1, e2, hxy]
      simp
    · have e1 : decide (x < y) = false := by simp [UInt8.lt_iff_toNat_lt]; omega
      have e2 : (x == y) = false := by rw [beq_eq_false_iff_ne]; intro e; rw [e] at hxy; omega
      have h3 : (y.toNat + 1) * P ≤ x.toNat * P := Nat.mul_le_mul_right _ hxy
      rw [Nat.add_mul, Nat.one_mul] at h3
      rw [e1, e2]
      simp
      omega

/-- The bits of a number whose first byte is known. -/
theorem natBits_first {n c k : Nat} (hc : 0 < c) (h1 : c * 256 ^ k ≤ n) (h2 : n < (c + 1) * 256 ^ k) : natBits n = 8 * k + natBits c := by
  have e : natBits c = c.log2 + 1 := by unfold natBits; rw [if_neg (by omega)]
  have h3 : 2 ^ c.log2 ≤ c := Nat.log2_self_le (by omega)
  have h4 : c + 1 ≤ 2 ^ (c.log2 + 1) := Nat.lt_log2_self
  have p : (256 : Nat) ^ k = 2 ^ (8 * k) := by rw [Nat.pow_mul]
  rw [e, show 8 * k + (c.log2 + 1) = (8 * k + c.log2) + 1 by omega]
  apply natBits_of
  · refine Nat.le_trans ?_ h1
    rw [p, Nat.pow_add, Nat.mul_comm]
    exact Nat.mul_le_mul_right _ h3
  · refine Nat.lt_of_lt_of_le h2 ?_
    rw [p, show 8 * k + c.log2 + 1 = (c.log2 + 1) + 8 * k by omega, Nat.pow_add]
    exact Nat.mul_le_mul_right _ h4

theorem natBits_half {d : Nat} (h : 0 < d) : natBits d = natBits (d / 2) + 1 := by
  rcases Nat.eq_zero_or_pos (d / 2) with h0 | h0
  · have : d = 1 := by omega
    subst this
    decide
  · unfold natBits
    rw [if_neg (by omega), if_neg (by omega), Nat.log2_def d, if_pos (by omega)]

theorem natBits_lt256 {d : Nat} (h : d < 256) : natBits d ≤ 8 := by
  unfold natBits
  split
  · omega
  · rename_i h0
    have := (Nat.log2_lt h0).2 (show d < 2 ^ 8 by omega)
    omega

/-- A part of a string at its beginning. -/
theorem val_take_le (t : List UInt8) (j : Nat) : val (t.take j) * 256 ^ (t.length - j) ≤ val t := by
  have h := val_append (t.take j) (t.drop j)
  rw [List.take_append_drop] at h
  rw [h]
  simp

end Num
end Go.Proofs.YtolmjeglaolhlaaGreatDoor

/- Plain arithmetic of decimal texts: their value, the canonical text of a number. No program in sight. -/
namespace Go.Proofs.YtolmjeglaolhlaaGreatDoor
namespace Num

/-- The text of a number in decimal. -/
def decD (n : Nat) : List UInt8 := if n = 0 then [48] else ((dig 10 n).map fun d => UInt8.ofNat (48 + d)).reverse

/-- The value of a text of digits. -/
def dval (s : List UInt8) : Nat := vl 10 (s.reverse.map fun c => c.toNat - 48)

/-- All signs are digits. -/
def AllDig (s : List UInt8) : Prop := ∀ c ∈ s, 48 ≤ c.toNat ∧ c.toNat ≤ 57

theorem AllDig.nil : AllDig [] := by intro c hc; cases hc
theorem AllDig.append {s t : List UInt8} (hs : AllDig s) (ht : AllDig t) : AllDig (s ++ t) := by
  intro c hc; rcases List.mem_append.1 hc with h | h
  · exact hs c h
  · exact ht c h
theorem AllDig.left {s t : List UInt8} (h : AllDig (s ++ t)) : AllDig s := fun c hc => h c (by simp [hc])
theorem AllDig.right {s t : List UInt8} (h : AllDig (s ++ t)) : AllDig t := fun c hc => h c (by simp [hc])
theorem AllDig.dig {s : List UInt8} (h : AllDig s) : Dig 10 (s.reverse.map fun c => c.toNat - 48) := by
  intro x hx
  obtain ⟨c, hc, rfl⟩ := List.mem_map.1 hx
  have := h c (by simpa using hc)
  omega

@[simp] theorem dval_nil : dval [] = 0 := rfl
theorem dval_append (s t : List UInt8) : dval (s ++ t) = dval s * 10 ^ t.length + dval t := by
  unfold dval
  rw [List.reverse_append, List.map_append, vl_append]
  simp [Nat.mul_comm, Nat.add_comm]
theorem dval_lt {s : List UInt8} (h : AllDig s) : dval s < 10 ^ s.length := by
  have := vl_lt h.dig
  simpa [dval] using this

/-- A text as it is written: not empty, no zero in front but for 0. -/
def DecRt (s : List UInt8) : Prop := AllDig s ∧ (s = [48] ∨ ∃ c t, s = c :: t ∧ c ≠ 48)

theorem dec_byte {d : Nat} (h : d < 10) : (UInt8.ofNat (48 + d)).toNat = 48 + d := by
  simp; omega

theorem dec_map_back {l : List Nat} (h : Dig 10 l) : (l.map fun d => UInt8.ofNat (48 + d)).map (fun c => c.toNat - 48) = l := by
  rw [List.map_map]
  conv => rhs; rw [← List.map_id l]
  apply List.map_congr_left
  intro x hx
  have := h x hx
  simp only [Function.comp, dec_byte this, id]
  omega

theorem decD_all (n : Nat) : AllDig (decD n) := by
  unfold decD
  split
  · intro c hc; simp at hc; subst hc; decide
  · intro c hc
    simp only [List.mem_reverse, List.mem_map] at hc
    obtain ⟨d, hd, rfl⟩ := hc
    have := dig_dig (b := 10) (by omega) n d hd
    rw [dec_byte this]; omega

theorem decD_val (n : Nat) : dval (decD n) = n := by
  unfold decD
  split
  · rename_i h; subst h; rfl
  · unfold dval
    rw [List.reverse_reverse, dec_map_back (dig_dig (by omega) n), dig_vl (by omega)]

theorem decD_rt (n : Nat) : DecRt (decD n) := by
  refine ⟨decD_all n, ?_⟩
  unfold decD
  split
  · exact Or.inl rfl
  · rename_i hn
    right
    have ht := dig_tr (b := 10) (by omega) n
    have hd := dig_dig (b := 10) (by omega) n
    have hv := dig_vl (b := 10) (by omega) n
    have hl : 0 < (dig 10 n).length := by
      rcases Nat.eq_zero_or_pos (dig 10 n).length with h | h
      · rw [List.length_eq_zero_iff.1 h] at hv; simp at hv; omega
      · exact h
    have hs := split_last hl
    have h0 := ht.last hl
    have hx := hd.get (by omega) ((dig 10 n).length - 1)
    generalize (dig 10 n).getD ((dig 10 n).length - 1) 0 = x at *
    rw [hs, List.map_append, List.reverse_append]
    refine ⟨UInt8.ofNat (48 + x), _, rfl, ?_⟩
    intro e
    have := congrArg UInt8.toNat e
    rw [dec_byte hx] at this
    simp at this
    omega

theorem byte_of_digit {c d : UInt8} (hc : 48 ≤ c.toNat ∧ c.toNat ≤ 57) (hd : 48 ≤ d.toNat ∧ d.toNat ≤ 57) (h : c.toNat - 48 = d.toNat - 48) : c = d :=
  UInt8.toNat_inj.1 (by omega)

theorem map_back_inj : ∀ {s t : List UInt8}, AllDig s → AllDig t → s.map (fun c => c.toNat - 48) = t.map (fun c => c.toNat - 48) → s = t
  | [], [], _, _, _ => rfl
  | [], _ :: _, _, _, h => by simp at h
  | _ :: _, [], _, _, h => by simp at h
  | c :: s, d :: t, hs, ht, h => by
    simp only [List.map_cons, List.cons.injEq] at h
    rw [byte_of_digit (hs c (by simp)) (ht d (by simp)) h.1, map_back_inj (fun x hx => hs x (by simp [hx])) (fun x hx => ht x (by simp [hx])) h.2]

theorem DecRt.tr {s : List UInt8} (h : DecRt s) (h0 : s ≠ [48]) : Tr (s.reverse.map fun c => c.toNat - 48) := by
  rcases h.2 with h1 | ⟨c, t, rfl, hc⟩
  · exact absurd h1 h0
  · rw [List.reverse_cons, List.map_append]
    apply Tr.snoc
    intro e
    apply hc
    have := h.1 c (by simp)
    have e1 : c.toNat - 48 = 0 := e
    have e2 : c.toNat = 48 := by omega
    exact UInt8.toNat_inj.1 e2

/-- Written texts with one value are the same. -/
theorem dec_inj {s t : List UInt8} (hs : DecRt s) (ht : DecRt t) (hv : dval s = dval t) : s = t := by
  have zero : ∀ u : List UInt8, DecRt u → dval u = 0 → u = [48] := by
    intro u hu h0
    rcases hu.2 with h1 | ⟨c, r, rfl, hc⟩
    · exact h1
    · exfalso
      have htr := hu.tr (by intro e; simp at e; exact hc e.1)
      have h2 := htr.eq_nil (b := 10) (by omega) h0
      simp at h2
  by_cases h1 : s = [48]
  · subst h1
    exact (zero t ht (by rw [← hv]; rfl)).symm
  · by_cases h2 : t = [48]
    · subst h2
      exact zero s hs (by rw [hv]; rfl)
    · have h3 := tr_inj (b := 10) (by omega) hs.1.dig ht.1.dig (hs.tr h1) (ht.tr h2) hv
      have h4 := map_back_inj (s := s.reverse) (t := t.reverse) (fun c hc => hs.1 c (by simpa using hc)) (fun c hc => ht.1 c (by simpa using hc)) h3
      exact List.reverse_inj.1 h4

theorem decD_of {s : List UInt8} (h : DecRt s) : decD (dval s) = s := dec_inj (decD_rt _) h (decD_val _)

/-- The kit's decimal digits are ours. -/
theorem decDigits_rt (u : Nat) : DecRt (Lib.decDigits u) ∧ dval (Lib.decDigits u) = u := by
  induction u using Nat.strongRecOn with
  | _ u ih =>
    rw [Lib.decDigits]
    split
    · rename_i h
      refine ⟨⟨?_, ?_⟩, ?_⟩
      · intro c hc; simp only [List.mem_singleton] at hc; subst hc; rw [dec_byte h]; omega
      · rcases Nat.eq_zero_or_pos u with h0 | h0
        · subst h0; left; rfl
        · right
          refine ⟨_, [], rfl, ?_⟩
          intro e
          have := congrArg UInt8.toNat e
          rw [dec_byte h] at this
          simp at this
          omega
      · show (UInt8.ofNat (48 + u)).toNat - 48 + 10 * 0 = u
        rw [dec_byte h]; omega
    · rename_i h
      obtain ⟨⟨h1, h2⟩, h3⟩ := ih (u / 10) (by omega)
      have hm : u % 10 < 10 := Nat.mod_lt _ (by omega)
      refine ⟨⟨h1.append ?_, ?_⟩, ?_⟩
      · intro c hc; simp only [List.mem_singleton] at hc; subst hc; rw [dec_byte hm]; omega
      · right
        rcases h2 with h2 | ⟨c, t, h2, hc⟩
        · rw [h2] at h3
          have : dval [48] = 0 := rfl
          omega
        · exact ⟨c, t ++ [UInt8.ofNat (48 + u % 10)], by rw [h2]; rfl, hc⟩
      · rw [dval_append, h3]
        show u / 10 * 10 ^ 1 + ((UInt8.ofNat (48 + u % 10)).toNat - 48 + 10 * 0) = u
        rw [dec_byte hm]; omega

theorem decDigits_eq_decD (u : Nat) : Lib.decDigits u = decD u := by
  obtain ⟨h1, h2⟩ := decDigits_rt u
  have := decD_of h1
  rw [h2] at this
  exact this.symm

theorem itoa_nat (n : Nat) : Lib.itoa (n : Int) = decD n := by
  unfold Lib.itoa
  rw [if_neg (by omega), Int.toNat_natCast, decDigits_eq_decD]

theorem decD_length_pos (n : Nat) : 0 < (decD n).length := by
  rcases (decD_rt n).2 with h | ⟨c, t, h, _⟩ <;> rw [h] <;> simp

theorem decD_length_le {n k : Nat} (h : n < 10 ^ k) (hk : 1 ≤ k) : (decD n).length ≤ k := by
  by_cases h0 : n = 0
  · subst h0; simp [decD]; omega
  · unfold decD
    rw [if_neg h0]
    simp only [List.length_reverse, List.length_map]
    have hv := dig_vl (b := 10) (by omega) n
    have ht := dig_tr (b := 10) (by omega) n
    rcases Nat.lt_or_ge k (dig 10 n).length with h1 | h1
    · have := ht.ge (b := 10) (by omega)
      have h2 : 10 ^ k ≤ 10 ^ ((dig 10 n).length - 1) := Nat.pow_le_pow_right (by omega) (by omega)
      omega
    · exact h1

/-- Zeros in front, up to nine digits. -/
theorem repeat_zero (k : Nat) : AllDig (Lib.repeatL [48] k) ∧ dval (Lib.repeatL [48] k) = 0 ∧ (Lib.repeatL [48] k).length = k := by
  induction k with
  | zero => exact ⟨AllDig.nil, rfl, rfl⟩
  | succ k ih =>
    obtain ⟨h1, h2, h3⟩ := ih
    show AllDig ([48] ++ _) ∧ dval ([48] ++ _) = 0 ∧ ([48] ++ _).length = k + 1
    refine ⟨AllDig.append (by intro c hc; simp at hc; subst hc; decide) h1, ?_, by simp [h3]⟩
    rw [dval_append, h2, show dval [48] = 0 from rfl, Nat.zero_mul]

theorem decRt_append {s t : List UInt8} (hs : DecRt s) (ht : AllDig t) (h : s = [48] → t = []) : DecRt (s ++ t) := by
  refine ⟨hs.1.append ht, ?_⟩
  rcases hs.2 with h1 | ⟨c, r, h1, hc⟩
  · left; rw [h h1, h1]; rfl
  · right; exact ⟨c, r ++ t, by rw [h1]; rfl, hc⟩

theorem decD_eq_zero {n : Nat} (h : decD n = [48]) : n = 0 := by
  have := decD_val n
  rw [h] at this
  exact this.symm

/-- The last part of a text: what came before was not empty. -/
theorem text_last {V g k : Nat} {out : List UInt8} (hv : V = g * 10 ^ (9 * k) + dval out) (ha : AllDig out) (hs : out.length = 9 * k) (h0 : k = 0 ∨ g ≠ 0) : decD g ++ out = decD V := by
  have hrt : DecRt (decD g ++ out) := decRt_append (decD_rt g) ha fun h => by
    have hg := decD_eq_zero h
    rcases h0 with h0 | h0
    · exact List.length_eq_zero_iff.1 (by omega)
    · exact absurd hg h0
  refine dec_inj hrt (decD_rt V) ?_
  rw [dval_append, decD_val, decD_val, hs, hv]

/-- A part in the middle of a text. -/
theorem text_mid {V g k r q : Nat} {out : List UInt8} (hv : V = g * 10 ^ (9 * k) + dval out) (ha : AllDig out) (hs : out.length = 9 * k) (hr : g % 1000000000 = r) (hq : q = g / 1000000000) (hl : (decD r).length ≤ 9) :
    V = q * 10 ^ (9 * (k + 1)) + dval (Lib.repeatL [48] (9 - (decD r).length) ++ decD r ++ out) ∧ AllDig (Lib.repeatL [48] (9 - (decD r).length) ++ decD r ++ out) ∧
      (Lib.repeatL [48] (9 - (decD r).length) ++ decD r ++ out).length = 9 * (k + 1) := by
  obtain ⟨h1, h2, h3⟩ := repeat_zero (9 - (decD r).length)
  refine ⟨?_, (h1.append (decD_all r)).append ha, by simp [h3, hs]; omega⟩
  rw [dval_append, dval_append, h2, decD_val, hs, Nat.zero_mul, Nat.zero_add, hv, Nat.mul_add, Nat.pow_add]
  have h4 := Nat.div_add_mod g 1000000000
  rw [hr, ← hq] at h4
  have e : (10 : Nat) ^ (9 * 1) = 1000000000 := by decide
  rw [e]
  generalize 10 ^ (9 * k) = P
  rw [← h4]
  grind

/-- How many parts there are. -/
theorem text_parts {V g k S : Nat} {out : List UInt8} (hv : V = g * 10 ^ (9 * k) + dval out) (h0 : k = 0 ∨ g ≠ 0) (hV : V < 256 ^ S) : 9 * k ≤ 3 * S := by
  rcases h0 with h0 | h0
  · omega
  · have h1 : 10 ^ (9 * k) ≤ g * 10 ^ (9 * k) := Nat.le_mul_of_pos_left _ (by omega)
    have h2 : (8 : Nat) ^ (9 * k) ≤ 10 ^ (9 * k) := Nat.pow_le_pow_left (by omega) _
    have e1 : (8 : Nat) ^ (9 * k) = 2 ^ (27 * k) := by rw [show (8 : Nat) = 2 ^ 3 by decide, ← Nat.pow_mul]; congr 1; omega
    have e2 : (256 : Nat) ^ S = 2 ^ (8 * S) := by rw [show (256 : Nat) = 2 ^ 8 by decide, ← Nat.pow_mul]
    have h3 : (2 : Nat) ^ (27 * k) < 2 ^ (8 * S) := by omega
    have := (Nat.pow_lt_pow_iff_right (by omega)).1 h3
    omega

theorem dval_cons (c : UInt8) (t : List UInt8) : dval (c :: t) = (c.toNat - 48) * 10 ^ t.length + dval t := by
  have := dval_append [c] t
  simpa [dval] using this

theorem decFrom_digits : ∀ (s : List UInt8) (acc : Nat), AllDig s → Lib.decFrom acc s = some (acc * 10 ^ s.length + dval s)
  | [], acc, _ => by simp [Lib.decFrom]
  | c :: s, acc, h => by
    have hc := h c (by simp)
    have ih := decFrom_digits s (acc * 10 + (c.toNat - 48)) fun x hx => h x (by simp [hx])
    unfold Lib.decFrom
    have hd : Lib.digitVal c = some (c.toNat - 48) := by unfold Lib.digitVal; rw [if_pos hc]
    rw [hd]
    simp only []
    rw [ih, dval_cons, List.length_cons, Nat.pow_succ]
    congr 1
    generalize 10 ^ s.length = P
    generalize c.toNat - 48 = d
    grind

/-- The library's reading of digits. -/
theorem atoi_digits {s : List UInt8} (h : AllDig s) (h0 : s ≠ []) : Lib.atoi s = some ((dval s : Nat) : Int) := by
  cases s with
  | nil => exact absurd rfl h0
  | cons c s =>
    have hc := h c (by simp)
    have h1 : (c == 45) = false := by rw [beq_eq_false_iff_ne]; intro e; subst e; simp at hc
    have h2 : (c == 43) = false := by rw [beq_eq_false_iff_ne]; intro e; subst e; simp at hc
    unfold Lib.atoi
    simp only [h1, h2, Bool.false_eq_true, if_false]
    unfold Lib.decNat
    rw [if_neg (by simp), decFrom_digits _ _ h]
    simp

/-- The string of a number in decimal. -/
def DecS (n : Nat) : ByteArray := ⟨(decD n).toArray⟩

end Num
end Go.Proofs.YtolmjeglaolhlaaGreatDoor

/- Plain facts about rational numbers with a sign, a numerator and a denominator. No program in sight. -/
namespace Go.Proofs.YtolmjeglaolhlaaGreatDoor
namespace Num

/-- An int by its sign and its absolute value. -/
def sgn (b : Bool) (n : Nat) : Int := if b then -(n : Int) else (n : Int)

theorem sgn_abs (b : Bool) (n : Nat) : (sgn b n).natAbs = n := by cases b <;> simp [sgn]
theorem sgn_self (z : Int) : sgn (decide (z < 0)) z.natAbs = z := by
  by_cases h : z < 0
  · simp only [sgn, h, decide_true, if_true]; omega
  · simp only [sgn, h, decide_false]; simp; omega
theorem sgn_neg (b : Bool) (n : Nat) : decide (sgn b n < 0) = (b && decide (n ≠ 0)) := by
  cases b
  · simp [sgn]
  · simp only [sgn, if_true, Bool.true_and]; congr 1; apply propext; omega
theorem sgn_zero (b : Bool) : sgn b 0 = 0 := by cases b <;> rfl
theorem sgn_mul (s t : Bool) (a b : Nat) : sgn s a * sgn t b = sgn (s != t) (a * b) := by
  cases s <;> cases t <;> simp [sgn, Int.neg_mul, Int.mul_neg]
theorem sgn_mul_nat (s : Bool) (a d : Nat) : sgn s a * (d : Int) = sgn s (a * d) := by cases s <;> simp [sgn, Int.neg_mul]
theorem sgn_add (s : Bool) (a b : Nat) : sgn s a + sgn s b = sgn s (a + b) := by cases s <;> simp [sgn]; omega
theorem sgn_sub (s t : Bool) (h : s ≠ t) (a b : Nat) (hle : b ≤ a) : sgn s a + sgn t b = sgn s (a - b) := by
  cases s <;> cases t <;> simp [sgn] at * <;> omega
theorem sgn_sub' (s t : Bool) (h : s ≠ t) (a b : Nat) (hle : a ≤ b) : sgn s a + sgn t b = sgn t (b - a) := by
  cases s <;> cases t <;> simp [sgn] at * <;> omega
theorem sgn_flip (s : Bool) (a : Nat) : -sgn s a = sgn (!s) a := by cases s <;> simp [sgn]

/-- The number with a sign, a numerator and a denominator. -/
def low (b : Bool) (n d : Nat) : Rat := mkRat (sgn b n) d

theorem low_zero (b : Bool) (d : Nat) : low b 0 d = 0 := by unfold low; rw [sgn_zero, Rat.zero_mkRat]
theorem low_den (b : Bool) (n : Nat) {d : Nat} (h : d ≠ 0) : (low b n d).den = d / Nat.gcd n d := by
  unfold low; rw [Rat.den_mkRat, if_neg h, sgn_abs, Nat.gcd_comm]
theorem low_num (b : Bool) (n : Nat) {d : Nat} (h : d ≠ 0) : (low b n d).num = sgn b (n / Nat.gcd n d) := by
  unfold low
  rw [Rat.num_mkRat, if_neg h, sgn_abs, Nat.gcd_comm]
  cases b
  · simp [sgn]
  · simp only [sgn, if_true]
    rw [Int.neg_ediv_of_dvd (Int.natCast_dvd_natCast.2 (Nat.gcd_dvd_left _ _))]
    simp
theorem low_abs (b : Bool) (n : Nat) {d : Nat} (h : d ≠ 0) : (low b n d).num.natAbs = n / Nat.gcd n d := by rw [low_num b n h, sgn_abs]
theorem low_neg (b : Bool) (n : Nat) {d : Nat} (h : d ≠ 0) : decide ((low b n d).num < 0) = (b && decide (n / Nat.gcd n d ≠ 0)) := by rw [low_num b n h, sgn_neg]
theorem low_neg' (b : Bool) (n : Nat) {d : Nat} (h : d ≠ 0) : decide ((low b n d).num < 0) = (b && decide (n ≠ 0)) := by
  rw [low_neg b n h]
  congr 2
  apply propext
  have hg : Nat.gcd n d ∣ n := Nat.gcd_dvd_left n d
  obtain ⟨c, hc⟩ := hg
  have hp : 0 < Nat.gcd n d := Nat.gcd_pos_of_pos_right _ (Nat.pos_of_ne_zero h)
  constructor
  · intro h1 h2; apply h1; rw [h2]; simp
  · intro h1 h2
    apply h1
    rw [Nat.div_eq_zero_iff] at h2
    rcases h2 with h2 | h2
    · omega
    · rcases Nat.eq_zero_or_pos c with h3 | h3
      · rw [hc, h3, Nat.mul_zero]
      · have := Nat.mul_le_mul (Nat.le_refl (Nat.gcd n d)) h3
        omega
theorem low_self (q : Rat) : low (decide (q.num < 0)) q.num.natAbs q.den = q := by
  unfold low; rw [sgn_self, Rat.mkRat_self]

/-- The parts of the result of an operation. -/
theorem low_add {p q : Rat} (h : decide (p.num < 0) = decide (q.num < 0)) :
    low (decide (p.num < 0)) (p.num.natAbs * q.den + q.num.natAbs * p.den) (p.den * q.den) = p + q := by
  rw [Rat.add_def', low, ← sgn_add, ← sgn_mul_nat, ← sgn_mul_nat, sgn_self, h, sgn_self]
theorem low_sub {p q : Rat} (h : decide (p.num < 0) ≠ decide (q.num < 0)) (hle : q.num.natAbs * p.den ≤ p.num.natAbs * q.den) :
    low (decide (p.num < 0)) (p.num.natAbs * q.den - q.num.natAbs * p.den) (p.den * q.den) = p + q := by
  rw [Rat.add_def', low, ← sgn_sub _ _ h _ _ hle, ← sgn_mul_nat, ← sgn_mul_nat, sgn_self, sgn_self]
theorem low_sub' {p q : Rat} (h : decide (p.num < 0) ≠ decide (q.num < 0)) (hle : p.num.natAbs * q.den ≤ q.num.natAbs * p.den) :
    low (decide (q.num < 0)) (q.num.natAbs * p.den - p.num.natAbs * q.den) (p.den * q.den) = p + q := by
  rw [Rat.add_def', low, ← sgn_sub' _ _ h _ _ hle, ← sgn_mul_nat, ← sgn_mul_nat, sgn_self, sgn_self]
theorem low_mul (p q : Rat) : low (decide (p.num < 0) != decide (q.num < 0)) (p.num.natAbs * q.num.natAbs) (p.den * q.den) = p * q := by
  rw [Rat.mul_def', low, ← sgn_mul, sgn_self, sgn_self]
theorem low_quo {p q : Rat} (_h : q ≠ 0) : low (decide (p.num < 0) != decide (q.num < 0)) (p.num.natAbs * q.den) (p.den * q.num.natAbs) = p / q := by
  rw [Rat.div_def, Rat.inv_def, low]
  have e : p * Rat.divInt q.den q.num = Rat.divInt (p.num * q.den) (p.den * q.num) := by
    rw [← Rat.divInt_mul_divInt, Rat.num_divInt_den]
  rw [e, ← sgn_mul_nat]
  have h2 := sgn_self q.num
  have h3 := sgn_self p.num
  generalize decide (q.num < 0) = t at *
  generalize decide (p.num < 0) = s at *
  generalize q.num.natAbs = b at *
  generalize p.num.natAbs = a at *
  rw [← h2, ← h3]
  cases t
  · rw [show sgn false b = (b : Int) from rfl, ← Int.natCast_mul, Rat.divInt_ofNat, Bool.bne_false]
  · rw [show sgn true b = -(b : Int) from rfl, Int.mul_neg, Rat.divInt_neg', ← Int.natCast_mul, Rat.divInt_ofNat, ← Int.neg_mul, sgn_flip, Bool.bne_true]
theorem num_neg (q : Rat) : (-q).num.natAbs = q.num.natAbs ∧ (-q).den = q.den := by simp
theorem neg_neg' (q : Rat) : decide ((-q).num < 0) = (!decide (q.num < 0) && decide (q.num.natAbs ≠ 0)) := by
  rw [Rat.neg_num]
  by_cases h : q.num < 0
  · simp [h]; omega
  · have e1 : decide (q.num < 0) = false := decide_eq_false h
    rw [e1, Bool.not_false, Bool.true_and]
    congr 1
    apply propext
    omega

/-- The sign of a number. -/
def signZ (q : Rat) : Int := if q = 0 then 0 else if q.num < 0 then -1 else 1
/-- How two numbers compare. -/
def cmpR (p q : Rat) : Int := signZ (p - q)

theorem signZ_eq (q : Rat) : signZ q = q.num.sign := by
  unfold signZ
  by_cases h : q = 0
  · rw [if_pos h, h]; rfl
  · rw [if_neg h]
    have h0 : q.num ≠ 0 := fun e => h (Rat.num_eq_zero.1 e)
    by_cases h1 : q.num < 0
    · rw [if_pos h1, Int.sign_eq_neg_one_of_neg h1]
    · rw [if_neg h1, Int.sign_eq_one_of_pos (by omega)]
theorem signZ_neg (q : Rat) : signZ (-q) = -signZ q := by rw [signZ_eq, signZ_eq, Rat.neg_num, Int.sign_neg]
theorem signZ_mul (p q : Rat) : signZ (p * q) = signZ p * signZ q := by
  rw [signZ_eq, signZ_eq, signZ_eq]
  by_cases h : p * q = 0
  · rcases Rat.mul_eq_zero.1 h with h1 | h1 <;> simp [h1]
  · have hp : p ≠ 0 := fun e => h (by rw [e, Rat.zero_mul])
    have hq : q ≠ 0 := fun e => h (by rw [e, Rat.mul_zero])
    rw [← Int.sign_mul]
    have e : (p * q).num * ((p.num.natAbs * q.num.natAbs).gcd (p.den * q.den) : Nat) = p.num * q.num := by
      have := low_num (decide (p.num < 0) != decide (q.num < 0)) (p.num.natAbs * q.num.natAbs) (Nat.mul_ne_zero p.den_nz q.den_nz)
      rw [low_mul] at this
      rw [this, sgn_mul_nat, Nat.div_mul_cancel (Nat.gcd_dvd_left _ _), ← sgn_mul, sgn_self, sgn_self]
    rw [← e, Int.sign_mul]
    have hg : 0 < (p.num.natAbs * q.num.natAbs).gcd (p.den * q.den) := Nat.gcd_pos_of_pos_right _ (Nat.mul_pos p.den_pos q.den_pos)
    rw [Int.sign_natCast_of_ne_zero (by omega), Int.mul_one]
theorem signZ_pos {q : Rat} : 0 < signZ q ↔ 0 < q := by
  rw [signZ_eq, Rat.lt_iff]
  simp
theorem signZ_zero {q : Rat} : signZ q = 0 ↔ q = 0 := by
  rw [signZ_eq]; simp [Rat.num_eq_zero]
theorem signZ_cases (q : Rat) : signZ q = 0 ∨ signZ q = 1 ∨ signZ q = -1 := by unfold signZ; split <;> (try split) <;> simp

/-- How long the parts of a number are. -/
def Sz (k : Nat) (q : Rat) : Prop := q.num.natAbs < 256 ^ k ∧ q.den < 256 ^ k

theorem mkRat_le (z : Int) {d : Nat} (h : d ≠ 0) : (mkRat z d).num.natAbs ≤ z.natAbs ∧ (mkRat z d).den ≤ d := by
  have e : mkRat z d = low (decide (z < 0)) z.natAbs d := by rw [low, sgn_self]
  rw [e, low_abs _ _ h, low_den _ _ h]
  exact ⟨Nat.div_le_self _ _, Nat.div_le_self _ _⟩
theorem low_le (b : Bool) (n : Nat) {d : Nat} (h : d ≠ 0) : (low b n d).num.natAbs ≤ n ∧ (low b n d).den ≤ d := by
  rw [low_abs _ _ h, low_den _ _ h]
  exact ⟨Nat.div_le_self _ _, Nat.div_le_self _ _⟩
theorem Sz.mono {k m : Nat} {q : Rat} (h : Sz k q) (hk : k ≤ m) : Sz m q :=
  ⟨Nat.lt_of_lt_of_le h.1 (Nat.pow_le_pow_right (by decide) hk), Nat.lt_of_lt_of_le h.2 (Nat.pow_le_pow_right (by decide) hk)⟩
theorem Sz.zero : Sz 1 0 := ⟨by decide, by decide⟩
theorem Sz.low {b : Bool} {n d k : Nat} (h : d ≠ 0) (hn : n < 256 ^ k) (hd : d < 256 ^ k) : Sz k (low b n d) :=
  ⟨Nat.lt_of_le_of_lt (low_le b n h).1 hn, Nat.lt_of_le_of_lt (low_le b n h).2 hd⟩
theorem mul_lt_pow {a b k m : Nat} (h : a < 256 ^ k) (g : b < 256 ^ m) : a * b < 256 ^ (k + m) := by
  rw [Nat.pow_add]
  rcases Nat.eq_zero_or_pos b with h0 | h0
  · rw [h0, Nat.mul_zero]; exact Nat.mul_pos (Nat.pow_pos (by decide)) (Nat.pow_pos (by decide))
  · exact Nat.mul_lt_mul_of_lt_of_le h (Nat.le_of_lt g) (Nat.pow_pos (by decide))
theorem add_lt_pow {a b k : Nat} (h : a < 256 ^ k) (g : b < 256 ^ k) : a + b < 256 ^ (k + 1) := by rw [Nat.pow_succ]; omega
theorem Sz.add {k m : Nat} {p q : Rat} (h : Sz k p) (g : Sz m q) : Sz (k + m + 1) (p + q) := by
  have hd : p.den * q.den ≠ 0 := Nat.mul_ne_zero p.den_nz q.den_nz
  have h1 := mkRat_le (p.num * q.den + q.num * p.den) hd
  rw [Rat.add_def']
  have h2 : p.num.natAbs * q.den < 256 ^ (k + m) := mul_lt_pow h.1 g.2
  have h3 : q.num.natAbs * p.den < 256 ^ (k + m) := by rw [Nat.add_comm k m]; exact mul_lt_pow g.1 h.2
  have h4 : (p.num * q.den + q.num * p.den).natAbs ≤ p.num.natAbs * q.den + q.num.natAbs * p.den := by
    refine Nat.le_trans (Int.natAbs_add_le _ _) ?_
    rw [Int.natAbs_mul, Int.natAbs_mul, Int.natAbs_natCast, Int.natAbs_natCast]
    exact Nat.le_refl _
  refine ⟨Nat.lt_of_le_of_lt (Nat.le_trans h1.1 h4) (add_lt_pow h2 h3), Nat.lt_of_le_of_lt h1.2 ?_⟩
  exact Nat.lt_trans (mul_lt_pow h.2 g.2) (Nat.pow_lt_pow_right (by decide) (by omega))
theorem Sz.mul {k m : Nat} {p q : Rat} (h : Sz k p) (g : Sz m q) : Sz (k + m) (p * q) := by
  have hd : p.den * q.den ≠ 0 := Nat.mul_ne_zero p.den_nz q.den_nz
  have h1 := mkRat_le (p.num * q.num) hd
  rw [Rat.mul_def']
  rw [Int.natAbs_mul] at h1
  exact ⟨Nat.lt_of_le_of_lt h1.1 (mul_lt_pow h.1 g.1), Nat.lt_of_le_of_lt h1.2 (mul_lt_pow h.2 g.2)⟩
theorem Sz.neg {k : Nat} {q : Rat} (h : Sz k q) : Sz k (-q) := by
  refine ⟨?_, ?_⟩
  · rw [(num_neg q).1]; exact h.1
  · rw [(num_neg q).2]; exact h.2
theorem Sz.sub {k m : Nat} {p q : Rat} (h : Sz k p) (g : Sz m q) : Sz (k + m + 1) (p - q) := by rw [Rat.sub_eq_add_neg]; exact h.add g.neg
theorem Sz.quo {k m : Nat} {p q : Rat} (h : Sz k p) (g : Sz m q) (hq : q ≠ 0) : Sz (k + m) (p / q) := by
  have h0 : q.num.natAbs ≠ 0 := by rw [Int.natAbs_ne_zero]; exact fun e => hq (Rat.num_eq_zero.1 e)
  rw [← low_quo hq]
  exact Sz.low (Nat.mul_ne_zero p.den_nz h0) (mul_lt_pow h.1 g.2) (mul_lt_pow h.2 g.1)

end Num
end Go.Proofs.YtolmjeglaolhlaaGreatDoor

/- Fermat's little theorem for the prime number of the program, by generators of the groups of a chain of primes. No program in sight. -/
namespace Go.Proofs.YtolmjeglaolhlaaGreatDoor
namespace Num

/-- Powers by squaring. -/
def pm (n : Nat) : Nat → Nat → Nat → Nat
  | 0, _, _ => 1 % n
  | f + 1, g, e => cond (Nat.beq e 0) (1 % n) (cond (Nat.beq (e % 2) 0) (pm n f (g * g % n) (e / 2)) (g * pm n f (g * g % n) (e / 2) % n))

theorem pm_eq (n : Nat) : ∀ f g e, e < 2 ^ f → pm n f g e = g ^ e % n
  | 0, g, e, h => by
    obtain rfl : e = 0 := by simpa using h
    simp [pm]
  | f + 1, g, e, h => by
    have ih := pm_eq n f (g * g % n) (e / 2) (by rw [Nat.pow_succ] at h; omega)
    have e1 : g ^ e = (g * g) ^ (e / 2) * g ^ (e % 2) := by
      rw [← Nat.pow_two, ← Nat.pow_mul, ← Nat.pow_add, Nat.div_add_mod]
    rw [pm, ih, ← Nat.pow_mod]
    rcases Nat.eq_zero_or_pos e with h0 | h0
    · subst h0; simp
    · have hb : Nat.beq e 0 = false := by cases e with
        | zero => omega
        | succ k => rfl
      rw [hb, cond_false]
      rcases Nat.mod_two_eq_zero_or_one e with h2 | h2
      · rw [h2] at e1 ⊢
        rw [e1]; simp
      · rw [h2] at e1 ⊢
        rw [e1, show Nat.beq 1 0 = false from rfl, cond_false, Nat.pow_one, Nat.mul_mod_mod, Nat.mul_comm]

/-- A prime number. -/
def Pr (n : Nat) : Prop := 1 < n ∧ ∀ d, d ∣ n → d = 1 ∨ d = n

/-- An injective map of the first numbers meets them all. -/
theorem pigeon : ∀ (N : Nat) (f : Nat → Nat), (∀ i, i < N → f i < N) → (∀ i j, i < N → j < N → f i = f j → i = j) → ∀ y, y < N → ∃ i, i < N ∧ f i = y
  | 0, _, _, _, _, h => by omega
  | N + 1, f, hf, hi, y, hy => by
    have ih := pigeon N (fun i => if f i = N then f N else f i)
      (fun i h => by
        have h1 := hf i (by omega)
        have h2 := hf N (by omega)
        show (if f i = N then f N else f i) < N
        split
        · rename_i h3
          rcases Nat.lt_or_ge (f N) N with h4 | h4
          · exact h4
          · have := hi i N (by omega) (by omega) (by omega); omega
        · omega)
      (fun i j h1 h2 he => by
        have he' : (if f i = N then f N else f i) = (if f j = N then f N else f j) := he
        split at he' <;> split at he'
        · exact hi i j (by omega) (by omega) (by omega)
        · have := hi N j (by omega) (by omega) he'; omega
        · have := hi i N (by omega) (by omega) he'; omega
        · exact hi i j (by omega) (by omega) he')
    by_cases hN : f N = y
    · exact ⟨N, by omega, hN⟩
    · rcases Nat.lt_or_ge y N with h | h
      · obtain ⟨i, h1, h2⟩ := ih y h
        have h3 : (if f i = N then f N else f i) = y := h2
        split at h3
        · exact absurd h3 hN
        · exact ⟨i, by omega, h3⟩
      · obtain rfl : y = N := by omega
        have h4 := hf y (by omega)
        obtain ⟨i, h1, h2⟩ := ih (f y) (by omega)
        have h3 : (if f i = y then f y else f i) = f y := h2
        split at h3
        · rename_i h5; exact ⟨i, by omega, h5⟩
        · have := hi i y (by omega) (by omega) h3; omega

theorem pow_one_mul {n g a : Nat} (hn : 1 < n) (h : g ^ a % n = 1) (c : Nat) : g ^ (a * c) % n = 1 := by
  rw [Nat.pow_mul, Nat.pow_mod, h, Nat.one_pow, Nat.mod_eq_of_lt hn]

theorem pow_one_gcd {n g : Nat} (hn : 1 < n) : ∀ a b, g ^ a % n = 1 → g ^ b % n = 1 → g ^ Nat.gcd a b % n = 1 := by
  intro a b
  refine Nat.gcd.induction (P := fun a b => g ^ a % n = 1 → g ^ b % n = 1 → g ^ Nat.gcd a b % n = 1) a b ?_ ?_
  · intro m _ h; rwa [Nat.gcd_zero_left]
  · intro a b _ ih h1 h2
    rw [Nat.gcd_rec]
    refine ih ?_ h1
    have e : g ^ b = g ^ (a * (b / a)) * g ^ (b % a) := by rw [← Nat.pow_add, Nat.div_add_mod]
    rw [e, Nat.mul_mod, pow_one_mul hn h1, Nat.one_mul, Nat.mod_mod] at h2
    exact h2

def lprod (l : List Nat) : Nat := l.foldr (· * ·) 1

theorem Pr.coprime {q e : Nat} (h : Pr q) (hn : ¬ q ∣ e) : Nat.Coprime e q := by
  rcases h.2 (Nat.gcd e q) (Nat.gcd_dvd_right e q) with h1 | h1
  · exact h1
  · exact absurd (h1 ▸ Nat.gcd_dvd_left e q) hn

theorem factor_in : ∀ (l : List Nat), (∀ q, q ∈ l → Pr q) → ∀ e, 1 < e → e ∣ lprod l → ∃ q, q ∈ l ∧ q ∣ e
  | [], _, e, h, hd => by
    have : e = 1 := Nat.dvd_one.1 hd
    omega
  | q :: l, hp, e, h, hd => by
    by_cases hq : q ∣ e
    · exact ⟨q, by simp, hq⟩
    · have hc := (hp q (by simp)).coprime hq
      obtain ⟨r, h1, h2⟩ := factor_in l (fun r hr => hp r (by simp [hr])) e h (hc.dvd_of_dvd_mul_left hd)
      exact ⟨r, by simp [h1], h2⟩

/-- A generator of all numbers below n but 0. -/
theorem gen_all {n g : Nat} (hn : 1 < n) (h1 : g ^ (n - 1) % n = 1) (l : List Nat) (hl : lprod l = n - 1) (hp : ∀ q, q ∈ l → Pr q) (hne : ∀ q, q ∈ l → g ^ ((n - 1) / q) % n ≠ 1) :
    ∀ x, 0 < x → x < n → ∃ k, g ^ k % n = x := by
  have hA : ∀ k, 0 < k → k < n - 1 → g ^ k % n ≠ 1 := by
    intro k h0 hk h
    have hd := pow_one_gcd hn _ _ h h1
    have hdn : Nat.gcd k (n - 1) ∣ n - 1 := Nat.gcd_dvd_right _ _
    have hdk := Nat.le_of_dvd h0 (Nat.gcd_dvd_left k (n - 1))
    have hdp := Nat.gcd_pos_of_pos_left (n - 1) h0
    generalize Nat.gcd k (n - 1) = d at *
    obtain ⟨e, he⟩ := hdn
    have he1 : 1 < e := by
      rcases Nat.lt_or_ge 1 e with h2 | h2
      · exact h2
      · have : d * e ≤ d * 1 := Nat.mul_le_mul (Nat.le_refl d) h2
        omega
    obtain ⟨q, hq, c, hc⟩ := factor_in l hp e he1 (by rw [hl, he]; exact Nat.dvd_mul_left e d)
    refine hne q hq ?_
    have hq0 : 0 < q := by have := (hp q hq).1; omega
    rw [he, hc, show d * (q * c) = q * (d * c) by rw [Nat.mul_left_comm], Nat.mul_div_cancel_left _ hq0]
    exact pow_one_mul hn hd c
  have hcop : Nat.Coprime g n := by
    have h2 : Nat.gcd g n ∣ g ^ (n - 1) := by
      obtain ⟨m, hm⟩ : ∃ m, n - 1 = m + 1 := ⟨n - 2, by omega⟩
      rw [hm, Nat.pow_succ]
      exact Nat.dvd_trans (Nat.gcd_dvd_left g n) (Nat.dvd_mul_left g _)
    have h3 : Nat.gcd g n ∣ g ^ (n - 1) % n := (Nat.dvd_mod_iff (Nat.gcd_dvd_right g n)).2 h2
    rw [h1] at h3
    exact Nat.dvd_one.1 h3
  have hpos : ∀ k, 0 < g ^ k % n := by
    intro k
    rcases Nat.eq_zero_or_pos (g ^ k % n) with h | h
    · have h2 : n ∣ g ^ k := Nat.dvd_of_mod_eq_zero h
      have h3 : Nat.Coprime (g ^ k) n := Nat.Coprime.pow_left k hcop
      have h4 : n ∣ Nat.gcd (g ^ k) n := Nat.dvd_gcd h2 (Nat.dvd_refl n)
      rw [show Nat.gcd (g ^ k) n = 1 from h3] at h4
      have := Nat.dvd_one.1 h4
      omega
    · exact h
  have hinj : ∀ i j, i ≤ j → j < n - 1 → g ^ i % n = g ^ j % n → i = j := by
    intro i j hij hj he
    rcases Nat.lt_or_ge i j with h | h
    · exfalso
      refine hA (j - i) (by omega) (by omega) ?_
      have h2 : (1 * g ^ i) % n = (g ^ (j - i) * g ^ i) % n := by
        rw [Nat.one_mul, ← Nat.pow_add, he, show j - i + i = j by omega]
      have h3 := cancel_mod (Nat.Coprime.pow_left i hcop) h2
      rw [← h3, Nat.mod_eq_of_lt hn]
    · omega
  intro x hx0 hx
  obtain ⟨k, _, hk⟩ := pigeon (n - 1) (fun k => g ^ k % n - 1)
    (fun i _ => by have h1 := hpos i; have h2 := Nat.mod_lt (g ^ i) (show 0 < n by omega); show g ^ i % n - 1 < n - 1; omega)
    (fun i j hi hj he => by
      have he' : g ^ i % n - 1 = g ^ j % n - 1 := he
      have h1 := hpos i; have h2 := hpos j
      rcases Nat.le_total i j with h | h
      · exact hinj i j h hj (by omega)
      · exact (hinj j i h hi (by omega)).symm)
    (x - 1) (by omega)
  exact ⟨k, by have hk' : g ^ k % n - 1 = x - 1 := hk; have := hpos k; omega⟩

theorem gen_fermat {n g : Nat} (hn : 1 < n) (h1 : g ^ (n - 1) % n = 1) (l : List Nat) (hl : lprod l = n - 1) (hp : ∀ q, q ∈ l → Pr q) (hne : ∀ q, q ∈ l → g ^ ((n - 1) / q) % n ≠ 1)
    (x : Nat) (hx : x % n ≠ 0) : x ^ (n - 1) % n = 1 := by
  obtain ⟨k, hk⟩ := gen_all hn h1 l hl hp hne (x % n) (by omega) (Nat.mod_lt _ (by omega))
  rw [Nat.pow_mod, ← hk, ← Nat.pow_mod, ← Nat.pow_mul, Nat.mul_comm]
  exact pow_one_mul hn h1 k

theorem gen_prime {n g : Nat} (hn : 1 < n) (h1 : g ^ (n - 1) % n = 1) (l : List Nat) (hl : lprod l = n - 1) (hp : ∀ q, q ∈ l → Pr q) (hne : ∀ q, q ∈ l → g ^ ((n - 1) / q) % n ≠ 1) : Pr n := by
  refine ⟨hn, fun d hd => ?_⟩
  rcases Nat.lt_or_ge d n with h | h
  · left
    have hd0 : 0 < d := Nat.pos_of_dvd_of_pos hd (by omega)
    have h2 := gen_fermat hn h1 l hl hp hne d (by rw [Nat.mod_eq_of_lt h]; omega)
    have h3 : d ∣ d ^ (n - 1) % n := (Nat.dvd_mod_iff hd).2 (by
      obtain ⟨m, hm⟩ : ∃ m, n - 1 = m + 1 := ⟨n - 2, by omega⟩
      rw [hm, Nat.pow_succ]
      exact Nat.dvd_mul_left d _)
    rw [h2] at h3
    exact Nat.dvd_one.1 h3
  · right
    exact Nat.le_antisymm (Nat.le_of_dvd (by omega) hd) h

/-- No odd number from 2 lo + 3 on, of 2^f numbers, divides n. -/
def noOdd (n : Nat) : Nat → Nat → Bool
  | 0, lo => !Nat.beq (n % (2 * lo + 3)) 0
  | f + 1, lo => noOdd n f lo && noOdd n f (lo + 2 ^ f)

theorem noOdd_spec (n : Nat) : ∀ f lo, noOdd n f lo = true → ∀ i, lo ≤ i → i < lo + 2 ^ f → n % (2 * i + 3) ≠ 0
  | 0, lo, h, i, h1, h2 => by
    obtain rfl : i = lo := by simp at h2; omega
    intro e
    rw [noOdd, e] at h
    cases h
  | f + 1, lo, h, i, h1, h2 => by
    rw [noOdd, Bool.and_eq_true] at h
    rcases Nat.lt_or_ge i (lo + 2 ^ f) with h3 | h3
    · exact noOdd_spec n f lo h.1 i h1 h3
    · exact noOdd_spec n f (lo + 2 ^ f) h.2 i h3 (by rw [Nat.pow_succ] at h2; omega)

theorem trial_prime {n : Nat} (f : Nat) (hn : 1 < n) (ho : n % 2 = 1) (h : noOdd n f 0 = true) (hs : n < (2 * 2 ^ f + 3) * (2 * 2 ^ f + 3)) : Pr n := by
  have key : ∀ d, d ∣ n → d * d ≤ n → d = 1 := by
    intro d hd hle
    have hd0 : 0 < d := Nat.pos_of_dvd_of_pos hd (by omega)
    have hdo : d % 2 = 1 := by
      obtain ⟨c, rfl⟩ := hd
      rcases Nat.mod_two_eq_zero_or_one d with h2 | h2
      · rw [Nat.mul_mod, h2] at ho; simp at ho
      · exact h2
    rcases Nat.lt_or_ge 1 d with h1 | h1
    · exfalso
      have hlt : d < 2 * 2 ^ f + 3 := by
        rcases Nat.lt_or_ge d (2 * 2 ^ f + 3) with h3 | h3
        · exact h3
        · have := Nat.mul_le_mul h3 h3; omega
      have h4 := noOdd_spec n f 0 h ((d - 3) / 2) (Nat.zero_le _) (by omega)
      rw [show 2 * ((d - 3) / 2) + 3 = d by omega] at h4
      exact h4 (Nat.mod_eq_zero_of_dvd hd)
    · omega
  refine ⟨hn, fun d hd => ?_⟩
  obtain ⟨c, hc⟩ := hd
  rcases Nat.le_total d c with h1 | h1
  · left
    exact key d ⟨c, hc⟩ (by rw [hc]; exact Nat.mul_le_mul (Nat.le_refl d) h1)
  · right
    have := key c ⟨d, by rw [hc, Nat.mul_comm]⟩ (by rw [hc]; exact Nat.mul_le_mul h1 (Nat.le_refl c))
    rw [this, Nat.mul_one] at hc
    exact hc.symm

theorem pr2 : Pr 2 := ⟨by decide, fun d hd => by
  have := Nat.le_of_dvd (by decide) hd
  have h0 := Nat.pos_of_dvd_of_pos hd (by decide)
  omega⟩
theorem pr3 : Pr 3 := ⟨by decide, fun d hd => by
  have := Nat.le_of_dvd (by decide) hd
  have h0 := Nat.pos_of_dvd_of_pos hd (by decide)
  rcases (show d = 1 ∨ d = 2 ∨ d = 3 by omega) with rfl | rfl | rfl
  · exact .inl rfl
  · exact absurd hd (by decide)
  · exact .inr rfl⟩
theorem pm_yes {n g e : Nat} (h : e < 2 ^ 64) (hp : Nat.beq (pm n 64 g e) 1 = true) : g ^ e % n = 1 := by rw [← pm_eq n 64 g e h]; exact Nat.eq_of_beq_eq_true hp
theorem pm_no {n g e : Nat} (h : e < 2 ^ 64) (hp : Nat.beq (pm n 64 g e) 1 = false) : g ^ e % n ≠ 1 := by rw [← pm_eq n 64 g e h]; exact Nat.ne_of_beq_eq_false hp

/-- The test of a generator, reckoned. -/
def genOk (n g : Nat) (l : List Nat) : Bool := Nat.ble 2 n && Nat.blt n (2 ^ 64) && Nat.beq (pm n 64 g (n - 1)) 1 && Nat.beq (lprod l) (n - 1) && l.all fun q => !Nat.beq (pm n 64 g ((n - 1) / q)) 1
theorem genOk_parts {n g : Nat} {l : List Nat} (h : genOk n g l = true) : 1 < n ∧ g ^ (n - 1) % n = 1 ∧ lprod l = n - 1 ∧ ∀ q, q ∈ l → g ^ ((n - 1) / q) % n ≠ 1 := by
  unfold genOk at h
  rw [Bool.and_eq_true, Bool.and_eq_true, Bool.and_eq_true, Bool.and_eq_true] at h
  obtain ⟨⟨⟨⟨h1, h2⟩, h3⟩, h4⟩, h5⟩ := h
  have h1' := Nat.le_of_ble_eq_true h1
  have h2' : n < 2 ^ 64 := by
    have := Nat.le_of_ble_eq_true (show Nat.ble (n + 1) (2 ^ 64) = true from h2)
    omega
  refine ⟨by omega, pm_yes (by omega) h3, Nat.eq_of_beq_eq_true h4, fun q hq => ?_⟩
  have h6 := List.all_eq_true.1 h5 q hq
  exact pm_no (Nat.lt_of_le_of_lt (Nat.div_le_self _ _) (by omega)) (by simpa using h6)
theorem gen_prime' {n : Nat} (g : Nat) (l : List Nat) (h : genOk n g l = true) (hp : ∀ q, q ∈ l → Pr q) : Pr n := by
  obtain ⟨h1, h2, h3, h4⟩ := genOk_parts h
  exact gen_prime h1 h2 l h3 hp h4
theorem gen_fermat' {n m : Nat} (g : Nat) (l : List Nat) (h : genOk n g l = true) (hp : ∀ q, q ∈ l → Pr q) (hm : m = n - 1) (x : Nat) (hx : x % n ≠ 0) : x ^ m % n = 1 := by
  obtain ⟨h1, h2, h3, h4⟩ := genOk_parts h
  rw [hm]
  exact gen_fermat h1 h2 l h3 hp h4 x hx

theorem prA : Pr 8469779 := trial_prime 11 (by decide) (by decide) (by decide +kernel) (by decide)
theorem prB : Pr 2835870689 := trial_prime 15 (by decide) (by decide) (by decide +kernel) (by decide)
theorem prC : Pr 5671741379 := gen_prime' 2 [2, 2835870689] (by decide +kernel) (fun q hq => by
  simp only [List.mem_cons, List.not_mem_nil, or_false] at hq
  rcases hq with rfl | rfl
  · exact pr2
  · exact prB)
theorem prD : Pr 288230376151711447 := gen_prime' 6 [2, 3, 8469779, 5671741379] (by decide +kernel) (fun q hq => by
  simp only [List.mem_cons, List.not_mem_nil, or_false] at hq
  rcases hq with rfl | rfl | rfl | rfl
  · exact pr2
  · exact pr3
  · exact prA
  · exact prC)
theorem prQ : Pr 1152921504606845789 := gen_prime' 2 [2, 2, 288230376151711447] (by decide +kernel) (fun q hq => by
  simp only [List.mem_cons, List.not_mem_nil, or_false] at hq
  rcases hq with rfl | rfl | rfl
  · exact pr2
  · exact pr2
  · exact prD)

/-- **Fermat's little theorem** for the prime number P. -/
theorem fermatP (x : Nat) (hx : x % 2305843009213691579 ≠ 0) (m : Nat) (hm : m = 2305843009213691578) : x ^ m % 2305843009213691579 = 1 :=
  gen_fermat' (n := 2305843009213691579) 2 [2, 1152921504606845789] (by decide +kernel) (fun q hq => by
    simp only [List.mem_cons, List.not_mem_nil, or_false] at hq
    rcases hq with rfl | rfl
    · exact pr2
    · exact prQ) hm x hx

#print axioms fermatP
end Num
end Go.Proofs.YtolmjeglaolhlaaGreatDoor
