/- Plain arithmetic of digits: values of lists of digits to a base (least significant first), values of byte strings (most significant first), their canonical forms. No program in sight. -/
namespace Go.Proofs.YtmbgohaljiiigaaGreatDoor
namespace Num

/-- The value of digits to the base b, the least significant one first. -/
def vl (b : Nat) : List Nat → Nat
  | [] => 0
  | x :: xs => x + b * vl b xs

@[simp] theorem vl_nil (b : Nat) : vl b [] = 0 := rfl
@[simp] theorem vl_cons (b x : Nat) (xs : List Nat) : vl b (x :: xs) = x + b * vl b xs := rfl

theorem vl_append (b : Nat) (xs ys : List Nat) : vl b (xs ++ ys) = vl b xs + b ^ xs.length * vl b ys := by
  induction xs with
  | nil => simp
  | cons x xs ih => simp [ih, Nat.mul_add, Nat.pow_succ, Nat.add_assoc, Nat.mul_comm, Nat.mul_assoc]

theorem vl_snoc (b : Nat) (xs : List Nat) (y : Nat) : vl b (xs ++ [y]) = vl b xs + b ^ xs.length * y := by
  simp [vl_append]

/-- All digits are below the base. -/
def Dig (b : Nat) (xs : List Nat) : Prop := ∀ x ∈ xs, x < b

theorem Dig.nil (b : Nat) : Dig b [] := by intro x hx; cases hx
theorem Dig.cons {b x : Nat} {xs : List Nat} (h : x < b) (hs : Dig b xs) : Dig b (x :: xs) := by
  intro y hy; cases hy with
  | head => exact h
  | tail _ hy => exact hs y hy
theorem Dig.head {b x : Nat} {xs : List Nat} (h : Dig b (x :: xs)) : x < b := h x (by simp)
theorem Dig.tail {b x : Nat} {xs : List Nat} (h : Dig b (x :: xs)) : Dig b xs := fun y hy => h y (by simp [hy])
theorem Dig.append {b : Nat} {xs ys : List Nat} (h : Dig b xs) (hs : Dig b ys) : Dig b (xs ++ ys) := by
  intro x hx; rcases List.mem_append.1 hx with h1 | h1
  · exact h x h1
  · exact hs x h1
theorem Dig.left {b : Nat} {xs ys : List Nat} (h : Dig b (xs ++ ys)) : Dig b xs := fun x hx => h x (by simp [hx])
theorem Dig.right {b : Nat} {xs ys : List Nat} (h : Dig b (xs ++ ys)) : Dig b ys := fun x hx => h x (by simp [hx])
theorem Dig.take {b : Nat} {xs : List Nat} (h : Dig b xs) (k : Nat) : Dig b (xs.take k) := fun x hx => h x (List.mem_of_mem_take hx)
theorem Dig.drop {b : Nat} {xs : List Nat} (h : Dig b xs) (k : Nat) : Dig b (xs.drop k) := fun x hx => h x (List.mem_of_mem_drop hx)
theorem Dig.get {b : Nat} {xs : List Nat} (h : Dig b xs) (hb : 0 < b) (k : Nat) : xs.getD k 0 < b := by
  rw [List.getD_eq_getElem?_getD]
  by_cases hk : k < xs.length
  · rw [List.getElem?_eq_getElem hk]; exact h _ (List.getElem_mem hk)
  · rw [List.getElem?_eq_none (by omega)]; exact hb
theorem Dig.replicate {b : Nat} (hb : 0 < b) (n : Nat) : Dig b (List.replicate n 0) := by
  intro x hx; rw [List.mem_replicate] at hx; omega

theorem vl_lt {b : Nat} {xs : List Nat} (h : Dig b xs) : vl b xs < b ^ xs.length := by
  induction xs with
  | nil => simp
  | cons x xs ih =>
    have h1 := h.head
    have h2 := ih h.tail
    have h3 : b * (vl b xs + 1) ≤ b * b ^ xs.length := Nat.mul_le_mul_left _ h2
    rw [Nat.mul_add] at h3
    simp only [vl_cons, List.length_cons, Nat.pow_succ]
    rw [Nat.mul_comm (b ^ xs.length) b]
    omega

theorem vl_zeros (b n : Nat) : vl b (List.replicate n 0) = 0 := by
  induction n with
  | zero => rfl
  | succ n ih => simp [List.replicate_succ, ih]

theorem vl_append_zeros (b : Nat) (xs : List Nat) (n : Nat) : vl b (xs ++ List.replicate n 0) = vl b xs := by
  rw [vl_append, vl_zeros]; simp

/-- Digits of one length with one value are the same. -/
theorem vl_inj {b : Nat} : ∀ {xs ys : List Nat}, Dig b xs → Dig b ys → xs.length = ys.length → vl b xs = vl b ys → xs = ys
  | [], [], _, _, _, _ => rfl
  | [], _ :: _, _, _, h, _ => by simp at h
  | _ :: _, [], _, _, h, _ => by simp at h
  | x :: xs, y :: ys, hx, hy, hl, hv => by
    have h1 := hx.head
    have h2 := hy.head
    simp only [vl_cons] at hv
    have e1 : (x + b * vl b xs) % b = x := by rw [Nat.add_mul_mod_self_left, Nat.mod_eq_of_lt h1]
    have e2 : (y + b * vl b ys) % b = y := by rw [Nat.add_mul_mod_self_left, Nat.mod_eq_of_lt h2]
    have e : x = y := by rw [← e1, hv, e2]
    subst e
    have e3 : b * vl b xs = b * vl b ys := by omega
    have e4 : vl b xs = vl b ys := Nat.eq_of_mul_eq_mul_left (by omega) e3
    rw [vl_inj hx.tail hy.tail (by simpa using hl) e4]

/-- No zero at the end (the most significant place). -/
def Tr (xs : List Nat) : Prop := xs.getLast? ≠ some 0

theorem Tr.nil : Tr [] := by simp [Tr]
theorem Tr.snoc {xs : List Nat} {y : Nat} (h : y ≠ 0) : Tr (xs ++ [y]) := by simp [Tr, h]
theorem Tr.last {xs : List Nat} (h : Tr xs) (hl : 0 < xs.length) : xs.getD (xs.length - 1) 0 ≠ 0 := by
  intro e
  apply h
  rw [List.getLast?_eq_getElem?]
  rw [List.getD_eq_getElem?_getD, List.getElem?_eq_getElem (by omega)] at e
  rw [List.getElem?_eq_getElem (by omega)]
  simpa using e
theorem Tr.of_last {xs : List Nat} (h : xs.getD (xs.length - 1) 0 ≠ 0) : Tr xs := by
  intro e
  apply h
  rw [List.getLast?_eq_getElem?] at e
  rw [List.getD_eq_getElem?_getD, e]; rfl

theorem split_last {xs : List Nat} (hl : 0 < xs.length) : xs = xs.take (xs.length - 1) ++ [xs.getD (xs.length - 1) 0] := by
  have h1 : xs.getD (xs.length - 1) 0 = xs[xs.length - 1]'(by omega) := by
    rw [List.getD_eq_getElem?_getD, List.getElem?_eq_getElem (by omega)]; rfl
  rw [h1, ← List.take_succ_eq_append_getElem (by omega)]
  rw [List.take_of_length_le (by omega)]

theorem Tr.ge {b : Nat} {xs : List Nat} (h : Tr xs) (hl : 0 < xs.length) : b ^ (xs.length - 1) ≤ vl b xs := by
  have h0 := h.last hl
  rw [split_last hl, vl_snoc]
  have h2 : (xs.take (xs.length - 1)).length = xs.length - 1 := by simp
  rw [h2]
  have h3 : b ^ (xs.length - 1) * 1 ≤ b ^ (xs.length - 1) * xs.getD (xs.length - 1) 0 := Nat.mul_le_mul_left _ (by omega)
  have h4 : (xs.take (xs.length - 1) ++ [xs.getD (xs.length - 1) 0]).length - 1 = xs.length - 1 := by simp
  rw [h4]
  omega

theorem Tr.pos {b : Nat} {xs : List Nat} (h : Tr xs) (hb : 0 < b) (hl : 0 < xs.length) : 0 < vl b xs :=
  Nat.lt_of_lt_of_le (Nat.pow_pos hb) (h.ge hl)

theorem Tr.eq_nil {b : Nat} {xs : List Nat} (h : Tr xs) (hb : 0 < b) (hv : vl b xs = 0) : xs = [] := by
  rcases Nat.eq_zero_or_pos xs.length with h1 | h1
  · exact List.length_eq_zero_iff.1 h1
  · have := h.pos hb h1; omega

/-- Fewer digits, less. -/
theorem vl_lt_of_length {b : Nat} {xs ys : List Nat} (hb : 0 < b) (hx : Dig b xs) (hy : Tr ys) (hl : xs.length < ys.length) : vl b xs < vl b ys :=
  Nat.lt_of_lt_of_le (vl_lt hx) (Nat.le_trans (Nat.pow_le_pow_right hb (by omega)) (hy.ge (by omega)))

/-- Digits without zeros at the end are known by their value. -/
theorem tr_inj {b : Nat} (hb : 0 < b) {xs ys : List Nat} (hx : Dig b xs) (hy : Dig b ys) (tx : Tr xs) (ty : Tr ys) (hv : vl b xs = vl b ys) : xs = ys := by
  rcases Nat.lt_trichotomy xs.length ys.length with h | h | h
  · have := vl_lt_of_length hb hx ty h; omega
  · exact vl_inj hx hy h hv
  · have := vl_lt_of_length hb hy tx h; omega

/-- The value of the first k + 1 digits. -/
theorem vl_take_succ (b : Nat) (xs : List Nat) (k : Nat) (hk : k < xs.length) : vl b (xs.take (k + 1)) = vl b (xs.take k) + b ^ k * xs.getD k 0 := by
  have h1 : xs.getD k 0 = xs[k] := by rw [List.getD_eq_getElem?_getD, List.getElem?_eq_getElem hk]; rfl
  rw [List.take_succ_eq_append_getElem hk, vl_snoc, h1]
  simp [Nat.min_eq_left (Nat.le_of_lt hk)]

theorem vl_take_succ' (b : Nat) (xs : List Nat) (k : Nat) : vl b (xs.take (k + 1)) = vl b (xs.take k) + b ^ k * xs.getD k 0 := by
  rcases Nat.lt_or_ge k xs.length with hk | hk
  · exact vl_take_succ b xs k hk
  · rw [List.take_of_length_le (by omega), List.take_of_length_le hk, List.getD_eq_getElem?_getD, List.getElem?_eq_none hk]; simp

theorem take_set_self (l : List Nat) (k x : Nat) (h : k < l.length) : (l.set k x).take (k + 1) = l.take k ++ [x] := by
  rw [List.take_succ_eq_append_getElem (by simpa using h), List.take_set_of_le (Nat.le_refl _)]
  simp

theorem Dig.set {b : Nat} {l : List Nat} (h : Dig b l) (k x : Nat) (hx : x < b) : Dig b (l.set k x) := by
  intro y hy
  rcases List.mem_or_eq_of_mem_set hy with h1 | h1
  · exact h y h1
  · omega

theorem ldigit_set_ne (l : List Nat) (i j x : Nat) (h : i ≠ j) : (l.set i x).getD j 0 = l.getD j 0 := by
  simp [h]

/-- One more digit is written behind the first k. -/
theorem vl_take_set (b : Nat) (l : List Nat) (k x : Nat) (h : k < l.length) : vl b ((l.set k x).take (k + 1)) = vl b (l.take k) + b ^ k * x := by
  rw [take_set_self l k x h, vl_snoc, List.length_take, Nat.min_eq_left (by omega)]

/-- The value of the digits from k on. -/
theorem vl_drop (b : Nat) (xs : List Nat) (k : Nat) (hk : k < xs.length) : vl b (xs.drop k) = xs.getD k 0 + b * vl b (xs.drop (k + 1)) := by
  have h1 : xs.getD k 0 = xs[k] := by rw [List.getD_eq_getElem?_getD, List.getElem?_eq_getElem hk]; rfl
  rw [List.drop_eq_getElem_cons hk, vl_cons, h1]

theorem vl_take_drop (b : Nat) (xs : List Nat) (k : Nat) (hk : k ≤ xs.length) : vl b xs = vl b (xs.take k) + b ^ k * vl b (xs.drop k) := by
  have := vl_append b (xs.take k) (xs.drop k)
  rw [List.take_append_drop] at this
  rw [this, List.length_take, Nat.min_eq_left hk]

/-- Digits that are cut at a place behind which there are zeros alone. -/
theorem vl_take_of_zero (b : Nat) (xs : List Nat) (k : Nat) (h : ∀ j, k ≤ j → j < xs.length → xs.getD j 0 = 0) : vl b (xs.take k) = vl b xs := by
  rcases Nat.lt_or_ge k xs.length with hk | hk
  · rw [vl_take_drop b xs k (by omega)]
    have hz : xs.drop k = List.replicate (xs.length - k) 0 := by
      apply List.ext_getElem (by simp)
      intro i h1 h2
      have := h (k + i) (by omega) (by simp at h1; omega)
      rw [List.getD_eq_getElem?_getD, List.getElem?_eq_getElem (by simp at h1; omega)] at this
      simpa using this
    rw [hz, vl_zeros]; simp
  · rw [List.take_of_length_le hk]

theorem vl_set (b : Nat) (xs : List Nat) (k y : Nat) (hk : k < xs.length) : vl b (xs.set k y) + b ^ k * xs.getD k 0 = vl b xs + b ^ k * y := by
  induction xs generalizing k with
  | nil => simp at hk
  | cons x xs ih =>
    cases k with
    | zero => simp; omega
    | succ k =>
      have := ih k (by simpa using hk)
      simp only [List.set_cons_succ, vl_cons, List.getD_cons_succ, Nat.pow_succ]
      have e1 : b ^ k * b * xs.getD k 0 = b * (b ^ k * xs.getD k 0) := by rw [Nat.mul_comm (b ^ k) b, Nat.mul_assoc]
      have e2 : b ^ k * b * y = b * (b ^ k * y) := by rw [Nat.mul_comm (b ^ k) b, Nat.mul_assoc]
      rw [e1, e2]
      have e3 : b * vl b (xs.set k y) + b * (b ^ k * xs.getD k 0) = b * vl b xs + b * (b ^ k * y) := by rw [← Nat.mul_add, this, Nat.mul_add]
      omega

/-- The canonical digits of n, at most f of them. -/
def digF (b : Nat) : Nat → Nat → List Nat
  | 0, _ => []
  | f + 1, n => if n = 0 then [] else n % b :: digF b f (n / b)

/-- The canonical digits of n. -/
def dig (b n : Nat) : List Nat := digF b (n.log2 + 1) n

theorem digF_dig {b : Nat} (hb : 0 < b) : ∀ f n, Dig b (digF b f n)
  | 0, _ => Dig.nil b
  | f + 1, n => by
    unfold digF
    split
    · exact Dig.nil b
    · exact Dig.cons (Nat.mod_lt _ hb) (digF_dig hb f _)

theorem digF_vl {b : Nat} (hb : 1 < b) : ∀ f n, n < 2 ^ f → vl b (digF b f n) = n
  | 0, n, h => by simp at h; simp [digF, h]
  | f + 1, n, h => by
    unfold digF
    split
    · simp; omega
    · have h1 : n / b < 2 ^ f := by
        have : n / b ≤ n / 2 := Nat.div_le_div_left (by omega) (by omega)
        rw [Nat.pow_succ] at h; omega
      rw [vl_cons, digF_vl hb f _ h1]
      exact Nat.mod_add_div n b

theorem digF_tr {b : Nat} (hb : 1 < b) : ∀ f n, n < 2 ^ f → Tr (digF b f n)
  | 0, _, _ => by simp [digF, Tr]
  | f + 1, n, h => by
    unfold digF
    split
    · exact Tr.nil
    · rename_i hn
      have h1 : n / b < 2 ^ f := by
        have : n / b ≤ n / 2 := Nat.div_le_div_left (by omega) (by omega)
        rw [Nat.pow_succ] at h; omega
      have ih := digF_tr hb f _ h1
      have iv := digF_vl hb f _ h1
      cases hd : digF b f (n / b) with
      | nil =>
        rw [hd] at iv
        simp at iv
        have h2 : n % b = n := by have := Nat.mod_add_div n b; rw [← iv] at this; omega
        simp [Tr, h2, hn]
      | cons y ys =>
        rw [hd] at ih
        simpa [Tr, List.getLast?_cons] using ih

theorem lt_log2 (n : Nat) : n < 2 ^ (n.log2 + 1) := by
  rcases Nat.eq_zero_or_pos n with h | h
  · subst h; simp
  · exact Nat.lt_log2_self

theorem dig_dig {b : Nat} (hb : 0 < b) (n : Nat) : Dig b (dig b n) := digF_dig hb _ _
theorem dig_vl {b : Nat} (hb : 1 < b) (n : Nat) : vl b (dig b n) = n := digF_vl hb _ _ (lt_log2 n)
theorem dig_tr {b : Nat} (hb : 1 < b) (n : Nat) : Tr (dig b n) := digF_tr hb _ _ (lt_log2 n)
theorem dig_of {b : Nat} (hb : 1 < b) {xs : List Nat} (hx : Dig b xs) (tx : Tr xs) : dig b (vl b xs) = xs :=
  tr_inj (by omega) (dig_dig (by omega) _) hx (dig_tr hb _) tx (dig_vl hb _)

/-- The value of bytes, the most significant one first. -/
def val (s : List UInt8) : Nat := vl 256 (s.reverse.map UInt8.toNat)

theorem bytes_dig (s : List UInt8) : Dig 256 (s.map UInt8.toNat) := by
  intro x hx
  obtain ⟨c, _, rfl⟩ := List.mem_map.1 hx
  exact UInt8.toNat_lt c

@[simp] theorem val_nil : val [] = 0 := rfl
theorem val_append (s t : List UInt8) : val (s ++ t) = val s * 256 ^ t.length + val t := by
  unfold val
  rw [List.reverse_append, List.map_append, vl_append]
  simp [Nat.mul_comm, Nat.add_comm]
theorem val_snoc (s : List UInt8) (c : UInt8) : val (s ++ [c]) = val s * 256 + c.toNat := by
  rw [val_append]; simp [val]
theorem val_cons (c : UInt8) (s : List UInt8) : val (c :: s) = c.toNat * 256 ^ s.length + val s := by
  have := val_append [c] s
  simpa [val] using this
theorem val_lt (s : List UInt8) : val s < 256 ^ s.length := by
  have := vl_lt (b := 256) (xs := s.reverse.map UInt8.toNat) (bytes_dig _)
  simpa [val] using this
theorem val_zero_cons (s : List UInt8) : val (0 :: s) = val s := by rw [val_cons]; simp

/-- A number's canonical bytes: no zero in front. -/
def enc (n : Nat) : List UInt8 := ((dig 256 n).map UInt8.ofNat).reverse

/-- Bytes without zeros in front. -/
def canon : List UInt8 → List UInt8
  | [] => []
  | c :: s => if c = 0 then canon s else c :: s

theorem toNat_ofNat_map {xs : List Nat} (h : Dig 256 xs) : (xs.map UInt8.ofNat).map UInt8.toNat = xs := by
  rw [List.map_map]
  conv => rhs; rw [← List.map_id xs]
  apply List.map_congr_left
  intro x hx
  have := h x hx
  simp [Nat.mod_eq_of_lt this]

theorem val_enc (n : Nat) : val (enc n) = n := by
  unfold val enc
  rw [List.reverse_reverse, toNat_ofNat_map (dig_dig (by omega) n), dig_vl (by omega)]

theorem val_canon : ∀ s : List UInt8, val (canon s) = val s
  | [] => rfl
  | c :: s => by
    unfold canon
    split
    · rename_i h; subst h; rw [val_zero_cons, val_canon s]
    · rfl

/-- Right: no zero in front. -/
def Rt (s : List UInt8) : Prop := s.head? ≠ some 0

theorem canon_rt : ∀ s : List UInt8, Rt (canon s)
  | [] => by simp [Rt, canon]
  | c :: s => by
    unfold canon
    split
    · exact canon_rt s
    · rename_i h; simpa [Rt] using h

theorem canon_of_rt {s : List UInt8} (h : Rt s) : canon s = s := by
  cases s with
  | nil => rfl
  | cons c s =>
    unfold canon
    rw [if_neg]
    intro e; subst e; exact h rfl

theorem rt_tr {s : List UInt8} (h : Rt s) : Tr (s.reverse.map UInt8.toNat) := by
  cases s with
  | nil => simp [Tr]
  | cons c s =>
    simp only [List.reverse_cons, List.map_append, List.map_cons, List.map_nil]
    apply Tr.snoc
    intro e
    apply h
    have : c = 0 := by
      have := congrArg UInt8.ofNat e
      simpa using this
    simp [this]

theorem rt_inj {s t : List UInt8} (hs : Rt s) (ht : Rt t) (hv : val s = val t) : s = t := by
  have h := tr_inj (b := 256) (by omega) (bytes_dig s.reverse) (bytes_dig t.reverse) (rt_tr hs) (rt_tr ht) hv
  have h2 := congrArg (List.map UInt8.ofNat) h
  have hm : ∀ u : List UInt8, (u.map UInt8.toNat).map UInt8.ofNat = u := by
    intro u
    rw [List.map_map]
    conv => rhs; rw [← List.map_id u]
    apply List.map_congr_left
    intro x _
    simp
  rw [hm, hm] at h2
  exact List.reverse_inj.1 h2

theorem enc_rt (n : Nat) : Rt (enc n) := by
  have h := dig_tr (b := 256) (by omega) n
  have hd := dig_dig (b := 256) (by omega) n
  unfold Rt enc
  rw [List.head?_reverse, List.getLast?_map]
  intro e
  apply h
  cases hg : (dig 256 n).getLast? with
  | none => rw [hg] at e; simp at e
  | some y =>
    rw [hg] at e
    simp at e
    have hy : y < 256 := hd y (List.mem_of_getLast? hg)
    have := congrArg UInt8.toNat e
    simp at this
    rw [Nat.mod_eq_of_lt hy] at this
    rw [this]

theorem enc_of_rt {s : List UInt8} (h : Rt s) : enc (val s) = s := rt_inj (enc_rt _) h (val_enc _)
theorem enc_val (s : List UInt8) : enc (val s) = canon s := rt_inj (enc_rt _) (canon_rt s) (by rw [val_enc, val_canon])
theorem enc_inj {m n : Nat} (h : enc m = enc n) : m = n := by rw [← val_enc m, h, val_enc]
theorem enc_zero : enc 0 = [] := rfl
theorem enc_eq_nil {n : Nat} : enc n = [] ↔ n = 0 := ⟨fun h => enc_inj (by rw [h]; rfl), fun h => by rw [h]; rfl⟩

theorem enc_length_le {n k : Nat} (h : n < 256 ^ k) : (enc n).length ≤ k := by
  have h1 : (enc n).length = (dig 256 n).length := by simp [enc]
  rw [h1]
  rcases Nat.lt_or_ge k (dig 256 n).length with hk | hk
  · have := (dig_tr (b := 256) (by omega) n).ge (b := 256) (by omega)
    rw [dig_vl (by omega)] at this
    have h2 : 256 ^ k ≤ 256 ^ ((dig 256 n).length - 1) := Nat.pow_le_pow_right (by omega) (by omega)
    omega
  · exact hk

theorem canon_length_le : ∀ s : List UInt8, (canon s).length ≤ s.length
  | [] => by simp [canon]
  | c :: s => by
    unfold canon
    split
    · have := canon_length_le s; simp; omega
    · simp

/-- Less at a place, and the same above it: less. -/
theorem vl_lt_at {b : Nat} {la lb : List Nat} {j : Nat} (da : Dig b la) (hl : la.length = lb.length) (hj : j < la.length) (hd : la.drop (j + 1) = lb.drop (j + 1)) (hx : la.getD j 0 < lb.getD j 0) : vl b la < vl b lb := by
  rw [vl_take_drop b la j (by omega), vl_take_drop b lb j (by omega), vl_drop b la j hj, vl_drop b lb j (by omega), hd]
  have h1 := vl_lt (da.take j)
  rw [List.length_take, Nat.min_eq_left (by omega)] at h1
  generalize la.getD j 0 = x at *
  generalize lb.getD j 0 = y at *
  generalize vl b (lb.drop (j + 1)) = t
  have h2 : b ^ j * (x + b * t + 1) ≤ b ^ j * (y + b * t) := Nat.mul_le_mul_left _ (by omega)
  rw [Nat.mul_add] at h2
  omega

/-- -1, 0 or 1: how two numbers compare. -/
def cmpZ (m n : Nat) : Int := if m < n then -1 else if m = n then 0 else 1
theorem cmpZ_lt {m n : Nat} (h : m < n) : cmpZ m n = -1 := by simp [cmpZ, h]
theorem cmpZ_eq {m n : Nat} (h : m = n) : cmpZ m n = 0 := by simp [cmpZ, h]
theorem cmpZ_gt {m n : Nat} (h : n < m) : cmpZ m n = 1 := by unfold cmpZ; rw [if_neg (by omega), if_neg (by omega)]

theorem or_add (x c r : Nat) (hx : x < 256 ^ r) : x ||| (c * 256 ^ r) = x + c * 256 ^ r := by
  have e : 256 ^ r = 2 ^ (8 * r) := by rw [Nat.pow_mul]
  rw [e] at hx ⊢
  rw [Nat.or_comm, Nat.mul_comm, ← Nat.two_pow_add_eq_or_of_lt hx, Nat.add_comm]

theorem or_mul (a x r : Nat) (hx : x < 2 ^ r) : (a * 2 ^ r) ||| x = a * 2 ^ r + x := by
  rw [Nat.mul_comm, ← Nat.two_pow_add_eq_or_of_lt hx]

theorem drop_set_self (l : List Nat) (k x : Nat) (h : k < l.length) : (l.set k x).drop k = x :: l.drop (k + 1) := by
  rw [List.drop_eq_getElem_cons (by simpa using h)]
  simp [List.drop_set]

/-- n digits from place j on. -/
def seg (l : List Nat) (j n : Nat) : List Nat := (l.drop j).take n

theorem seg_length (l : List Nat) (j n : Nat) (h : j + n ≤ l.length) : (seg l j n).length = n := by simp [seg]; omega

theorem getD_drop (l : List Nat) (j k : Nat) : (l.drop j).getD k 0 = l.getD (j + k) 0 := by
  simp [List.getElem?_drop]

theorem vl_seg_succ (b : Nat) (l : List Nat) (j k : Nat) : vl b (seg l j (k + 1)) = vl b (seg l j k) + b ^ k * l.getD (j + k) 0 := by
  unfold seg
  rw [vl_take_succ', getD_drop]

theorem seg_congr {l m : List Nat} (hl : l.length = m.length) (j k : Nat) (h : ∀ i, i < k → l.getD (j + i) 0 = m.getD (j + i) 0) : seg l j k = seg m j k := by
  apply List.ext_getElem
  · simp [seg, hl]
  · intro i h1 h2
    have hi : i < k := by simp [seg] at h1; omega
    have hj : j + i < l.length := by simp [seg] at h1; omega
    have := h i hi
    rw [List.getD_eq_getElem?_getD, List.getD_eq_getElem?_getD, List.getElem?_eq_getElem hj, List.getElem?_eq_getElem (by omega)] at this
    simpa [seg] using this

theorem vl_seg_set (b : Nat) (l : List Nat) (j k x : Nat) (h : j + k < l.length) : vl b (seg (l.set (j + k) x) j (k + 1)) = vl b (seg l j k) + b ^ k * x := by
  rw [vl_seg_succ]
  have e1 : (l.set (j + k) x).getD (j + k) 0 = x := by simp [h]
  have e2 : seg (l.set (j + k) x) j k = seg l j k := seg_congr (by simp) j k fun i hi => ldigit_set_ne _ _ _ _ (by omega)
  rw [e1, e2]

theorem Dig.seg {b : Nat} {l : List Nat} (h : Dig b l) (j k : Nat) : Dig b (seg l j k) := (h.drop j).take k

theorem pow_split (k : Nat) : 4294967296 ^ (k / 4) * 256 ^ (k % 4) = 256 ^ k := by
  have e : 4294967296 = 256 ^ 4 := by decide
  rw [e, ← Nat.pow_mul, ← Nat.pow_add, Nat.div_add_mod]

theorem set_reverse (r : List Nat) (k x : Nat) (h : k < r.length) : r.reverse.set (r.length - 1 - k) x = (r.set k x).reverse := by
  apply List.ext_getElem
  · simp
  · intro i h1 h2
    simp only [List.length_set, List.length_reverse] at h1
    rw [List.getElem_set, List.getElem_reverse, List.getElem_reverse, List.getElem_set]
    simp only [List.length_set]
    by_cases e : r.length - 1 - k = i
    · rw [if_pos e, if_pos (by omega)]
    · rw [if_neg e, if_neg (by omega)]

/-- A byte of a number, out of its digits to the base 2^32. -/
theorem byte_of {l : List Nat} (hd : Dig 4294967296 l) (k : Nat) : l.getD (k / 4) 0 / 256 ^ (k % 4) % 256 = vl 4294967296 l / 256 ^ k % 256 := by
  have hr : k % 4 < 4 := Nat.mod_lt _ (by omega)
  rcases Nat.lt_or_ge (k / 4) l.length with hk | hk
  · rw [vl_take_drop _ l (k / 4) (by omega), vl_drop _ l (k / 4) hk, ← pow_split k]
    have h1 := vl_lt (hd.take (k / 4))
    rw [List.length_take, Nat.min_eq_left (by omega)] at h1
    rw [← Nat.div_div_eq_div_mul, Nat.add_mul_div_left _ _ (Nat.pow_pos (by omega)), Nat.div_eq_of_lt h1, Nat.zero_add]
    generalize l.getD (k / 4) 0 = x
    generalize vl 4294967296 (l.drop (k / 4 + 1)) = t
    have e : 4294967296 * t = 256 ^ (k % 4) * (256 * (256 ^ (3 - k % 4) * t)) := by
      rw [← Nat.mul_assoc, ← Nat.mul_assoc, ← Nat.pow_succ, ← Nat.pow_add, show k % 4 + 1 + (3 - k % 4) = 4 by omega]
    rw [e, Nat.add_mul_div_left _ _ (Nat.pow_pos (by omega)), Nat.add_mul_mod_self_left]
  · have h1 := vl_lt hd
    have h2 : (4294967296 : Nat) ^ l.length ≤ 256 ^ k := by
      rw [show 4294967296 = 256 ^ 4 by decide, ← Nat.pow_mul]
      exact Nat.pow_le_pow_right (by omega) (by omega)
    rw [List.getD_eq_getElem?_getD, List.getElem?_eq_none hk, Nat.div_eq_of_lt (a := vl 4294967296 l) (by omega)]
    simp

theorem canon_dropWhile : ∀ s : List UInt8, s.dropWhile (· == 0) = canon s
  | [] => rfl
  | c :: s => by
    unfold canon
    by_cases h : c = 0
    · subst h; simp [canon_dropWhile s]
    · simp [h]

theorem val_of_rev {r : List Nat} (hd : Dig 256 r) : val (r.reverse.map UInt8.ofNat) = vl 256 r := by
  unfold val
  rw [← List.map_reverse, List.reverse_reverse, toNat_ofNat_map hd]

/-- The number of a string. -/
def SN (s : ByteArray) : Nat := val s.data.toList

/-- The string of a number. -/
def Enc (n : Nat) : ByteArray := ⟨(enc n).toArray⟩

theorem SN_Enc (n : Nat) : SN (Enc n) = n := by
  show val (enc n).toArray.toList = n
  rw [List.toList_toArray, val_enc]

theorem Enc_inj {m n : Nat} (h : Enc m = Enc n) : m = n := by rw [← SN_Enc m, h, SN_Enc]

theorem Enc_size_le {n k : Nat} (h : n < 256 ^ k) : (Enc n).size ≤ k := by
  show (enc n).toArray.size ≤ k
  rw [List.size_toArray]
  exact enc_length_le h

theorem SN_lt (s : ByteArray) : SN s < 256 ^ s.size := by
  have := val_lt s.data.toList
  have e : s.data.toList.length = s.size := by simp
  rw [e] at this
  exact this

/-- How many binary digits a number has. -/
def natBits (n : Nat) : Nat := if n = 0 then 0 else n.log2 + 1
theorem natBits_zero : natBits 0 = 0 := rfl
theorem natBits_of {n k : Nat} (h1 : 2 ^ k ≤ n) (h2 : n < 2 ^ (k + 1)) : natBits n = k + 1 := by
  have h0 : 0 < (2 : Nat) ^ k := Nat.pow_pos (by omega)
  unfold natBits
  rw [if_neg (by omega), (Nat.log2_eq_iff (by omega)).2 ⟨h1, h2⟩]

/-- The binary digits of a number out of the first one of its digits. -/
theorem natBits_vl {l : List Nat} {n x e : Nat} (hd : Dig 4294967296 l) (hn : l.length = n + 1) (hx : l.getD n 0 = x) (h1 : 1 ≤ e) (hlo : 2 ^ (e - 1) ≤ x) (hhi : x < 2 ^ e) : natBits (vl 4294967296 l) = 32 * n + e := by
  have h0 : l.drop (n + 1) = [] := List.drop_of_length_le (by omega)
  have hv : vl 4294967296 l = vl 4294967296 (l.take n) + 4294967296 ^ n * x := by
    rw [vl_take_drop _ l n (by omega), vl_drop _ l n (by omega), h0, hx, vl_nil]
    simp only [Nat.mul_zero, Nat.add_zero]
  have h2 := vl_lt (hd.take n)
  rw [List.length_take, Nat.min_eq_left (by omega)] at h2
  have hp : (4294967296 : Nat) ^ n = 2 ^ (32 * n) := by rw [Nat.pow_mul]
  have h3 : 4294967296 ^ n * (x + 1) ≤ 4294967296 ^ n * 2 ^ e := Nat.mul_le_mul_left _ hhi
  have h4 : 4294967296 ^ n * 2 ^ (e - 1) ≤ 4294967296 ^ n * x := Nat.mul_le_mul_left _ hlo
  have e1 : 4294967296 ^ n * 2 ^ e = 2 ^ (32 * n + e) := by rw [hp, Nat.pow_add]
  have e2 : 4294967296 ^ n * 2 ^ (e - 1) = 2 ^ (32 * n + (e - 1)) := by rw [hp, Nat.pow_add]
  rw [Nat.mul_add, e1] at h3
  rw [e2] at h4
  have := natBits_of (n := vl 4294967296 l) (k := 32 * n + (e - 1)) (by omega) (by rw [show 32 * n + (e - 1) + 1 = 32 * n + e by omega]; omega)
  omega

/-- No zero in front. -/
def rightB : List UInt8 → Bool
  | [] => true
  | c :: _ => c != 0
theorem rightB_iff (l : List UInt8) : rightB l = true ↔ Rt l := by
  cases l with
  | nil => simp [rightB, Rt]
  | cons c l => simp [rightB, Rt]

#print axioms enc_val
end Num
end Go.Proofs.YtmbgohaljiiigaaGreatDoor
