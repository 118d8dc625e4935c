/- The reference: digits, small numbers, comparisons. -/
import Derived.Laws.AppendOwn
import Derived.Maps.AppendAt
import Derived.WalkLawsBesides
import Derived.Lib.Strings
import Derived.Test.YtolmjeglaolhlaaGreatDoorBase
import Derived.Test.YtolmjeglaolhlaaGreatDoorPlain

/- Rows of numbers that a call owns and appends to. -/
namespace Go.Proofs.YtolmjeglaolhlaaGreatDoor
open Go.RowKit Num

/-- The value v is a row of the call's own (its block at or beyond B) that holds the numbers l. -/
def OwnL (k : IntKind) (w : World) (B : Nat) (e : TypeId) (v : Value) (l : List Nat) : Prop := w.ownsRow B e 1 v l.length (ints k l)

theorem OwnL.nil (k : IntKind) (w : World) (B : Nat) (e : TypeId) : OwnL k w B e (.slice none 0 0) [] := World.ownsRow_nil w B e 1

theorem OwnL.sl {k : IntKind} {w : World} {B : Nat} {e : TypeId} {v : Value} {l : List Nat} (h : OwnL k w B e v l) : Sl k w v l := by
  have h' := h
  rcases h.2 with ⟨rfl, hn⟩ | ⟨g, cap, cur, rfl, _, hg, hnc, hcm, _, _⟩
  · obtain rfl : l = [] := List.length_eq_zero_iff.1 hn
    exact Sl.nil k w none 0 (by decide)
  · refine ⟨_, cap, rfl, hnc, by unfold maxLen at hcm; omega, fun _ => ⟨g, 0, rfl, (Array.getElem?_eq_some_iff.1 hg).1, fun i hi => ?_⟩⟩
    have hc := World.ownsRow.cells h' (g := g) rfl i _ (ints_get k l i hi)
    rw [WideShapes.add_plain] at hc
    exact hc

theorem OwnL.below {k : IntKind} {w w' : World} {B : Nat} {e : TypeId} {v : Value} {l : List Nat} (h : OwnL k w B e v l) (hb : Below w.heap.size w w') : OwnL k w' B e v l := by
  refine ⟨h.1, ?_⟩
  rcases h.2 with h0 | ⟨g, cap, cur, rfl, hB, hg, h1, h2, h3, h4⟩
  · exact .inl h0
  · exact .inr ⟨g, cap, cur, rfl, hB, (hb.block g (Array.getElem?_eq_some_iff.1 hg).1).trans hg, h1, h2, h3, h4⟩

theorem OwnL.grown {k : IntKind} {w w' : World} {B : Nat} {e : TypeId} {v : Value} {l : List Nat} (h : OwnL k w B e v l) (hB : B ≤ w.heap.size) (hg : w.grownBy w' v.ownBlock) : Below B w w' := by
  refine (Below.refl B w).grown hg hB (fun j ej => ?_)
  rcases h.2 with ⟨rfl, _⟩ | ⟨g, cap, cur, rfl, h1, _⟩
  · cases ej
  · cases ej; exact h1

theorem OwnL.snoc {k : IntKind} {w : World} {B : Nat} {e : TypeId} {v : Value} {l : List Nat} {x : Nat} (h : w.ownsRow B e 1 v (l.length + 1) (ints k l ++ [.int k (x : Int)])) : OwnL k w B e v (l ++ [x]) := by
  unfold OwnL
  rw [List.length_append, show ints k (l ++ [x]) = ints k l ++ [.int k (x : Int)] by simp [ints]]
  exact h

theorem OwnL.snoc' {k : IntKind} {w : World} {B : Nat} {e : TypeId} {v : Value} {l : List Nat} {z : Int} (x : Nat) (h : w.ownsRow B e 1 v (l.length + 1) (ints k l ++ [.int k z])) (hz : z = (x : Int)) : OwnL k w B e v (l ++ [x]) := by
  subst hz; exact OwnL.snoc h

/-- Bytes in memory become a number's string. -/
theorem conv_row {w : World} {b off : Nat} {l : List Nat} (hr : Row .u8 w b off l) (cap : Nat) :
    (convert 22 24 (.slice (some ⟨b, off, none⟩) l.length cap)).run Tryz.prog w = .ok (.string ⟨(l.map UInt8.ofNat).toArray⟩) w := by
  have h := run_convert_bytes_arg (P := Tryz.prog) w 22 5 Tryz.underlying22 Tryz.underlying5 b off l.length cap (l.map Int.ofNat) (by simp) (fun i hi => by
    rw [hr i hi]
    simp [List.getElem?_eq_getElem hi]) 24 Tryz.underlying24
  have e : strOfNums (l.map Int.ofNat) = ⟨(l.map UInt8.ofNat).toArray⟩ := by
    unfold strOfNums
    rw [List.map_map]
    rfl
  rw [e] at h
  exact h

theorem OwnL.conv {w : World} {B : Nat} {e : TypeId} {v : Value} {l : List Nat} (h : OwnL .u8 w B e v l) :
    (convert 22 24 v).run Tryz.prog w = .ok (.string ⟨(l.map UInt8.ofNat).toArray⟩) w := by
  obtain ⟨a, cap, rfl, _, _, h3⟩ := h.sl
  rcases Nat.eq_zero_or_pos l.length with h0 | h0
  · obtain rfl : l = [] := List.length_eq_zero_iff.1 h0
    rcases a with _ | ⟨b, off, spot⟩
    · simp [convert, Conv.bytesToString, go_sem]; rfl
    · simp [convert, Conv.bytesToString, go_sem]; rfl
  · obtain ⟨b, off, rfl, _, hr⟩ := h3 h0
    exact conv_row hr cap

theorem OwnL.ne {k : IntKind} {w : World} {B : Nat} {e : TypeId} {v : Value} {l : List Nat} (h : OwnL k w B e v l) {b : Nat} (hb : b < B) : v.ownBlock ≠ some b := by
  rcases h.2 with ⟨rfl, _⟩ | ⟨g, cap, cur, rfl, h1, _⟩
  · simp [Value.ownBlock]
  · simp [Value.ownBlock]; omega

end Go.Proofs.YtolmjeglaolhlaaGreatDoor

/- sortesref01.Int, small. -/
namespace Go.Proofs.YtolmjeglaolhlaaGreatDoor
open Go.RowKit Num

theorem getD_byte {t : ByteArray} {j : Nat} (h : j < t.size) : t.data.toList.getD j 0 = t[j] := by
  rw [List.getD_eq_getElem?_getD, List.getElem?_eq_getElem (by simpa using h)]
  rfl

theorem val_take_snoc (t : ByteArray) (j : Nat) (h : j < t.size) : val (t.data.toList.take (j + 1)) = val (t.data.toList.take j) * 256 + t[j].toNat := by
  rw [List.take_add_one, List.getElem?_eq_getElem (by simpa using h)]
  simp only [Option.toList_some, val_snoc]
  rfl

theorem val_take_next (t : ByteArray) (j : Nat) (h : j < t.size) : val (t.data.toList.take j) * 256 + t[j].toNat ≤ SN t := by
  rw [← val_take_snoc t j h]
  have h1 := val_take_le t.data.toList (j + 1)
  refine Nat.le_trans ?_ h1
  exact Nat.le_mul_of_pos_right _ (Nat.pow_pos (by decide))

theorem wrap_byte_step {d c : Nat} (hc : c < 256) (hb : d * 256 + c < 9223372036854775808) : wrap64 (wrap64 ((d : Int) * 256) + wrap64 (c : Int)) = ((d * 256 + c : Nat) : Int) := by
  unfold wrap64
  omega

theorem SN_ge8 {t : ByteArray} (h9 : 8 ≤ t.size) (h8 : t.size ≤ 8) : t[0].toNat * 256 ^ 7 ≤ SN t ∧ SN t < (t[0].toNat + 1) * 256 ^ 7 := by
  have := SN_ge (t := t) (by omega)
  have e : t.size - 1 = 7 := by omega
  simpa [e] using this

def RIntRel (t : ByteArray) (n k : Value) : Prop :=
  ∃ j : Nat, j ≤ t.size ∧ k = .int .i64 (j : Int) ∧ n = .int .i64 ((val (t.data.toList.take j) : Nat) : Int)

set_option maxRecDepth 100000 in
set_option maxHeartbeats 1000000 in
theorem RInt_any (s : ByteArray) (w : World) (hs : s.size ≤ 268435456) :
    Calls Tryz.prog 102 #[.string s] w fun e w' => e = .returned (intPair (SN s)) ∧ w = w' := by
  obtain ⟨R, hR⟩ : ∃ R, R = intPair (SN s) := ⟨_, rfl⟩
  rw [← hR]
  have HR := Lib.hid hR; clear hR
  go_enter Tryz.func102, Tryz.ntmps102
  go_wp2_with fail
  refine (Canon_any s _ hs).mono ?_
  rintro _ _ ⟨rfl, rfl⟩
  have hsv : SN (Enc (SN s)) = SN s := SN_Enc _
  have hbig : ∀ k, k < (Enc (SN s)).size → 256 ^ k ≤ SN s := fun k h => Enc_big h
  have hsz : (Enc (SN s)).size ≤ 268435456 := Nat.le_trans (Enc_size_le (SN_lt s)) hs
  generalize Enc (SN s) = t at *
  have HSV := Lib.hid hsv; have HBIG := Lib.hid hbig; clear hsv hbig
  rcases (show 8 < t.size ∨ t.size = 8 ∨ t.size < 8 by omega) with h | h | h
  · go_wp2
    go_ret2
    exact ⟨by rw [HR.out, intPair_ge (by have := HBIG.out 8 h; omega)]; rfl, rfl⟩
  · have hq : ((t.size : Int) == 8) = true := by rw [h]; rfl
    have hsz8 : t.size ≤ 8 := by omega
    have hsz9 : 8 ≤ t.size := by omega
    clear h hsz
    have hge := SN_ge8 hsz9 hsz8
    have hlt := t[0].toNat_lt
    rw [HSV.out] at hge
    rcases Nat.lt_or_ge 127 t[0].toNat with h1 | h1
    · have h1i : (127 : Int) < ((t[0].toNat : Nat) : Int) := by omega
      have hbig : 9223372036854775808 ≤ SN s := by
        have := hge.1
        have h2 : 128 * 256 ^ 7 ≤ t[0].toNat * 256 ^ 7 := Nat.mul_le_mul_right _ h1
        omega
      have HB := Lib.hid hbig
      clear hge hbig
      go_wp2
      all_goals go_ret2
      all_goals exact ⟨by rw [HR.out, intPair_ge HB.out]; rfl, rfl⟩
    · have h1i : ¬ (127 : Int) < ((t[0].toNat : Nat) : Int) := by omega
      have hsm : SN s < 9223372036854775808 := by
        have := hge.2
        have h2 : (t[0].toNat + 1) * 256 ^ 7 ≤ 128 * 256 ^ 7 := Nat.mul_le_mul_right _ (by omega)
        omega
      have HB := Lib.hid hsm
      clear hge hsm
      go_wp2
      go_loop [4, 5] (fun n k => RIntRel t n k) (fun _ k => t.size - (intOf k).toNat)
      case atStart => exact ⟨0, by omega, rfl, by simp⟩
      case round =>
        obtain ⟨j, hj, rfl, rfl⟩ := hrel
        rcases Nat.lt_or_ge j t.size with hlt2 | hge2
        · have h3 := val_take_next t j hlt2
          have h4 := t[j].toNat_lt
          have h5 : val (t.data.toList.take j) * 256 + t[j].toNat < 9223372036854775808 := by have := HB.out; have := HSV.out; omega
          have h6 := val_take_snoc t j hlt2
          obtain ⟨D, hD⟩ : ∃ D, val (t.data.toList.take j) = D := ⟨_, rfl⟩
          have h7 : wrap64 ((t[j].toNat : Nat) : Int) = ((t[j].toNat : Nat) : Int) := by unfold wrap64; omega
          rw [hD] at h5 h6 ⊢
          have H6 := Lib.hid h6
          clear h3 h6 hD
          go_wp2
          go_round
          case rel => exact ⟨j + 1, by omega, by go_num, by rw [H6.out]; congr 1⟩
          case measure => simp [intOf]; omega
        · obtain rfl : j = t.size := by omega
          go_wp2
          go_ret2
          refine ⟨?_, rfl⟩
          rw [HR.out, intPair_lt HB.out, List.take_of_length_le (by simp), ← HSV.out]
          rfl
  · have hsm : SN s < 9223372036854775808 := by
      have h1 := SN_lt t
      rw [HSV.out] at h1
      have h2 : (256 : Nat) ^ t.size ≤ 256 ^ 7 := Nat.pow_le_pow_right (by decide) (by omega)
      omega
    have HB := Lib.hid hsm
    clear hsm
    go_wp2
    go_loop [4, 5] (fun n k => RIntRel t n k) (fun _ k => t.size - (intOf k).toNat)
    case atStart => exact ⟨0, by omega, rfl, by simp⟩
    case round =>
      obtain ⟨j, hj, rfl, rfl⟩ := hrel
      rcases Nat.lt_or_ge j t.size with hlt2 | hge2
      · have h3 := val_take_next t j hlt2
        have h4 := t[j].toNat_lt
        have h5 : val (t.data.toList.take j) * 256 + t[j].toNat < 9223372036854775808 := by have := HB.out; have := HSV.out; omega
        have h6 := val_take_snoc t j hlt2
        obtain ⟨D, hD⟩ : ∃ D, val (t.data.toList.take j) = D := ⟨_, rfl⟩
        have h7 : wrap64 ((t[j].toNat : Nat) : Int) = ((t[j].toNat : Nat) : Int) := by unfold wrap64; omega
        rw [hD] at h5 h6 ⊢
        have H6 := Lib.hid h6
        clear h3 h6 hD
        go_wp2
        go_round
        case rel => exact ⟨j + 1, by omega, by go_num, by rw [H6.out]; congr 1⟩
        case measure => simp [intOf]; omega
      · obtain rfl : j = t.size := by omega
        go_wp2
        go_ret2
        refine ⟨?_, rfl⟩
        rw [HR.out, intPair_lt HB.out, List.take_of_length_le (by simp), ← HSV.out]
        rfl

set_option maxRecDepth 100000 in
theorem small_yes (s : ByteArray) (k : Nat) (w : World) (hs : s.size ≤ 268435456) (hk : k ≤ 7) (h : SN s < 256 ^ k) :
    Calls Tryz.prog 60 #[.string s, .int .i64 (k : Int)] w fun e w' => e = .returned (.tuple #[.int .i64 ((SN s : Nat) : Int), .bool true]) ∧ w = w' := by
  have hsz : (Enc (SN s)).size ≤ k := Enc_size_le h
  have hi := RInt_any s w hs
  have hlt : SN s < 9223372036854775808 := Nat.lt_of_lt_of_le h (Nat.le_trans (Nat.pow_le_pow_right (by decide) hk) (by decide))
  rw [intPair_lt hlt] at hi
  have HI := Lib.hid hi
  clear hi hlt h
  go_enter Tryz.func60, Tryz.ntmps60
  go_wp2_with fail
  refine (Canon_any s _ hs).mono ?_
  rintro _ _ ⟨rfl, rfl⟩
  generalize Enc (SN s) = t at *
  go_wp2_with fail
  refine HI.out.mono ?_
  rintro _ _ ⟨rfl, rfl⟩
  go_wp2_with fail
  go_ret2
  exact ⟨rfl, rfl⟩

set_option maxRecDepth 100000 in
theorem small_no (s : ByteArray) (k : Nat) (w : World) (hs : s.size ≤ 268435456) (h : 256 ^ k ≤ SN s) :
    Calls Tryz.prog 60 #[.string s, .int .i64 (k : Int)] w fun e w' => e = .returned (.tuple #[.int .i64 0, .bool false]) ∧ w = w' := by
  have hsz : k < (Enc (SN s)).size := by
    rcases Nat.lt_or_ge k (Enc (SN s)).size with h1 | h1
    · exact h1
    · have := Enc_small h1; omega
  clear h
  go_enter Tryz.func60, Tryz.ntmps60
  go_wp2_with fail
  refine (Canon_any s _ hs).mono ?_
  rintro _ _ ⟨rfl, rfl⟩
  generalize Enc (SN s) = t at *
  go_wp2_with fail
  go_ret2
  exact ⟨rfl, rfl⟩

theorem small_any (s : ByteArray) (k : Nat) (w : World) (hs : s.size ≤ 268435456) (hk : k ≤ 7) (b : Bool) (hb : b = decide (SN s < 256 ^ k)) :
    Calls Tryz.prog 60 #[.string s, .int .i64 (k : Int)] w fun e w' => ∃ z : Int, e = .returned (.tuple #[.int .i64 z, .bool b]) ∧ (b = true → z = (SN s : Int)) ∧ w = w' := by
  rcases Nat.lt_or_ge (SN s) (256 ^ k) with h | h
  · rw [decide_eq_true h] at hb
    subst hb
    exact (small_yes s k w hs hk h).mono fun _ _ ⟨e, h⟩ => ⟨_, e, (fun _ => rfl), h⟩
  · rw [decide_eq_false (by omega)] at hb
    subst hb
    exact (small_no s k w hs h).mono fun _ _ ⟨e, h⟩ => ⟨_, e, (fun h => by cases h), h⟩

end Go.Proofs.YtolmjeglaolhlaaGreatDoor

/- sortesref01.Cmp. -/
namespace Go.Proofs.YtolmjeglaolhlaaGreatDoor
open Go.RowKit Num

theorem val_inj_len {s t : List UInt8} (hl : s.length = t.length) (h : val s = val t) : s = t := by
  have h1 := vl_inj (b := 256) (bytes_dig s.reverse) (bytes_dig t.reverse) (by simp [hl]) h
  have h2 : ∀ (a b : List UInt8), a.map UInt8.toNat = b.map UInt8.toNat → a = b := by
    intro a
    induction a with
    | nil => intro b hb; cases b with
      | nil => rfl
      | cons y b => simp at hb
    | cons x a ih => intro b hb; cases b with
      | nil => simp at hb
      | cons y b =>
        simp only [List.map_cons, List.cons.injEq] at hb
        rw [UInt8.toNat_inj.1 hb.1, ih b hb.2]
  simpa using congrArg List.reverse (h2 _ _ h1)

set_option maxRecDepth 100000 in
set_option maxHeartbeats 1000000 in
theorem RCmp_any (a b : ByteArray) (w : World) (ha : a.size ≤ 268435456) (hb : b.size ≤ 268435456) :
    Calls Tryz.prog 84 #[.string a, .string b] w fun e w' => e = .returned (.int .i64 (cmpZ (SN a) (SN b))) ∧ w = w' := by
  obtain ⟨R, hR⟩ : ∃ R, R = cmpZ (SN a) (SN b) := ⟨_, rfl⟩
  rw [← hR]
  have HR := Lib.hid hR; clear hR
  go_enter Tryz.func84, Tryz.ntmps84
  go_wp2_with fail
  refine (Canon_any a _ ha).mono ?_
  rintro _ _ ⟨rfl, rfl⟩
  go_wp2_with fail
  refine (Canon_any b _ hb).mono ?_
  rintro _ _ ⟨rfl, rfl⟩
  have h1 : SN (Enc (SN a)) = SN a := SN_Enc _
  have h2 : SN (Enc (SN b)) = SN b := SN_Enc _
  have h3 : ∀ k, k < (Enc (SN a)).size → 256 ^ k ≤ SN a := fun k h => Enc_big h
  have h4 : ∀ k, k < (Enc (SN b)).size → 256 ^ k ≤ SN b := fun k h => Enc_big h
  have h5 : ∀ k, (Enc (SN a)).size ≤ k → SN a < 256 ^ k := fun k h => Enc_small h
  have h6 : ∀ k, (Enc (SN b)).size ≤ k → SN b < 256 ^ k := fun k h => Enc_small h
  have hsa : (Enc (SN a)).size ≤ 268435456 := Nat.le_trans (Enc_size_le (SN_lt a)) ha
  have hsb : (Enc (SN b)).size ≤ 268435456 := Nat.le_trans (Enc_size_le (SN_lt b)) hb
  generalize Enc (SN a) = x at *
  generalize Enc (SN b) = y at *
  have H1 := Lib.hid h1; have H2 := Lib.hid h2; have H3 := Lib.hid h3; have H4 := Lib.hid h4; have H5 := Lib.hid h5; have H6 := Lib.hid h6
  clear h1 h2 h3 h4 h5 h6
  go_wp2
  all_goals go_ret
  · have hlt : x.size < y.size := by assumption
    exact ⟨by rw [HR.out, cmpZ_lt (Nat.lt_of_lt_of_le (H5.out _ (Nat.le_refl _)) (H4.out _ hlt))]; rfl, rfl⟩
  · have hne : ((x.size : Int) != (y.size : Int)) = true := by assumption
    have hge : ¬ x.size < y.size := by assumption
    have hlt : y.size < x.size := by rw [bne_iff_ne] at hne; omega
    exact ⟨by rw [HR.out, cmpZ_gt (Nat.lt_of_lt_of_le (H6.out _ (Nat.le_refl _)) (H3.out _ hlt))]; rfl, rfl⟩
  all_goals
    have hsz : ((x.size : Int) != (y.size : Int)) = false := by assumption
    have hl : x.data.toList.length = y.data.toList.length := by
      have h : (x.size : Int) = (y.size : Int) := by simpa using hsz
      show x.size = y.size
      omega
    have hbl := bytesLess_val _ _ hl
    rw [← Lib.toList_data x, ← Lib.toList_data y] at hbl
  · have hb : Op.bytesLess x.toList y.toList = true := by assumption
    rw [hb] at hbl
    have hv : SN x < SN y := by simpa [SN, Lib.toList_data] using hbl.symm
    rw [H1.out, H2.out] at hv
    exact ⟨by rw [HR.out, cmpZ_lt hv]; rfl, rfl⟩
  · have hb : Op.bytesLess x.toList y.toList = false := by assumption
    have hne : (!x.toList == y.toList) = true := by assumption
    rw [hb] at hbl
    have hv : SN y ≤ SN x := by simpa [SN, Lib.toList_data] using hbl.symm
    have hv2 : SN x ≠ SN y := fun e => by
      have h1 := val_inj_len (by rw [Lib.toList_data, Lib.toList_data]; exact hl) (show val x.toList = val y.toList by rw [Lib.toList_data, Lib.toList_data]; exact e)
      rw [h1] at hne
      simp at hne
    rw [H1.out, H2.out] at hv hv2
    exact ⟨by rw [HR.out, cmpZ_gt (by omega)]; rfl, rfl⟩
  · have he : (!x.toList == y.toList) = false := by assumption
    have hv : SN x = SN y := by
      have h1 : x.toList = y.toList := by simpa using he
      rw [Lib.toList_data, Lib.toList_data] at h1
      unfold SN
      rw [h1]
    rw [H1.out, H2.out] at hv
    exact ⟨by rw [HR.out, cmpZ_eq hv]; rfl, rfl⟩

end Go.Proofs.YtolmjeglaolhlaaGreatDoor

/- sortesref01.of: the digits to the base 2^24. -/
namespace Go.Proofs.YtolmjeglaolhlaaGreatDoor
open Go.RowKit Num

/-- Three bytes more. -/
theorem val_chunk (t : List UInt8) (n m : Nat) (h1 : n ≤ m) (h2 : m ≤ t.length) :
    val (t.drop n) = val ((t.drop n).take (m - n)) * 256 ^ (t.length - m) + val (t.drop m) := by
  have _ := h2
  have h := val_append ((t.drop n).take (m - n)) ((t.drop n).drop (m - n))
  rw [List.take_append_drop] at h
  rw [h, List.drop_drop, show n + (m - n) = m by omega]
  simp

theorem val_take_succ (t : List UInt8) (n j : Nat) (h : n + j < t.length) : val ((t.drop n).take (j + 1)) = val ((t.drop n).take j) * 256 + (t.getD (n + j) 0).toNat := by
  rw [List.take_add_one, List.getElem?_drop, List.getElem?_eq_getElem h]
  simp only [Option.toList_some, val_snoc]
  congr 2
  simp [List.getD_eq_getElem?_getD, List.getElem?_eq_getElem h]

/-- What the outer loop holds: the digits of the bytes behind. -/
def ROfRel (w : World) (t : List UInt8) (o i : Value) (wr : World) : Prop :=
  ∃ l : List Nat, 3 * l.length ≤ t.length + 2 ∧ i = .int .i64 ((t.length : Int) - 3 * (l.length : Int)) ∧ OwnL .i64 wr w.heap.size 3 o l ∧ Dig 16777216 l ∧ vl 16777216 l = val (t.drop (t.length - 3 * l.length)) ∧ Below w.heap.size w wr

theorem ROfRel.step {w wr w' : World} {t : List UInt8} {l : List Nat} {v' : Value} {d : Nat} (h3 : 3 * l.length < t.length) (hd : Dig 16777216 l) (hv : vl 16777216 l = val (t.drop (t.length - 3 * l.length)))
    (hx : d = val ((t.drop (t.length - 3 * (l.length + 1))).take (t.length - 3 * l.length - (t.length - 3 * (l.length + 1)))))
    (ho : OwnL .i64 w' w.heap.size 3 v' (l ++ [d])) (hb : Below w.heap.size w w') (z : Int) (hz : z = (t.length : Int) - 3 * (l.length : Int) - 3) :
    ROfRel w t v' (.int .i64 z) w' := by
  have _ := wr
  refine ⟨l ++ [d], by simp; omega, by simp; omega, ho, hd.append (Dig.cons ?_ (Dig.nil _)), ?_, hb⟩
  · rw [hx]
    have := val_lt ((t.drop (t.length - 3 * (l.length + 1))).take (t.length - 3 * l.length - (t.length - 3 * (l.length + 1))))
    refine Nat.lt_of_lt_of_le this ?_
    rw [show (16777216 : Nat) = 256 ^ 3 by decide]
    refine Nat.pow_le_pow_right (by decide) ?_
    simp; omega
  · rw [vl_snoc, hv]
    simp only [List.length_append, List.length_cons, List.length_nil, Nat.zero_add]
    rw [val_chunk t (t.length - 3 * (l.length + 1)) (t.length - 3 * l.length) (by omega) (by omega), ← hx, show t.length - (t.length - 3 * l.length) = 3 * l.length by omega, Nat.pow_mul]
    rw [show (256 : Nat) ^ 3 = 16777216 by decide]
    generalize 16777216 ^ l.length = P
    generalize val (t.drop (t.length - 3 * l.length)) = q
    rw [Nat.mul_comm]; omega

theorem rof_inner {t : ByteArray} {T : List UInt8} (hT : t.data.toList = T) {i : Nat} (hi : i < t.size) {dd : Nat} (hdd : dd ≤ 65535) :
    wrap64 ((dd : Int) * 256 + wrap64 ((t[i].toNat : Nat) : Int)) = ((dd * 256 + (T.getD i 0).toNat : Nat) : Int) := by
  have e : T.getD i 0 = t[i] := by
    rw [← hT, List.getD_eq_getElem?_getD, List.getElem?_eq_getElem (by simpa using hi)]
    rfl
  rw [e]
  have := t[i].toNat_lt
  generalize t[i].toNat = c at *
  unfold wrap64
  omega

set_option maxRecDepth 100000 in
set_option maxHeartbeats 2000000 in
/-- **sortesref01.of**. -/
theorem rof_any (s : ByteArray) (w : World) (hs : s.size ≤ 268435456) :
    Calls Tryz.prog 61 #[.string s] w fun e w' => ∃ v l, e = .returned v ∧ Sl .i64 w' v l ∧ Dig 16777216 l ∧ Tr l ∧ vl 16777216 l = SN s ∧ 3 * l.length ≤ s.size + 2 ∧ Below w.heap.size w w' := by
  obtain ⟨i0, hi, hz0, hz1, hz2⟩ := info_parts info_int
  go_enter Tryz.func61, Tryz.ntmps61
  go_wp2_with fail
  refine (Canon_any s _ hs).mono ?_
  rintro _ _ ⟨rfl, rfl⟩
  have hsv : SN (Enc (SN s)) = SN s := SN_Enc _
  have hbig : ∀ k, k < (Enc (SN s)).size → 256 ^ k ≤ SN s := fun k h => Enc_big h
  have hsz : (Enc (SN s)).size ≤ 268435456 := Nat.le_trans (Enc_size_le (SN_lt s)) hs
  have hts : (Enc (SN s)).size ≤ s.size := Enc_size_le (SN_lt s)
  generalize Enc (SN s) = t at *
  have HSV := Lib.hid hsv; have HBIG := Lib.hid hbig; clear hsv hbig
  have HS := Lib.hid hs; clear hs
  have hN2 : t.data.toList.length = t.size := rfl
  obtain ⟨T, hT⟩ : ∃ T, t.data.toList = T := ⟨_, rfl⟩
  rw [hT] at hN2
  go_wp2
  go_loopw [3, 4] (fun o i wr => ROfRel w T o i wr) (fun _ i _ => (intOf i).toNat)
  case atStart => exact ⟨[], by simp, by rw [hN2]; simp, OwnL.nil _ _ _ _, Dig.nil _, by simp, Below.refl _ _⟩
  case round =>
    obtain ⟨l, hl, rfl, ho, hd, hv, hb⟩ := hrel
    have HO := Lib.hid ho; have HV := Lib.hid hv; have HBel := Lib.hid hb; have HD := Lib.hid hd
    clear ho hv hb hd
    have hTN := hN2
    rw [hN2] at hl HV ⊢
    generalize hN : t.size = N at *
    rcases Nat.lt_or_ge (3 * l.length) N with hlt | hge
    · obtain ⟨e, he⟩ : ∃ e, e = N - 3 * l.length := ⟨_, rfl⟩
      obtain ⟨n', hn'⟩ : ∃ n', n' = N - 3 * (l.length + 1) := ⟨_, rfl⟩
      have ez : (N : Int) - 3 * (l.length : Int) = (e : Int) := by omega
      have em : max ((e : Int) - 3) 0 = (n' : Int) := by omega
      have he0 : 0 < e := by omega
      have hne : n' ≤ e := by omega
      have hn3 : e ≤ n' + 3 := by omega
      have heN : e ≤ N := by omega
      rw [ez]
      have HE := Lib.hid he; have HN' := Lib.hid hn'; have EZ := Lib.hid ez
      clear he hn' ez
      have hm : (n' = 0 ∧ (e : Int) - 3 < 0) ∨ ((e : Int) - 3 = (n' : Int)) := by have := HE.out; have := HN'.out; omega
      clear em
      rcases hm with ⟨h0, hm⟩ | hm
      all_goals go_wp2
      all_goals go_loop [5, 6] (fun d k => ∃ (j dd : Nat), n' + j ≤ e ∧ k = .int .i64 ((n' + j : Nat) : Int) ∧ d = .int .i64 (dd : Int) ∧ dd = val ((T.drop n').take j)) (fun _ k => e - (intOf k).toNat)
      case atStart => exact ⟨0, 0, by omega, by simp [h0], rfl, by simp⟩
      case atStart => exact ⟨0, 0, by omega, by simp, rfl, by simp⟩
      all_goals
        obtain ⟨j, dd, hj, rfl, rfl, hdd⟩ := hrel
        have hown : wr.ownsRow w.heap.size 3 1 u3 l.length (ints .i64 l) := HO.out
        have hwB := HBel.out.size
        rcases Nat.lt_or_ge (n' + j) e with hje | hje
        · have hb3 : dd ≤ 65535 := by
            have h1 := val_lt ((T.drop n').take j)
            rw [← hdd] at h1
            have h2 : ((T.drop n').take j).length ≤ 2 := by simp; omega
            have h3 : (256 : Nat) ^ ((T.drop n').take j).length ≤ 256 ^ 2 := Nat.pow_le_pow_right (by decide) h2
            omega
          have hsz3 : n' + j < t.size := by omega
          have HDD := Lib.hid hdd
          clear hdd
          go_wp2
          refine ⟨⟨j + 1, val ((T.drop n').take (j + 1)), by omega, by simp; omega, ?_, rfl⟩, by simp only [intOf]; omega⟩
          rw [val_take_succ _ _ _ (by omega), ← HDD.out, ← rof_inner hT hsz3 hb3]
          try (subst h0; simp)
        · obtain rfl : n' + j = e := by omega
          have HDD := Lib.hid hdd
          clear hdd
          go_wp2_with (at_builtin; refine wpList_append_own_at _ rfl _ _ 76 rfl w.heap.size 3 i0 (.int .i64 0) 1 8 Tryz.underlying76 hi hz0 hz1 hz2 rfl (by decide) _ _ _ rfl (hown.alloc _) ⟨wr.heap.size, 0, none⟩ 1 1 [.int .i64 (dd : Int)] rfl rfl (cell_one_new _ _ _) (by intro u hu; simp at hu; subst hu; rfl) (by unfold maxLen; omega) (by omega) (by simp; omega) ?_; intro v' w1 hown' hgrow _ _)
          have hb1 : Below w.heap.size w w1 := (HBel.out.alloc hwB _).trans (OwnL.grown (k := .i64) (l := l) (e := 3) (hown.alloc _) (by simp; omega) hgrow)
          have hx : dd = val ((T.drop (T.length - 3 * (l.length + 1))).take (T.length - 3 * l.length - (T.length - 3 * (l.length + 1)))) := by
            rw [hTN, ← HN'.out, ← HE.out, show n' + j - n' = j by omega]; exact HDD.out
          have hEZ := EZ.out
          refine ⟨ROfRel.step (wr := wr) (by omega) HD.out (by rw [hTN]; exact HV.out) hx (OwnL.snoc hown') hb1 _ (by omega), by simp only [intOf]; omega⟩
    · go_wp2
      go_ret
      have hv : vl 16777216 l = SN s := by
        rw [HV.out, show N - 3 * l.length = 0 by omega, List.drop_zero, ← hT]
        exact HSV.out
      refine ⟨_, l, ?_, HO.out.sl, HD.out, ?_, hv, ?_, HBel.out⟩
      · rfl
      · rcases Nat.eq_zero_or_pos l.length with hl0 | hl0
        · rw [List.length_eq_zero_iff.1 hl0]; exact Tr.nil
        · apply Tr.of_last
          intro h0
          have h1 := split_last hl0
          rw [h0] at h1
          have h2 : vl 16777216 l = vl 16777216 (l.take (l.length - 1)) := by
            conv => lhs; rw [h1]
            rw [vl_snoc]; simp
          have h3 := vl_lt (HD.out.take (l.length - 1))
          rw [← h2, hv, List.length_take, Nat.min_eq_left (by omega)] at h3
          have h4 := HBIG.out (3 * (l.length - 1)) (by omega)
          rw [Nat.pow_mul] at h4
          have h5 : (256 : Nat) ^ 3 = 16777216 := by decide
          rw [h5] at h4
          omega
      · omega

end Go.Proofs.YtolmjeglaolhlaaGreatDoor

/- sortesref01.Of: the canonical string of an int. -/
namespace Go.Proofs.YtolmjeglaolhlaaGreatDoor
open Go.RowKit Num

def ROfNRel (w : World) (n : Nat) (o k : Value) (wr : World) : Prop :=
  ∃ (j : Nat) (b : List Nat), j ≤ 8 ∧ k = .int .i64 (56 - 8 * (j : Int)) ∧ OwnL .u8 wr w.heap.size 5 o b ∧ Dig 256 b ∧ b.length = j ∧ val (b.map UInt8.ofNat) = n / 256 ^ (8 - j) ∧ Below w.heap.size w wr

set_option maxRecDepth 100000 in
set_option maxHeartbeats 2000000 in
theorem ROfN_pos (n : Nat) (w : World) (h0 : 0 < n) (hn : n < 9223372036854775808) :
    Calls Tryz.prog 16 #[.int .i64 (n : Int)] w fun e w' => e = .returned (.string (Enc n)) ∧ Below w.heap.size w w' := by
  obtain ⟨i0, hi, hz0, hz1, hz2⟩ := info_parts info_u8
  go_enter Tryz.func16, Tryz.ntmps16
  go_wp2
  go_loopw [3, 4] (fun o k wr => ROfNRel w n o k wr) (fun _ k _ => (intOf k + 8).toNat)
  case atStart => exact ⟨0, [], by omega, rfl, OwnL.nil _ _ _ _, Dig.nil _, rfl, by rw [Nat.div_eq_of_lt (by omega)]; rfl, Below.refl _ _⟩
  case round =>
    obtain ⟨j, b, hj, rfl, ho, hdb, hlb, hvb, hbel⟩ := hrel
    have HO := Lib.hid ho; have HDB := Lib.hid hdb; have HLB := Lib.hid hlb; have HVB := Lib.hid hvb; have HBel := Lib.hid hbel
    clear ho hdb hlb hvb hbel
    have hown : wr.ownsRow w.heap.size 5 1 u3 j (ints .u8 b) := by rw [← HLB.out]; exact HO.out
    have hwB := HBel.out.size
    rcases Nat.lt_or_ge j 8 with hlt | hge
    · obtain ⟨P, hP⟩ : ∃ P, P = n / 2 ^ (56 - 8 * j) := ⟨_, rfl⟩
      have hPi : (n : Int) / 2 ^ (56 - 8 * j) = (P : Int) := by rw [hP]; simp
      have HP := Lib.hid hP; clear hP
      go_wp2_with (at_builtin; refine wpList_append_own_at _ rfl _ _ 22 rfl w.heap.size 5 i0 (.int .u8 0) 1 1 Tryz.underlying22 hi hz0 hz1 hz2 rfl (by decide) _ _ _ rfl (hown.alloc _) ⟨wr.heap.size, 0, none⟩ 1 1 [_] rfl rfl (cell_one_new _ _ _) (by intro u hu; simp at hu; subst hu; rfl) (by unfold maxLen; omega) (by omega) (by simp; omega) ?_; intro v' w1 hown' hgrow _ _)
      have hb1 : Below w.heap.size w w1 := (HBel.out.alloc hwB _).trans (OwnL.grown (k := .u8) (l := b) (e := 5) (by rw [OwnL, HLB.out]; exact hown.alloc _) (by simp; omega) hgrow)
      have hown2 := OwnL.snoc' (P % 256) (by rw [HLB.out]; exact hown') (by omega)
      refine ⟨⟨j + 1, b ++ [P % 256], by omega, by congr 1; omega, hown2, HDB.out.append (Dig.cons (Nat.mod_lt _ (by decide)) (Dig.nil _)), by rw [List.length_append, HLB.out]; rfl, ?_, hb1⟩, by simp only [intOf]; omega⟩
      rw [List.map_append, List.map_cons, List.map_nil, val_snoc, HVB.out, show 8 - j = (8 - (j + 1)) + 1 by omega, Nat.pow_succ, ← Nat.div_div_eq_div_mul]
      have e : P = n / 256 ^ (8 - (j + 1)) := by
        rw [HP.out, show (256 : Nat) = 2 ^ 8 by decide, ← Nat.pow_mul]; congr 2; omega
      rw [← e]
      have := Nat.mod_lt P (show 0 < 256 by decide)
      rw [show (UInt8.ofNat (P % 256)).toNat = P % 256 by simp]
      omega
    · obtain rfl : j = 8 := by omega
      have hcv := HO.out.conv
      have hv : SN ⟨(b.map UInt8.ofNat).toArray⟩ = n := by
        show val (b.map UInt8.ofNat).toArray.toList = n
        have := HVB.out
        simpa using this
      have hs : (ByteArray.mk (b.map UInt8.ofNat).toArray).size ≤ 268435456 := by
        show (b.map UInt8.ofNat).toArray.size ≤ _
        have := HLB.out
        simp; omega
      generalize (ByteArray.mk (b.map UInt8.ofNat).toArray) = S at *
      have HVV := Lib.hid hv; clear hv
      go_wp2_with fail
      refine (Canon_any S _ hs).mono ?_
      rintro _ _ ⟨rfl, rfl⟩
      go_wp2_with fail
      go_ret
      exact ⟨by rw [HVV.out]; rfl, HBel.out⟩

set_option maxRecDepth 100000 in
/-- **sortesref01.Of**. -/
theorem ROfN_any (z : Int) (w : World) (h2 : z ≤ 9223372036854775807) :
    Calls Tryz.prog 16 #[.int .i64 z] w fun e w' => e = .returned (.string (Enc z.toNat)) ∧ Below w.heap.size w w' := by
  rcases (show z ≤ 0 ∨ 0 < z by omega) with hz | hz
  · obtain ⟨t, ht⟩ : ∃ t, t = z.toNat := ⟨_, rfl⟩
    rw [← ht]
    obtain rfl : t = 0 := by omega
    clear ht
    have hcv := (OwnL.nil .u8 w w.heap.size 5).conv
    go_enter Tryz.func16, Tryz.ntmps16
    go_wp2
    go_loopw [3, 4] (fun o k wr => o = .slice none 0 0 ∧ k = .int .i64 56 ∧ w = wr) (fun _ _ _ => 0)
    case atStart => exact ⟨rfl, rfl, rfl⟩
    case round =>
      obtain ⟨rfl, rfl, rfl⟩ := hrel
      go_wp2_with fail
      refine (Canon_any _ _ (by decide)).mono ?_
      rintro _ _ ⟨rfl, rfl⟩
      go_wp2_with fail
      go_ret
      exact ⟨rfl, Below.refl _ _⟩
  · obtain ⟨n, rfl⟩ : ∃ n : Nat, z = (n : Int) := ⟨z.toNat, by omega⟩
    rw [Int.toNat_natCast]
    exact ROfN_pos n w (by omega) (by omega)

#print axioms ROfN_any
end Go.Proofs.YtolmjeglaolhlaaGreatDoor
