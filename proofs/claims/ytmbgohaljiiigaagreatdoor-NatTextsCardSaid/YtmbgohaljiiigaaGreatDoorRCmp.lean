/- sortesref01.Cmp. -/
import Derived.Test.YtmbgohaljiiigaaGreatDoorCanon
import Derived.Test.YtmbgohaljiiigaaGreatDoorRPlain
import Derived.WalkLawsBesides
import Derived.Lib.Strings
namespace Go.Proofs.YtmbgohaljiiigaaGreatDoor
open Go.RowKit Num

theorem val_inj_len {s t : List UInt8} (hl : s.length = t.length) (h : val s = val t) : s = t := by
  have h1 := vl_inj (b := 256) (bytes_dig s.reverse) (bytes_dig t.reverse) (by simp [hl]) h
  have h2 : ∀ (a b : List UInt8), a.map UInt8.toNat = b.map UInt8.toNat → a = b := by
    intro a
    induction a with
    | nil => intro b hb; cases b with
      | nil => rfl
      | cons y b => simp at hb
    | cons x a ih => intro b hb; cases b with
      | nil => simp at hb
      | cons y b =>
        simp only [List.map_cons, List.cons.injEq] at hb
        rw [UInt8.toNat_inj.1 hb.1, ih b hb.2]
  simpa using congrArg List.reverse (h2 _ _ h1)

set_option maxRecDepth 100000 in
set_option maxHeartbeats 1000000 in
theorem RCmp_any (a b : ByteArray) (w : World) (ha : a.size ≤ 268435456) (hb : b.size ≤ 268435456) :
    Calls Tryz.prog 69 #[.string a, .string b] w fun e w' => e = .returned (.int .i64 (cmpZ (SN a) (SN b))) ∧ w = w' := by
  obtain ⟨R, hR⟩ : ∃ R, R = cmpZ (SN a) (SN b) := ⟨_, rfl⟩
  rw [← hR]
  have HR := Lib.hid hR; clear hR
  go_enter Tryz.func69, Tryz.ntmps69
  go_wp2_with fail
  refine (Canon_any a _ ha).mono ?_
  rintro _ _ ⟨rfl, rfl⟩
  go_wp2_with fail
  refine (Canon_any b _ hb).mono ?_
  rintro _ _ ⟨rfl, rfl⟩
  have h1 : SN (Enc (SN a)) = SN a := SN_Enc _
  have h2 : SN (Enc (SN b)) = SN b := SN_Enc _
  have h3 : ∀ k, k < (Enc (SN a)).size → 256 ^ k ≤ SN a := fun k h => Enc_big h
  have h4 : ∀ k, k < (Enc (SN b)).size → 256 ^ k ≤ SN b := fun k h => Enc_big h
  have h5 : ∀ k, (Enc (SN a)).size ≤ k → SN a < 256 ^ k := fun k h => Enc_small h
  have h6 : ∀ k, (Enc (SN b)).size ≤ k → SN b < 256 ^ k := fun k h => Enc_small h
  have hsa : (Enc (SN a)).size ≤ 268435456 := Nat.le_trans (Enc_size_le (SN_lt a)) ha
  have hsb : (Enc (SN b)).size ≤ 268435456 := Nat.le_trans (Enc_size_le (SN_lt b)) hb
  generalize Enc (SN a) = x at *
  generalize Enc (SN b) = y at *
  have H1 := Lib.hid h1; have H2 := Lib.hid h2; have H3 := Lib.hid h3; have H4 := Lib.hid h4; have H5 := Lib.hid h5; have H6 := Lib.hid h6
  clear h1 h2 h3 h4 h5 h6
  go_wp2
  all_goals go_ret
  · have hlt : x.size < y.size := by assumption
    exact ⟨by rw [HR.out, cmpZ_lt (Nat.lt_of_lt_of_le (H5.out _ (Nat.le_refl _)) (H4.out _ hlt))]; rfl, rfl⟩
  · have hne : ((x.size : Int) != (y.size : Int)) = true := by assumption
    have hge : ¬ x.size < y.size := by assumption
    have hlt : y.size < x.size := by rw [bne_iff_ne] at hne; omega
    exact ⟨by rw [HR.out, cmpZ_gt (Nat.lt_of_lt_of_le (H6.out _ (Nat.le_refl _)) (H3.out _ hlt))]; rfl, rfl⟩
  all_goals
    have hsz : ((x.size : Int) != (y.size : Int)) = false := by assumption
    have hl : x.data.toList.length = y.data.toList.length := by
      have h : (x.size : Int) = (y.size : Int) := by simpa using hsz
      show x.size = y.size
      omega
    have hbl := bytesLess_val _ _ hl
    rw [← Lib.toList_data x, ← Lib.toList_data y] at hbl
  · have hb : Op.bytesLess x.toList y.toList = true := by assumption
    rw [hb] at hbl
    have hv : SN x < SN y := by simpa [SN, Lib.toList_data] using hbl.symm
    rw [H1.out, H2.out] at hv
    exact ⟨by rw [HR.out, cmpZ_lt hv]; rfl, rfl⟩
  · have hb : Op.bytesLess x.toList y.toList = false := by assumption
    have hne : (!x.toList == y.toList) = true := by assumption
    rw [hb] at hbl
    have hv : SN y ≤ SN x := by simpa [SN, Lib.toList_data] using hbl.symm
    have hv2 : SN x ≠ SN y := fun e => by
      have h1 := val_inj_len (by rw [Lib.toList_data, Lib.toList_data]; exact hl) (show val x.toList = val y.toList by rw [Lib.toList_data, Lib.toList_data]; exact e)
      rw [h1] at hne
      simp at hne
    rw [H1.out, H2.out] at hv hv2
    exact ⟨by rw [HR.out, cmpZ_gt (by omega)]; rfl, rfl⟩
  · have he : (!x.toList == y.toList) = false := by assumption
    have hv : SN x = SN y := by
      have h1 : x.toList = y.toList := by simpa using he
      rw [Lib.toList_data, Lib.toList_data] at h1
      unfold SN
      rw [h1]
    rw [H1.out, H2.out] at hv
    exact ⟨by rw [HR.out, cmpZ_eq hv]; rfl, rfl⟩

#print axioms RCmp_any
end Go.Proofs.YtmbgohaljiiigaaGreatDoor
