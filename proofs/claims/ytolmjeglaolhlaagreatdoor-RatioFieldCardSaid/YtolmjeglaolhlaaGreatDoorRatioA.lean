/- ratio: positive, lowest, Of. -/
import Derived.Test.YtolmjeglaolhlaaGreatDoorNatA
import Derived.Deep.QuietTactic
import Derived.BigQuiet
import Derived.RegionTactic
import Derived.BigRegion
import Derived.Deep.RegionHeld3
import Derived.Deep.Cut
import Derived.Laws.Rows
namespace Go.Proofs.YtolmjeglaolhlaaGreatDoor
open Go.RowKit Num

/-- A struct of a sign and two strings. -/
abbrev RV (s : Bool) (a b : ByteArray) : Value := .agg #[.bool s, .string a, .string b]
/-- A rational number as a value. -/
def rv (q : Rat) : Value := RV (decide (q.num < 0)) (Enc q.num.natAbs) (Enc q.den)

/-- A function returns the struct that its result's box holds. -/
theorem ret_rat {R : Ending → World → Prop} {x : Act} {w : World} {B : Nat} {s : Bool} {a b : ByteArray} {fn : Func} {p : Tmp} (h : fn.results = #[.cell p 39]) (hp : x.tmps.getD p undef = .pointer (some ⟨B, 0, none⟩)) (hb : Blk w B 39 [.bool s, .string a, .string b])
    (hd : x.defers = []) (hR : R (.returned (RV s a b)) w) : bodyPost Tryz.prog fn R .ret x w :=
  bodyPost_ret (Go.results_cell_row h _ w B 39 #[.bool s, .string a, .string b] _ _ hp hb Tryz.underlying39 rfl (by kernel_rfl)) hd hR

/-- A struct is stored. -/
theorem set3 {X : World} {B : Nat} {t : TypeId} {u0 u1 u2 : Value} (h : Blk X B t [u0, u1, u2]) (a b c : Value) : Blk (((X.setCell ⟨B, 0, none⟩ a).setCell ⟨B, 1, none⟩ b).setCell ⟨B, 2, none⟩ c) B t [a, b, c] := ((h.put 0 a).put 1 b).put 2 c
theorem bel3 {n : Nat} {w X : World} (h : Below n w X) {B : Nat} (hB : n ≤ B) (a b c : Value) : Below n w (((X.setCell ⟨B, 0, none⟩ a).setCell ⟨B, 1, none⟩ b).setCell ⟨B, 2, none⟩ c) := ((h.setCell hB a).setCell hB b).setCell hB c

theorem SN_empty : SN ⟨#[]⟩ = 0 := by kernel_rfl
theorem Enc_one : Enc 1 = ⟨#[1]⟩ := by kernel_rfl

set_option maxRecDepth 100000 in
set_option maxHeartbeats 1000000 in
/-- **ratio.checker.positive**, the limit nought. -/
theorem positive_any (n : ByteArray) (w : World) (hn : n.size ≤ 268435456) (v : Bool) (hv : (rightB n.data.toList && decide (SN n ≠ 0)) = v) :
    Calls Tryz.prog 76 #[.agg #[.string ⟨#[]⟩], .string n] w fun e w' => e = .returned (.bool v) ∧ Below w.heap.size w w' := by
  obtain ⟨c, hc⟩ : ∃ c, c = cmpZ (SN n) 0 := ⟨_, rfl⟩
  have hc2 : decide (c > 0) = decide (SN n ≠ 0) := by
    rw [hc]
    unfold cmpZ
    congr 1
    apply propext
    split
    · omega
    · split <;> omega
  have d1 := fun w => Right_is (rightB n.data.toList) n w rfl
  have d2 := fun w => Cmp_is c n ⟨#[]⟩ w hn (by decide) (by rw [SN_empty, hc])
  generalize rightB n.data.toList = r at *
  have HB := (Below.refl w.heap.size w).alloc (Nat.le_refl _) (.cells #[.string ⟨#[]⟩] 97)
  have D1 := Lib.hid d1; have D2 := Lib.hid d2; have HC := Lib.hid hc2
  clear d1 d2 hc hc2
  go_enter Tryz.func76, Tryz.ntmps76
  go_wp2_with fail
  refine (D1.out _).mono ?_
  rintro _ _ ⟨rfl, rfl⟩
  cases r with
  | false =>
    go_wp2_with fail
    go_ret
    exact ⟨by rw [← hv]; rfl, HB⟩
  | true =>
    go_wp2_with fail
    refine (D2.out _).mono ?_
    rintro _ w2 ⟨rfl, hb2⟩
    go_wp2_with fail
    go_ret
    refine ⟨?_, HB.trans (hb2.mono HB.size)⟩
    rw [← hv, Bool.true_and, ← HC.out]
    rfl

set_option maxRecDepth 100000 in
set_option maxHeartbeats 1000000 in
/-- **ratio.lowest**. -/
theorem lowest_any (s : Bool) (n d : Nat) (w : World) (hn : n < 256 ^ 268435456) (hd : d < 256 ^ 268435456) (h0 : d ≠ 0) :
    Calls Tryz.prog 78 #[.bool s, .string (Enc n), .string (Enc d)] w fun e w' => e = .returned (rv (low s n d)) ∧ Below w.heap.size w w' := by
  have hg0 : 0 < Nat.gcd n d := Nat.gcd_pos_of_pos_right _ (Nat.pos_of_ne_zero h0)
  have hgd : Nat.gcd n d ≤ d := Nat.le_of_dvd (Nat.pos_of_ne_zero h0) (Nat.gcd_dvd_right n d)
  have zn : (Enc n).size ≤ 268435456 := Enc_size_le hn
  have zd : (Enc d).size ≤ 268435456 := Enc_size_le hd
  have zg : (Enc (Nat.gcd n d)).size ≤ 268435456 := Enc_size_le (Nat.lt_of_le_of_lt hgd hd)
  have d1 := fun w => Gcd_any (Enc n) (Enc d) w zn zd
  rw [SN_Enc, SN_Enc] at d1
  have d2 := fun w => Quo_is (Enc (n / Nat.gcd n d)) (Enc (n % Nat.gcd n d)) (Enc n) (Enc (Nat.gcd n d)) w zn zg (by rw [SN_Enc]; exact hg0) (by rw [SN_Enc, SN_Enc]) (by rw [SN_Enc, SN_Enc])
  have d3 := fun w => Quo_is (Enc (d / Nat.gcd n d)) (Enc (d % Nat.gcd n d)) (Enc d) (Enc (Nat.gcd n d)) w zd zg (by rw [SN_Enc]; exact hg0) (by rw [SN_Enc, SN_Enc]) (by rw [SN_Enc, SN_Enc])
  have hr : rv (low s n d) = RV (s && decide (n / Nat.gcd n d ≠ 0)) (Enc (n / Nat.gcd n d)) (Enc (d / Nat.gcd n d)) := by
    unfold rv
    rw [low_neg _ _ h0, low_abs _ _ h0, low_den _ _ h0]
  rw [hr]
  have hz : (decide (n / Nat.gcd n d ≠ 0) = false ∧ Enc (n / Nat.gcd n d) = ⟨#[]⟩) ∨ (decide (n / Nat.gcd n d ≠ 0) = true ∧ ¬ (Enc (n / Nat.gcd n d)).toList = []) := by
    by_cases h : n / Nat.gcd n d = 0
    · left; rw [h]; exact ⟨rfl, Enc_zero⟩
    · right; exact ⟨decide_eq_true h, not_nil (fun e => h (Enc_inj (e.trans Enc_zero.symm)))⟩
  generalize decide (n / Nat.gcd n d ≠ 0) = f at *
  generalize Enc (n / Nat.gcd n d) = q at *
  generalize Enc (d / Nat.gcd n d) = q' at *
  generalize Enc (n % Nat.gcd n d) = r at *
  generalize Enc (d % Nat.gcd n d) = r' at *
  generalize Enc (Nat.gcd n d) = g at *
  generalize Enc n = N at *
  generalize Enc d = D at *
  have HB := (Below.refl w.heap.size w).alloc (Nat.le_refl _) (.cells #[.bool false, .string ⟨#[]⟩, .string ⟨#[]⟩] 39)
  have D1 := Lib.hid d1; have D2 := Lib.hid d2; have D3 := Lib.hid d3
  clear d1 d2 d3 hr hn hd zn zd zg hgd hg0 h0
  go_enter Tryz.func78, Tryz.ntmps78
  go_wp2_with fail
  refine (D1.out _).mono ?_
  rintro _ w1 ⟨rfl, h1⟩
  go_wp2_with fail
  refine (D2.out _).mono ?_
  rintro _ w2 ⟨rfl, h2⟩
  go_wp2_with fail
  refine (D3.out _).mono ?_
  rintro _ w3 ⟨rfl, h3⟩
  have hB3 : Below (w.heap.size + 1) (w.alloc (.cells #[.bool false, .string ⟨#[]⟩, .string ⟨#[]⟩] 39)) w3 := by
    have e : (w.alloc (.cells #[.bool false, .string ⟨#[]⟩, .string ⟨#[]⟩] 39)).heap.size = w.heap.size + 1 := by simp
    have g := h1.trans ((h2.trans (h3.mono h2.size)).mono h1.size)
    rwa [e] at g
  have hbk : Blk w3 w.heap.size 39 [.bool false, .string ⟨#[]⟩, .string ⟨#[]⟩] := (Blk.new w 39 [.bool false, .string ⟨#[]⟩, .string ⟨#[]⟩]).below (B := w.heap.size + 1) (by omega) hB3
  have c0 : w3.cell? ⟨w.heap.size, 0, none⟩ = some (.bool false) := hbk.cell 0
  have c1 : w3.cell? ⟨w.heap.size, 1, none⟩ = some (.string ⟨#[]⟩) := hbk.cell 1
  have c2 : w3.cell? ⟨w.heap.size, 2, none⟩ = some (.string ⟨#[]⟩) := hbk.cell 2
  have f0 := hbk.free 0; have f1 := hbk.free 1; have f2 := hbk.free 2
  have HBK := Lib.hid hbk
  clear hbk h1 h2 h3
  have HBW := HB.trans (hB3.mono (by simp))
  cases s with
  | false =>
    go_wp2_with fail
    exact ret_rat rfl rfl (set3 HBK.out _ _ _) rfl ⟨rfl, bel3 HBW (Nat.le_refl _) _ _ _⟩
  | true =>
    rcases hz with ⟨rfl, rfl⟩ | ⟨rfl, hq⟩
    · go_wp2_with fail
      exact ret_rat rfl rfl (set3 HBK.out _ _ _) rfl ⟨rfl, bel3 HBW (Nat.le_refl _) _ _ _⟩
    · go_wp2_with fail
      refine ret_rat rfl rfl (set3 HBK.out _ _ _) rfl ⟨?_, bel3 HBW (Nat.le_refl _) _ _ _⟩
      simp [hq]

#print axioms lowest_any
end Go.Proofs.YtolmjeglaolhlaaGreatDoor
