/- The reference: quotients and common divisors. -/
import Derived.Laws.OwnMore
import Derived.Deep.RegionHeld3
import Derived.Deep.LoopGhost
import Derived.Test.YtolmjeglaolhlaaGreatDoorRMul
import Derived.Test.YtolmjeglaolhlaaGreatDoorRDigit
import Derived.Test.YtolmjeglaolhlaaGreatDoorRSub

/- sortesref01.Quo: quotient and rest. -/
namespace Go.Proofs.YtolmjeglaolhlaaGreatDoor
open Go.RowKit Num

/-- An append of nothing. -/
theorem wpList_append_void {P : Program} {w : World} {ops : Array Oper} {rest : List Oper} {o : Oper} {a : Act} {Q : Exit → Act → World → Prop} (hgd : o.guard = none) (s x : Operand) (t : TypeId)
    (ho : o.op = .call { callee := .builtin .append, args := #[s, x], argTypes := #[t, t] })
    (base : Nat) (e : TypeId) (i : TypeInfo) (size : Nat) (ht : P.underlying t = some (.slice e)) (hi : P.info? e = some i)
    (v : Value) (n : Nat) (xs : List Value) (hs : a.eval s = v) (hown : w.ownsRow base e size v n xs) (c : Nat) (hx : a.eval x = .slice none 0 c)
    (h : wpList P ops Q rest (a.put o.dst v) w) : wpList P ops Q (o :: rest) a w := by
  have hrun : (Builtin.append_ #[t, t] o.type #[v, .slice none 0 c]).run P w = .ok v w := by
    rcases hown.2 with ⟨rfl, rfl⟩ | ⟨g, cap, cur, rfl, _, _, hnc, _⟩
    · simp [Builtin.append_, run_underlying ht, sizeOf, typeInfo, hi, Builtin.lenOf, Builtin.firstCells]
    · simp [Builtin.append_, run_underlying ht, sizeOf, typeInfo, hi, Builtin.lenOf, Builtin.firstCells, hnc, storeCells]
  refine wpList_plain hgd fun K hK => ?_
  unfold Oper.wp
  simp [execOp, ho, resolve, invoke, builtin, hs, hx, hrun, Result.andThen]
  exact hK _ _ h

def RQuoRel (w : World) (u : List Nat) (V : Nat) (r k : Value) (wr : World) : Prop :=
  ∃ (j : Nat) (o l : List Nat), j ≤ u.length ∧ k = .int .i64 ((j : Int) - 1) ∧ Blk wr w.heap.size 3 (ints .i64 o) ∧ o.length = u.length ∧ Dig 16777216 o ∧ (∀ t, t < j → o.getD t 0 = 0) ∧
    vl 16777216 (o.drop j) = vl 16777216 (u.drop j) / V ∧ Sl .i64 wr r l ∧ Dig 16777216 l ∧ Tr l ∧ vl 16777216 l = vl 16777216 (u.drop j) % V ∧ Below w.heap.size w wr

/-- A list of numbers in a block from B on. -/
def SlAt (B : Nat) (k : IntKind) (w : World) (v : Value) (l : List Nat) : Prop :=
  ∃ a cap, v = .slice a l.length cap ∧ l.length ≤ cap ∧ cap ≤ 9223372036854775807 ∧ (0 < l.length → ∃ b off, a = some ⟨b, off, none⟩ ∧ B ≤ b ∧ b < w.heap.size ∧ Row k w b off l)
theorem SlAt.sl {B : Nat} {k : IntKind} {w : World} {v : Value} {l : List Nat} (h : SlAt B k w v l) : Sl k w v l := by
  obtain ⟨a, cap, rfl, h1, h2, h3⟩ := h
  refine ⟨a, cap, rfl, h1, h2, fun hl => ?_⟩
  obtain ⟨b, off, e, _, hb, hr⟩ := h3 hl
  exact ⟨b, off, e, hb, hr⟩
theorem SlAt.below {B : Nat} {k : IntKind} {w w' : World} {v : Value} {l : List Nat} (h : SlAt B k w v l) (hw : Below w.heap.size w w') : SlAt B k w' v l := by
  obtain ⟨a, cap, rfl, h1, h2, h3⟩ := h
  refine ⟨a, cap, rfl, h1, h2, fun hl => ?_⟩
  obtain ⟨b, off, e, hB, hb, hr⟩ := h3 hl
  exact ⟨b, off, e, hB, Nat.lt_of_lt_of_le hb hw.size, hr.below hb hw⟩
theorem SlAt.put {B : Nat} {k : IntKind} {w : World} {v : Value} {l : List Nat} (h : SlAt B k w v l) {q j : Nat} (hq : q < B) (x : Value) : SlAt B k (w.setCell ⟨q, j, none⟩ x) v l := by
  obtain ⟨a, cap, rfl, h1, h2, h3⟩ := h
  refine ⟨a, cap, rfl, h1, h2, fun hl => ?_⟩
  obtain ⟨b, off, e, hB, hb, hr⟩ := h3 hl
  refine ⟨b, off, e, hB, by rw [World.size_setCell]; exact hb, fun i hi => ?_⟩
  have := hr i hi
  unfold World.cell? at *
  rw [Below.heap_setCell w ⟨q, j, none⟩ x b (by show b ≠ q; omega)]
  exact this

/-- trim of a row that the call owns. -/
theorem rtrim_own {b B : Nat} {v : Value} {l : List Nat} {w : World} {e : TypeId} (h : OwnL .i64 w B e v l) :
    Calls Tryz.prog 114 #[v] w fun e w' => ∃ v' l', e = .returned v' ∧ SlAt B .i64 w v' l' ∧ (Dig b l → Dig b l') ∧ Tr l' ∧ vl b l' = vl b l ∧ l'.length ≤ l.length ∧ w = w' := by
  have hs := h.sl
  have hB : ∀ g, v.ownBlock = some g → B ≤ g := fun g hg => (World.ownsRow.lt h g hg).1
  obtain ⟨a, cap, rfl, h1, h2, h3⟩ := hs
  refine (rtrim_walk a l.length cap l w (Nat.le_refl _) h1 h2 h3).mono ?_
  rintro e w' ⟨rfl, rfl⟩
  have hl := tlen_le l l.length
  have hlen : (l.take (tlen l l.length)).length = tlen l l.length := by rw [List.length_take, Nat.min_eq_left hl]
  refine ⟨_, l.take (tlen l l.length), rfl, ⟨a, cap, by rw [hlen], by omega, h2, fun hp => ?_⟩, fun d => d.take _, tlen_tr l _ (Nat.le_refl _), tlen_vl b l, by omega, rfl⟩
  obtain ⟨b, off, rfl, hb, hr⟩ := h3 (by omega)
  exact ⟨b, off, rfl, hB b rfl, hb, hr.take _⟩

/-- A digit of the quotient. -/
theorem rquo_next {u o : List Nat} {j V Y x : Nat} (hV : 0 < V) (hj : j < u.length) (hq : vl 16777216 (o.drop (j + 1)) = vl 16777216 (u.drop (j + 1)) / V)
    (hx : u.getD j 0 = x) (hY : Y = x + 16777216 * (vl 16777216 (u.drop (j + 1)) % V)) :
    Y / V + 16777216 * vl 16777216 (o.drop (j + 1)) = vl 16777216 (u.drop j) / V ∧ Y % V = vl 16777216 (u.drop j) % V := by
  obtain ⟨h1, h2⟩ := quo_step 16777216 (vl 16777216 (u.drop (j + 1))) V x hV
  rw [vl_drop 16777216 u j hj, hx, hq, h1, h2, hY]
  exact ⟨by rw [Nat.add_comm], rfl⟩

set_option maxRecDepth 100000 in
set_option maxHeartbeats 400000 in
theorem RQuo_zero (a b : ByteArray) (w : World) (hb : b.size ≤ 100000000) (hz : SN b = 0) :
    Calls Tryz.prog 70 #[.string a, .string b] w fun e w' => e = .returned (.tuple #[.string ⟨#[]⟩, .string ⟨#[]⟩, .bool false]) ∧ w = w' := by
  have c1 := fun w => Canon_any b w (by omega)
  rw [hz, show Enc 0 = ⟨#[]⟩ by kernel_rfl] at c1
  have C1 := Lib.hid c1
  clear c1 hz
  go_enter Tryz.func70, Tryz.ntmps70
  go_wp2_with fail
  refine (C1.out _).mono ?_
  rintro _ _ ⟨rfl, rfl⟩
  go_wp2_with fail
  go_ret3
  exact ⟨rfl, rfl⟩

set_option maxRecDepth 100000 in
set_option maxHeartbeats 4000000 in
theorem RQuo_large (a b : ByteArray) (w : World) (ha : a.size ≤ 100000000) (hb : b.size ≤ 100000000) (hpos : 0 < SN b) (hno : ¬ (SN a < 256 ^ 7 ∧ SN b < 256 ^ 7)) :
    Calls Tryz.prog 70 #[.string a, .string b] w fun e w' => e = .returned (.tuple #[.string (Enc (SN a / SN b)), .string (Enc (SN a % SN b)), .bool true]) ∧ Below w.heap.size w w' := by
  obtain ⟨i0, hi, hz0, hz1, hz2⟩ := info_parts info_int
  have hbb : (decide (SN a < 256 ^ 7) && decide (SN b < 256 ^ 7)) = false := by
    rw [Bool.and_eq_false_iff]
    rcases Nat.lt_or_ge (SN a) (256 ^ 7) with h | h
    · right; rw [decide_eq_false_iff_not]; exact fun h2 => hno ⟨h, h2⟩
    · left; rw [decide_eq_false_iff_not]; omega
  have c0 := fun w => Canon_any b w (by omega)
  have hcn : 0 < (Enc (SN b)).size := by
    rcases Nat.eq_zero_or_pos (Enc (SN b)).size with h | h
    · have := Enc_small (n := SN b) (k := 0) (by omega); simp at this; omega
    · exact h
  have hcs : (Enc (SN b)).size ≤ 100000000 := Nat.le_trans (Enc_size_le (SN_lt b)) hb
  have hcv : SN (Enc (SN b)) = SN b := SN_Enc _
  have c1 := fun w => small_any a 7 w (by omega) (by decide) _ rfl
  have c2 := fun w => small_any (Enc (SN b)) 7 w (by omega) (by decide) (decide (SN b < 256 ^ 7)) (by rw [hcv])
  have c3 := fun w => rof_any a w (by omega)
  have c4 := fun w => rof_any (Enc (SN b)) w (by omega)
  rw [hcv] at c4
  generalize Enc (SN b) = t at *
  generalize decide (SN a < 256 ^ 7) = p1 at *
  generalize decide (SN b < 256 ^ 7) = p2 at *
  obtain ⟨V, hV⟩ : ∃ V, SN b = V := ⟨_, rfl⟩
  obtain ⟨U, hU⟩ : ∃ U, SN a = U := ⟨_, rfl⟩
  rw [hV] at hpos c4 ⊢
  rw [hU] at c3 ⊢
  have C0 := Lib.hid c0; have C1 := Lib.hid c1; have C2 := Lib.hid c2; have C3 := Lib.hid c3; have C4 := Lib.hid c4; have HP := Lib.hid hpos
  clear c0 c1 c2 c3 c4 hno hcv hV hU hpos
  have hne : ((t.size : Int) == 0) = false := by rw [beq_eq_false_iff_ne]; omega
  have hpp : (p1 = false) ∨ (p1 = true ∧ p2 = false) := by cases p1 <;> cases p2 <;> simp_all
  clear hbb
  rcases hpp with rfl | ⟨rfl, rfl⟩
  all_goals
    go_enter Tryz.func70, Tryz.ntmps70
    go_wp2_with fail
    refine (C0.out _).mono ?_
    rintro _ _ ⟨rfl, rfl⟩
    go_wp2_with fail
    refine (C1.out _).mono ?_
    rintro _ _ ⟨z1, rfl, -, rfl⟩
    go_wp2_with fail
    refine (C2.out _).mono ?_
    rintro _ _ ⟨z2, rfl, -, rfl⟩
    go_wp2_with fail
    refine (C3.out _).mono ?_
    rintro _ w1 ⟨va, u, rfl, hsa, hda, hta, hva, hla, hb1⟩
    have HVA := Lib.hid hva; clear hva
    go_wp2_with fail
    refine (C4.out _).mono ?_
    rintro _ w2 ⟨vb, v, rfl, hsb, hdb, htb, hvb, hlb, hb2⟩
    have HVB := Lib.hid hvb; clear hvb
    have hsa2 := hsa.below hb2
    obtain ⟨aa, ca, rfl, hca, _, hra⟩ := hsa2
    have HW := Lib.hid (hb1.trans (hb2.mono hb1.size))
    have hsz := Nat.le_trans hb1.size hb2.size
    have hsb' := hsb
    obtain ⟨ab, cb, rfl, hcb, _, hrb⟩ := hsb'
    have hmk := run_make_row' (P := Tryz.prog) 76 3 (.int .i64 0) 8 Tryz.underlying76 info_int rfl .i64 .i64 u.length (by omega) (by omega)
    have hlu : u.length ≤ 33333334 := by omega
    have hlv : v.length ≤ 33333334 := by omega
    have HRA := Lib.hid hra; have HDA := Lib.hid hda; have HDB := Lib.hid hdb; have HTB := Lib.hid htb; have HSB := Lib.hid hsb
    clear hra hrb hda hdb hsa hsb hb1 hb2 hta htb
    go_wp2
    go_loopw [14, 15] (fun r k wr => RQuoRel w2 u V r k wr) (fun _ k _ => (intOf k + 1).toNat)
    case atStart =>
      exact ⟨u.length, List.replicate u.length 0, [], Nat.le_refl _, rfl, Blk.made _ _ _ _, by simp, Dig.replicate (by decide) _, fun j _ => by simp [List.getElem?_replicate]; split <;> rfl, by simp [List.drop_of_length_le], Sl.nil _ _ _ _ (by decide), Dig.nil _, Tr.nil, by simp [List.drop_of_length_le], (Below.refl _ _).alloc (Nat.le_refl _) _⟩
    case round =>
      clear hmk
      obtain ⟨j, o, l, hj, rfl, hB, ho, hd, hz, hq, hsl, hdl, htl, hvl, hbel⟩ := hrel
      have HB := Lib.hid hB; have HO := Lib.hid ho; have HZ := Lib.hid hz; have HQ := Lib.hid hq; have HBel := Lib.hid hbel; have HD := Lib.hid hd; have HDL := Lib.hid hdl; have HTL := Lib.hid htl; have HVL := Lib.hid hvl
      clear hB ho hz hq hbel hd hdl htl hvl
      have hll : l.length ≤ v.length := by
        rcases Nat.lt_or_ge v.length l.length with h | h
        · have h1 := vl_lt_of_length (b := 16777216) (by decide) HDB.out HTL.out h
          have h2 := Nat.mod_lt (vl 16777216 (u.drop j)) HP.out
          rw [← HVL.out, ← HVB.out] at h2
          omega
        · exact h
      cases j with
      | zero =>
        have hslq : Sl .i64 wr (.slice (some ⟨w2.heap.size, 0, none⟩) u.length u.length) o := by
          have := HB.out.row.sl HB.out.lt u.length (by have := HO.out; omega) (by omega)
          simpa [HO.out] using this
        go_wp2_with fail
        refine (rnumber_any hslq HD.out (by have := HO.out; omega)).mono ?_
        rintro _ w4 ⟨rfl, hb4⟩
        go_wp2_with fail
        refine (rnumber_any (hsl.below hb4) HDL.out (by omega)).mono ?_
        rintro _ w5 ⟨rfl, hb5⟩
        go_wp2_with fail
        go_ret3
        refine ⟨?_, (HW.out.trans (HBel.out.mono hsz)).trans ((hb4.trans (hb5.mono hb4.size)).mono (Nat.le_trans hsz HBel.out.size))⟩
        have h1 := HQ.out
        have h2 := HVL.out
        rw [List.drop_zero, List.drop_zero, HVA.out] at h1
        rw [List.drop_zero, HVA.out] at h2
        rw [h1, h2]
        rfl
      | succ j =>
        have hlt : j < u.length := by omega
        obtain ⟨b1, off, rfl, hbl, hrow⟩ := HRA.out (by omega)
        obtain ⟨x, hxe⟩ : ∃ x, u.getD j 0 = x := ⟨_, rfl⟩
        have hx24 : x < 16777216 := by rw [← hxe]; exact HDA.out.get (by decide) j
        have hrx := (HBel.out.cell (p := ⟨b1, off + j, none⟩) hbl).trans (hrow j hlt)
        rw [hxe] at hrx
        have HX := Lib.hid hxe
        clear hrow hxe HRA
        have e0 : (((j + 1 : Nat) : Int) - 1) = (j : Int) := by omega
        rw [e0]
        clear e0
        have hown : (wr.alloc (.cells #[.int .i64 (x : Int)] 3)).ownsRow wr.heap.size 3 1 (.slice (some ⟨wr.heap.size, 0, none⟩) 1 1) 1 [.int .i64 (x : Int)] := World.ownsRow_lit wr #[.int .i64 (x : Int)] 1 (Nat.le_refl _) (by decide) rfl
        obtain ⟨al, cl, rfl, hl1, hl2, hl3⟩ := hsl
        have hL3 := Lib.hid hl3; clear hl3
        rcases al with _ | ⟨bl, ol, sl⟩
        · have hl0 : l = [] := by
            rcases Nat.eq_zero_or_pos l.length with h | h
            · exact List.length_eq_zero_iff.1 h
            · obtain ⟨_, _, h2, _⟩ := hL3.out h; cases h2
          subst hl0
          go_wp2_with (at_builtin; refine wpList_append_void rfl _ _ 76 rfl wr.heap.size 3 i0 1 Tryz.underlying76 hi (.slice (some ⟨wr.heap.size, 0, none⟩) 1 1) 1 [.int .i64 (x : Int)] rfl hown cl rfl ?_)
          have H1 : OwnL .i64 (wr.alloc (.cells #[.int .i64 (x : Int)] 3)) wr.heap.size 3 (.slice (some ⟨wr.heap.size, 0, none⟩) 1 1) [x] := hown
          have H2 : Below wr.heap.size wr (wr.alloc (.cells #[.int .i64 (x : Int)] 3)) := (Below.refl _ _).alloc (Nat.le_refl _) _
          have HH1 := Lib.hid H1; have HH2 := Lib.hid H2
          clear H1 H2 hown
          refine (rtrim_own (b := 16777216) HH1.out).mono ?_
          rintro _ _ ⟨v2, l2, rfl, hs2, hd2, ht2, hv2, hl2, rfl⟩
          have hb3 : Below w2.heap.size w2 _ := HBel.out.trans (HH2.out.mono HBel.out.size)
          have hd2' := hd2 (Dig.cons hx24 HDL.out)
          simp only [List.length_cons, List.length_nil] at hl2
          rw [vl_cons, HVL.out] at hv2
          have HV2 := Lib.hid hv2; have HD2 := Lib.hid hd2'; have HT2 := Lib.hid ht2; have HS2 := Lib.hid hs2; have HB3 := Lib.hid hb3
          clear hd2 hv2 hd2' ht2 hs2 hb3
          go_wp2_with fail
          refine (rcmp_any HS2.out.sl (HSB.out.below HB3.out) HD2.out HDB.out HT2.out HTB.out (by omega) (by omega)).mono ?_
          rintro _ w4 ⟨z, rfl, hsgn, hz1, hz2, hb4⟩
          rw [HVB.out] at hsgn
          obtain ⟨hn1, hn2⟩ := rquo_next HP.out hlt HQ.out HX.out HV2.out
          obtain ⟨Y, hY⟩ : ∃ Y, vl 16777216 l2 = Y := ⟨_, rfl⟩
          rw [hY] at hsgn hn1 hn2
          have HY := Lib.hid hY; have HN1 := Lib.hid hn1; have HN2 := Lib.hid hn2; have HB4 := Lib.hid hb4
          clear hY hn1 hn2 hb4
          have hcase : (z < 0 ∧ Y < V) ∨ (0 ≤ z ∧ V ≤ Y) := by
            rcases hsgn with ⟨h2, h3⟩ | ⟨h2, h3⟩ | ⟨h2, h3⟩
            · exact .inl ⟨h2, h3⟩
            · exact .inr ⟨by omega, by omega⟩
            · exact .inr ⟨by omega, by omega⟩
          clear hsgn
          have hbw4 : Below wr.heap.size wr w4 := HH2.out.trans (HB4.out.mono HH2.out.size)
          have HBW := Lib.hid hbw4
          have hqb : w2.heap.size < wr.heap.size := HB.out.lt
          rcases hcase with ⟨hzn, hYV⟩ | ⟨hzp, hYV⟩
          · have HYV := Lib.hid hYV; clear hYV hbw4
            go_wp2
            refine ⟨⟨j, o, l2, by omega, rfl, HB.out.below hqb HBW.out, HO.out, HD.out, fun t ht => HZ.out t (by omega), ?_, HS2.out.sl.below HB4.out, HD2.out, HT2.out, ?_, HBel.out.trans (HBW.out.mono HBel.out.size)⟩, by simp only [intOf]; omega⟩
            · rw [← HN1.out, vl_drop 16777216 o j (by rw [HO.out]; exact hlt), HZ.out j (by omega), Nat.div_eq_of_lt HYV.out]
            · rw [HY.out, ← HN2.out, Nat.mod_eq_of_lt HYV.out]
          · have hdq : Y / V ≤ 16777215 := by
              have h1 := quo_digit (B := 16777216) (X := vl 16777216 (u.drop (j + 1))) HP.out hx24
              rw [← HV2.out, HY.out] at h1
              omega
            have hdg := fun w' (h1 : Sl .i64 w' v2 l2) (h2 : Sl .i64 w' (.slice ab v.length cb) v) => rdigit_any h1 h2 HD2.out HDB.out HT2.out (by omega) (by omega) (by rw [HVB.out]; exact HP.out) (by rw [HVB.out, HY.out]; exact hdq)
            rw [HVB.out, HY.out] at hdg
            have hdv : Y - V * (Y / V) = Y % V := by have := Nat.div_add_mod Y V; omega
            have hdle : V * (Y / V) ≤ Y := by have := Nat.div_add_mod Y V; omega
            obtain ⟨d, hd⟩ : ∃ d, Y / V = d := ⟨_, rfl⟩
            rw [hd] at hdq hdg hdv hdle
            have HDG := Lib.hid hdg; have HDV := Lib.hid hdv; have HDE := Lib.hid hd; have HDLE := Lib.hid hdle
            clear hdg hdv hd hdle hYV
            have hs4 := HS2.out.below HB4.out
            have hv4 := (HSB.out.below HB3.out).below HB4.out
            have HS4 := Lib.hid hs4; have HV4 := Lib.hid hv4
            clear hs4 hv4 hbw4
            go_wp2_with fail
            refine (HDG.out _ HS4.out.sl HV4.out).mono ?_
            rintro _ w5 ⟨rfl, hb5⟩
            have hbw5 : Below wr.heap.size wr w5 := HBW.out.trans (hb5.mono HBW.out.size)
            have hB5 := HB.out.below hqb hbw5
            have hw := hB5.get j (by have := HO.out; omega)
            have hf := hB5.free j
            have hset := hB5.set j d
            have hcs : (w5.setCell ⟨w2.heap.size, j, none⟩ (.int .i64 (d : Int))).cell? ⟨w2.heap.size, j, none⟩ = some (.int .i64 (d : Int)) := by
              have h1 := hset.get j (by rw [List.length_set, HO.out]; exact hlt)
              rw [getD_set _ _ _ _ (by rw [HO.out]; exact hlt), if_pos rfl] at h1
              exact h1
            have hs5 := (HS4.out.below hb5).put hqb (.int .i64 (d : Int)) (j := j)
            have hbs : Below w2.heap.size w2 (w5.setCell ⟨w2.heap.size, j, none⟩ (.int .i64 (d : Int))) := (HBel.out.trans (hbw5.mono HBel.out.size)).setCell (Nat.le_refl _) _
            have hv5 := HSB.out.below hbs
            have HSET := Lib.hid hset; have HS5 := Lib.hid hs5; have HV5 := Lib.hid hv5; have HBS := Lib.hid hbs; have HB5 := Lib.hid hbw5
            clear hset hs5 hv5 hbs hbw5 hB5 hb5
            go_wp2_with fail
            refine (rtimes_any (m := d) HV5.out HDB.out (by omega) (by omega)).mono ?_
            rintro _ w6 ⟨v6, l6, rfl, hs6, hd6, ht6, hv6, hl6, hb6⟩
            have hlen6 : l6.length ≤ l2.length := by
              rcases Nat.lt_or_ge l2.length l6.length with h | h
              · have h1 := vl_lt_of_length (b := 16777216) (by decide) HD2.out ht6 h
                rw [hv6, HVB.out, HY.out] at h1
                have := HDLE.out
                omega
              · exact h
            have hle6 : vl 16777216 l6 ≤ vl 16777216 l2 := by rw [hv6, HVB.out, HY.out]; exact HDLE.out
            have hs26 := HS5.out.below hb6
            have HV6 := Lib.hid hv6; have HLE6 := Lib.hid hle6; have HS26 := Lib.hid hs26; have HS6 := Lib.hid hs6; have HD6 := Lib.hid hd6; have HB6 := Lib.hid hb6
            clear hv6 hle6 hs26 hs6 hd6 hb6 ht6 hw hf hcs
            go_wp2_with fail
            refine (rminus_any HS26.out.sl HS6.out HD2.out HD6.out hlen6 HLE6.out (by omega)).mono ?_
            rintro _ w7 ⟨v7, l7, rfl, hs7, hd7, ht7, hv7, hl7, hb7⟩
            have HV7 := Lib.hid hv7; have HS7 := Lib.hid hs7; have HD7 := Lib.hid hd7; have HT7 := Lib.hid ht7; have HB7 := Lib.hid hb7
            clear hv7 hs7 hd7 ht7 hb7
            go_wp2
            have hbq := HBS.out.trans ((HB6.out.trans (HB7.out.mono HB6.out.size)).mono HBS.out.size)
            refine ⟨⟨j, o.set j d, l7, by omega, rfl, (HSET.out.below (by rw [World.size_setCell]; exact Nat.lt_of_lt_of_le hqb HB5.out.size) HB6.out).below (Nat.lt_of_lt_of_le (by rw [World.size_setCell]; exact Nat.lt_of_lt_of_le hqb HB5.out.size) HB6.out.size) HB7.out, by rw [List.length_set]; exact HO.out, HD.out.set _ _ (by omega), fun t ht => ?_, ?_, HS7.out, HD7.out, HT7.out, ?_, hbq⟩, by simp only [intOf]; omega⟩
            · rw [ldigit_set_ne _ _ _ _ (by omega)]; exact HZ.out t (by omega)
            · rw [drop_set_self _ _ _ (by rw [HO.out]; exact hlt), vl_cons, ← HDE.out]; exact HN1.out
            · rw [HV7.out, HV6.out, HVB.out, HY.out, HDV.out]; exact HN2.out
        · have hne2 : ∀ (q : Nat) (y : Value), (ints .i64 l)[q]? = some y → (wr.alloc (.cells #[.int .i64 (x : Int)] 3)).cell? ((⟨bl, ol, sl⟩ : Addr).add q) = some y := by
            intro q y hy
            have hq : q < l.length := by
              rcases Nat.lt_or_ge q l.length with h | h
              · exact h
              · rw [List.getElem?_eq_none (by simpa using h)] at hy; cases hy
            obtain ⟨b', o', e1, h1, h2⟩ := hL3.out (by omega)
            cases e1
            rw [WideShapes.add_plain, World.cell?_alloc_lt _ _ _ h1, h2 q hq, ← ints_get .i64 l q hq]
            exact hy
          have HNE := Lib.hid hne2; clear hne2
          go_wp2_with (at_builtin; refine wpList_append_own_at _ rfl _ _ 76 rfl wr.heap.size 3 i0 (.int .i64 0) 1 8 Tryz.underlying76 hi hz0 hz1 hz2 rfl (by decide) (.slice (some ⟨wr.heap.size, 0, none⟩) 1 1) 1 [.int .i64 (x : Int)] rfl hown ⟨bl, ol, sl⟩ l.length cl (ints .i64 l) rfl (by simp) HNE.out (by intro y hy; obtain ⟨n, _, rfl⟩ := List.mem_map.1 hy; rfl) (by unfold maxLen; omega) (by omega) (by simp) ?_; intro v1 w3 hown3 hgrow3 _ _)
          have H1 : OwnL .i64 w3 wr.heap.size 3 v1 (x :: l) := by unfold OwnL; rw [List.length_cons, Nat.add_comm]; exact hown3
          have H2 : Below wr.heap.size wr w3 := ((Below.refl _ _).alloc (Nat.le_refl _) _).trans (OwnL.grown (k := .i64) (l := [x]) (e := 3) hown (by simp) hgrow3)
          have HH1 := Lib.hid H1; have HH2 := Lib.hid H2
          clear H1 H2 hown
          refine (rtrim_own (b := 16777216) HH1.out).mono ?_
          rintro _ _ ⟨v2, l2, rfl, hs2, hd2, ht2, hv2, hl2, rfl⟩
          have hb3 : Below w2.heap.size w2 _ := HBel.out.trans (HH2.out.mono HBel.out.size)
          have hd2' := hd2 (Dig.cons hx24 HDL.out)
          simp only [List.length_cons] at hl2
          rw [vl_cons, HVL.out] at hv2
          have HV2 := Lib.hid hv2; have HD2 := Lib.hid hd2'; have HT2 := Lib.hid ht2; have HS2 := Lib.hid hs2; have HB3 := Lib.hid hb3
          clear hd2 hv2 hd2' ht2 hs2 hb3
          go_wp2_with fail
          refine (rcmp_any HS2.out.sl (HSB.out.below HB3.out) HD2.out HDB.out HT2.out HTB.out (by omega) (by omega)).mono ?_
          rintro _ w4 ⟨z, rfl, hsgn, hz1, hz2, hb4⟩
          rw [HVB.out] at hsgn
          obtain ⟨hn1, hn2⟩ := rquo_next HP.out hlt HQ.out HX.out HV2.out
          obtain ⟨Y, hY⟩ : ∃ Y, vl 16777216 l2 = Y := ⟨_, rfl⟩
          rw [hY] at hsgn hn1 hn2
          have HY := Lib.hid hY; have HN1 := Lib.hid hn1; have HN2 := Lib.hid hn2; have HB4 := Lib.hid hb4
          clear hY hn1 hn2 hb4
          have hcase : (z < 0 ∧ Y < V) ∨ (0 ≤ z ∧ V ≤ Y) := by
            rcases hsgn with ⟨h2, h3⟩ | ⟨h2, h3⟩ | ⟨h2, h3⟩
            · exact .inl ⟨h2, h3⟩
            · exact .inr ⟨by omega, by omega⟩
            · exact .inr ⟨by omega, by omega⟩
          clear hsgn
          have hbw4 : Below wr.heap.size wr w4 := HH2.out.trans (HB4.out.mono HH2.out.size)
          have HBW := Lib.hid hbw4
          have hqb : w2.heap.size < wr.heap.size := HB.out.lt
          rcases hcase with ⟨hzn, hYV⟩ | ⟨hzp, hYV⟩
          · have HYV := Lib.hid hYV; clear hYV hbw4
            go_wp2
            refine ⟨⟨j, o, l2, by omega, rfl, HB.out.below hqb HBW.out, HO.out, HD.out, fun t ht => HZ.out t (by omega), ?_, HS2.out.sl.below HB4.out, HD2.out, HT2.out, ?_, HBel.out.trans (HBW.out.mono HBel.out.size)⟩, by simp only [intOf]; omega⟩
            · rw [← HN1.out, vl_drop 16777216 o j (by rw [HO.out]; exact hlt), HZ.out j (by omega), Nat.div_eq_of_lt HYV.out]
            · rw [HY.out, ← HN2.out, Nat.mod_eq_of_lt HYV.out]
          · have hdq : Y / V ≤ 16777215 := by
              have h1 := quo_digit (B := 16777216) (X := vl 16777216 (u.drop (j + 1))) HP.out hx24
              rw [← HV2.out, HY.out] at h1
              omega
            have hdg := fun w' (h1 : Sl .i64 w' v2 l2) (h2 : Sl .i64 w' (.slice ab v.length cb) v) => rdigit_any h1 h2 HD2.out HDB.out HT2.out (by omega) (by omega) (by rw [HVB.out]; exact HP.out) (by rw [HVB.out, HY.out]; exact hdq)
            rw [HVB.out, HY.out] at hdg
            have hdv : Y - V * (Y / V) = Y % V := by have := Nat.div_add_mod Y V; omega
            have hdle : V * (Y / V) ≤ Y := by have := Nat.div_add_mod Y V; omega
            obtain ⟨d, hd⟩ : ∃ d, Y / V = d := ⟨_, rfl⟩
            rw [hd] at hdq hdg hdv hdle
            have HDG := Lib.hid hdg; have HDV := Lib.hid hdv; have HDE := Lib.hid hd; have HDLE := Lib.hid hdle
            clear hdg hdv hd hdle hYV
            have hs4 := HS2.out.below HB4.out
            have hv4 := (HSB.out.below HB3.out).below HB4.out
            have HS4 := Lib.hid hs4; have HV4 := Lib.hid hv4
            clear hs4 hv4 hbw4
            go_wp2_with fail
            refine (HDG.out _ HS4.out.sl HV4.out).mono ?_
            rintro _ w5 ⟨rfl, hb5⟩
            have hbw5 : Below wr.heap.size wr w5 := HBW.out.trans (hb5.mono HBW.out.size)
            have hB5 := HB.out.below hqb hbw5
            have hw := hB5.get j (by have := HO.out; omega)
            have hf := hB5.free j
            have hset := hB5.set j d
            have hcs : (w5.setCell ⟨w2.heap.size, j, none⟩ (.int .i64 (d : Int))).cell? ⟨w2.heap.size, j, none⟩ = some (.int .i64 (d : Int)) := by
              have h1 := hset.get j (by rw [List.length_set, HO.out]; exact hlt)
              rw [getD_set _ _ _ _ (by rw [HO.out]; exact hlt), if_pos rfl] at h1
              exact h1
            have hs5 := (HS4.out.below hb5).put hqb (.int .i64 (d : Int)) (j := j)
            have hbs : Below w2.heap.size w2 (w5.setCell ⟨w2.heap.size, j, none⟩ (.int .i64 (d : Int))) := (HBel.out.trans (hbw5.mono HBel.out.size)).setCell (Nat.le_refl _) _
            have hv5 := HSB.out.below hbs
            have HSET := Lib.hid hset; have HS5 := Lib.hid hs5; have HV5 := Lib.hid hv5; have HBS := Lib.hid hbs; have HB5 := Lib.hid hbw5
            clear hset hs5 hv5 hbs hbw5 hB5 hb5
            go_wp2_with fail
            refine (rtimes_any (m := d) HV5.out HDB.out (by omega) (by omega)).mono ?_
            rintro _ w6 ⟨v6, l6, rfl, hs6, hd6, ht6, hv6, hl6, hb6⟩
            have hlen6 : l6.length ≤ l2.length := by
              rcases Nat.lt_or_ge l2.length l6.length with h | h
              · have h1 := vl_lt_of_length (b := 16777216) (by decide) HD2.out ht6 h
                rw [hv6, HVB.out, HY.out] at h1
                have := HDLE.out
                omega
              · exact h
            have hle6 : vl 16777216 l6 ≤ vl 16777216 l2 := by rw [hv6, HVB.out, HY.out]; exact HDLE.out
            have hs26 := HS5.out.below hb6
            have HV6 := Lib.hid hv6; have HLE6 := Lib.hid hle6; have HS26 := Lib.hid hs26; have HS6 := Lib.hid hs6; have HD6 := Lib.hid hd6; have HB6 := Lib.hid hb6
            clear hv6 hle6 hs26 hs6 hd6 hb6 ht6 hw hf hcs
            go_wp2_with fail
            refine (rminus_any HS26.out.sl HS6.out HD2.out HD6.out hlen6 HLE6.out (by omega)).mono ?_
            rintro _ w7 ⟨v7, l7, rfl, hs7, hd7, ht7, hv7, hl7, hb7⟩
            have HV7 := Lib.hid hv7; have HS7 := Lib.hid hs7; have HD7 := Lib.hid hd7; have HT7 := Lib.hid ht7; have HB7 := Lib.hid hb7
            clear hv7 hs7 hd7 ht7 hb7
            go_wp2
            have hbq := HBS.out.trans ((HB6.out.trans (HB7.out.mono HB6.out.size)).mono HBS.out.size)
            refine ⟨⟨j, o.set j d, l7, by omega, rfl, (HSET.out.below (by rw [World.size_setCell]; exact Nat.lt_of_lt_of_le hqb HB5.out.size) HB6.out).below (Nat.lt_of_lt_of_le (by rw [World.size_setCell]; exact Nat.lt_of_lt_of_le hqb HB5.out.size) HB6.out.size) HB7.out, by rw [List.length_set]; exact HO.out, HD.out.set _ _ (by omega), fun t ht => ?_, ?_, HS7.out, HD7.out, HT7.out, ?_, hbq⟩, by simp only [intOf]; omega⟩
            · rw [ldigit_set_ne _ _ _ _ (by omega)]; exact HZ.out t (by omega)
            · rw [drop_set_self _ _ _ (by rw [HO.out]; exact hlt), vl_cons, ← HDE.out]; exact HN1.out
            · rw [HV7.out, HV6.out, HVB.out, HY.out, HDV.out]; exact HN2.out

end Go.Proofs.YtolmjeglaolhlaaGreatDoor

/- sortesref01.Quo: small numbers; the whole contract. -/
namespace Go.Proofs.YtolmjeglaolhlaaGreatDoor
open Go.RowKit Num

set_option maxRecDepth 100000 in
set_option maxHeartbeats 1000000 in
theorem RQuo_small (a b : ByteArray) (w : World) (ha : a.size ≤ 100000000) (hb : b.size ≤ 100000000) (hpos : 0 < SN b) (hx : SN a < 256 ^ 7) (hy : SN b < 256 ^ 7) :
    Calls Tryz.prog 70 #[.string a, .string b] w fun e w' => e = .returned (.tuple #[.string (Enc (SN a / SN b)), .string (Enc (SN a % SN b)), .bool true]) ∧ Below w.heap.size w w' := by
  have c0 := fun w => Canon_any b w (by omega)
  have hcn : 0 < (Enc (SN b)).size := by
    rcases Nat.eq_zero_or_pos (Enc (SN b)).size with h | h
    · have := Enc_small (n := SN b) (k := 0) (by omega); simp at this; omega
    · exact h
  have hcs : (Enc (SN b)).size ≤ 100000000 := Nat.le_trans (Enc_size_le (SN_lt b)) hb
  have hcv : SN (Enc (SN b)) = SN b := SN_Enc _
  have c1 := fun w => small_yes a 7 w (by omega) (by decide) hx
  have c2 := fun w => small_yes (Enc (SN b)) 7 w (by omega) (by decide) (by rw [hcv]; exact hy)
  rw [hcv] at c2
  generalize Enc (SN b) = t at *
  have e7 : (256 : Nat) ^ 7 = 72057594037927936 := by decide
  rw [e7] at hx hy
  generalize SN a = x at *
  generalize SN b = y at *
  have hq : x / y ≤ x := Nat.div_le_self _ _
  have hr : x % y ≤ x := Nat.mod_le _ _
  have eq1 : ((x / y : Nat) : Int) = (x : Int) / (y : Int) := rfl
  have eq2 : ((x % y : Nat) : Int) = (x : Int) % (y : Int) := rfl
  have bq0 : 0 ≤ (x : Int) / (y : Int) := by rw [← eq1]; exact Int.natCast_nonneg _
  have bq1 : (x : Int) / (y : Int) ≤ 72057594037927936 := by rw [← eq1]; exact Int.le_trans (Int.ofNat_le.2 hq) (by omega)
  have br0 : 0 ≤ (x : Int) % (y : Int) := by rw [← eq2]; exact Int.natCast_nonneg _
  have br1 : (x : Int) % (y : Int) ≤ 72057594037927936 := by rw [← eq2]; exact Int.le_trans (Int.ofNat_le.2 hr) (by omega)
  have c3 := fun w => ROfN_any ((x : Int) / (y : Int)) w (by omega)
  have c4 := fun w => ROfN_any ((x : Int) % (y : Int)) w (by omega)
  rw [← eq1, Int.toNat_natCast, eq1] at c3
  rw [← eq2, Int.toNat_natCast, eq2] at c4
  have et : IntKind.i64.wrap ((x : Int).tdiv (y : Int)) = (x : Int) / (y : Int) := by
    rw [Int.tdiv_eq_ediv_of_nonneg (by omega)]
    exact IntWalk.i64_in _ (by omega)
  have et2 : IntKind.i64.wrap ((x : Int) / (y : Int)) = (x : Int) / (y : Int) := IntWalk.i64_in _ (by omega)
  have hy1 : (1 : Int) ≤ (y : Int) := by omega
  have hyn : ¬ (y : Int) = 0 := by omega
  have hym : ¬ (y : Int) = -1 := by omega
  have em : (x : Int).tmod (y : Int) = (x : Int) % (y : Int) := Int.tmod_eq_emod_of_nonneg (by omega)
  have hy0 : ((y : Int) == 0) = false := by rw [beq_eq_false_iff_ne]; omega
  have hne : ((t.size : Int) == 0) = false := by rw [beq_eq_false_iff_ne]; omega
  obtain ⟨Q, hQ⟩ : ∃ Q, Q = Enc (x / y) := ⟨_, rfl⟩
  obtain ⟨R, hR⟩ : ∃ R, R = Enc (x % y) := ⟨_, rfl⟩
  rw [← hQ] at c3 ⊢
  rw [← hR] at c4 ⊢
  have C0 := Lib.hid c0; have C1 := Lib.hid c1; have C2 := Lib.hid c2; have C3 := Lib.hid c3; have C4 := Lib.hid c4
  clear c0 c1 c2 c3 c4 hcv e7 eq1 eq2 hQ hR hq hr
  have hmx : Tryz.prog.follows .mixedOrders = true := by kernel_rfl
  go_enter Tryz.func70, Tryz.ntmps70
  go_wp2_with fail
  refine (C0.out _).mono ?_
  rintro _ _ ⟨rfl, rfl⟩
  go_wp2_with fail
  refine (C1.out _).mono ?_
  rintro _ _ ⟨rfl, rfl⟩
  go_wp2_with fail
  refine (C2.out _).mono ?_
  rintro _ _ ⟨rfl, rfl⟩
  go_wp2_with fail
  go_region_with (first | (go_at_call 16; (with_reducible refine (C3.out _).mono ?_); rintro _ w3 ⟨rfl, hb3⟩) | (go_at_call 16; (with_reducible refine (C4.out _).mono ?_); rintro _ w4 ⟨rfl, hb4⟩))
  all_goals go_wp2
  all_goals go_ret3
  all_goals
    have h3 := (Below.refl w.heap.size w).drew.trans hb3
    exact ⟨rfl, h3.trans (hb4.mono h3.size)⟩

/-- **sortesref01.Quo**. -/
theorem RQuo_pos (a b : ByteArray) (w : World) (ha : a.size ≤ 100000000) (hb : b.size ≤ 100000000) (hpos : 0 < SN b) :
    Calls Tryz.prog 70 #[.string a, .string b] w fun e w' => e = .returned (.tuple #[.string (Enc (SN a / SN b)), .string (Enc (SN a % SN b)), .bool true]) ∧ Below w.heap.size w w' := by
  by_cases h : SN a < 256 ^ 7 ∧ SN b < 256 ^ 7
  · exact RQuo_small a b w ha hb hpos h.1 h.2
  · exact RQuo_large a b w ha hb hpos h

/-- Quotient and rest, with what stands for them by 0. -/
def quoS (m n : Nat) : ByteArray := if n = 0 then ⟨#[]⟩ else Enc (m / n)
def remS (m n : Nat) : ByteArray := if n = 0 then ⟨#[]⟩ else Enc (m % n)

theorem RQuo_is (q r : ByteArray) (v : Bool) (a b : ByteArray) (w : World) (ha : a.size ≤ 100000000) (hb : b.size ≤ 100000000) (h1 : quoS (SN a) (SN b) = q) (h2 : remS (SN a) (SN b) = r) (hv : decide (SN b ≠ 0) = v) :
    Calls Tryz.prog 70 #[.string a, .string b] w fun e w' => e = .returned (.tuple #[.string q, .string r, .bool v]) ∧ Below w.heap.size w w' := by
  subst h1; subst h2; subst hv
  rcases Nat.eq_zero_or_pos (SN b) with h | h
  · have h0 : decide (SN b ≠ 0) = false := by simp [h]
    rw [h0]
    unfold quoS remS
    rw [if_pos h, if_pos h]
    exact (RQuo_zero a b w hb h).mono fun _ _ ⟨e, h⟩ => ⟨e, by rw [← h]; exact Below.refl _ _⟩
  · have h0 : decide (SN b ≠ 0) = true := by simp; omega
    rw [h0]
    unfold quoS remS
    rw [if_neg (by omega), if_neg (by omega)]
    exact RQuo_pos a b w ha hb h

theorem NQuo_is (q r : ByteArray) (v : Bool) (a b : ByteArray) (w : World) (ha : a.size ≤ 268435456) (hb : b.size ≤ 268435456) (h1 : quoS (SN a) (SN b) = q) (h2 : remS (SN a) (SN b) = r) (hv : decide (SN b ≠ 0) = v) :
    Calls Tryz.prog 19 #[.string a, .string b] w fun e w' => e = .returned (.tuple #[.string q, .string r, .bool v]) ∧ Below w.heap.size w w' := by
  subst h1; subst h2; subst hv
  rcases Nat.eq_zero_or_pos (SN b) with h | h
  · have h0 : decide (SN b ≠ 0) = false := by simp [h]
    rw [h0]
    unfold quoS remS
    rw [if_pos h, if_pos h]
    exact Quo_none a b w hb h
  · have h0 : decide (SN b ≠ 0) = true := by simp; omega
    rw [h0]
    unfold quoS remS
    rw [if_neg (by omega), if_neg (by omega)]
    exact Quo_pos a b w ha hb h

end Go.Proofs.YtolmjeglaolhlaaGreatDoor

/- sortesref01.Gcd. -/
namespace Go.Proofs.YtolmjeglaolhlaaGreatDoor
open Go.RowKit Num

theorem Enc_size_mono {a b : Nat} (h : a ≤ b) : (Enc a).size ≤ (Enc b).size := Enc_size_le (Nat.lt_of_le_of_lt h (Enc_small (Nat.le_refl _)))

def RGcdRel (w : World) (G n k : Nat) (x y : Value) (wr : World) : Prop :=
  ∃ m q : Nat, x = .string (Enc m) ∧ y = .string (Enc q) ∧ q = k ∧ (Enc m).size ≤ n ∧ (Enc q).size ≤ n ∧ Nat.gcd m q = G ∧ Below w.heap.size w wr

set_option maxRecDepth 100000 in
set_option maxHeartbeats 800000 in
/-- **sortesref01.Gcd**. -/
theorem RGcd_any (a b : ByteArray) (w : World) (ha : a.size ≤ 100000000) (hb : b.size ≤ 100000000) :
    Calls Tryz.prog 90 #[.string a, .string b] w fun e w' => e = .returned (.string (Enc (Nat.gcd (SN a) (SN b)))) ∧ Below w.heap.size w w' := by
  obtain ⟨G, hG⟩ : ∃ G, Nat.gcd (SN a) (SN b) = G := ⟨_, rfl⟩
  rw [hG]
  have HG := Lib.hid hG; clear hG
  go_enter Tryz.func90, Tryz.ntmps90
  go_wp2_with fail
  refine (Canon_any a _ (by omega)).mono ?_
  rintro _ _ ⟨rfl, rfl⟩
  go_wp2_with fail
  refine (Canon_any b _ (by omega)).mono ?_
  rintro _ _ ⟨rfl, rfl⟩
  have h1 : (Enc (SN a)).size ≤ 100000000 := Nat.le_trans (Enc_size_le (SN_lt a)) ha
  have h2 : (Enc (SN b)).size ≤ 100000000 := Nat.le_trans (Enc_size_le (SN_lt b)) hb
  go_wp2_with fail
  go_loopg [0, 1] (SN b) (fun k x y wr => RGcdRel w G 100000000 k x y wr)
  case atStart => exact ⟨SN a, SN b, rfl, rfl, rfl, h1, h2, HG.out, Below.refl _ _⟩
  case round =>
    clear h1 h2
    obtain ⟨m, ghost, rfl, rfl, hk, hs1, hs2, hgc, hbel⟩ := hrel
    have HK := Lib.hid hk; clear hk
    have HGC := Lib.hid hgc; have HBel := Lib.hid hbel
    clear hgc hbel
    obtain ⟨s, hs⟩ : ∃ s, Enc m = s := ⟨_, rfl⟩
    have hsm : SN s = m := by rw [← hs, SN_Enc]
    rw [hs] at hs1 ⊢
    rcases Nat.eq_zero_or_pos ghost with h0 | h0
    · subst h0
      have he : Enc 0 = ⟨#[]⟩ := by kernel_rfl
      rw [he]
      have hG := HGC.out
      rw [Nat.gcd_zero_right] at hG
      have HSM := Lib.hid hs
      clear hs2 he hs hsm
      go_wp2_with fail
      go_ret
      exact ⟨by rw [← HSM.out, hG]; rfl, HBel.out⟩
    · have hp : 0 < (Enc ghost).size := by
        rcases Nat.eq_zero_or_pos (Enc ghost).size with h | h
        · have := Enc_small (n := ghost) (k := 0) (by omega); simp at this; omega
        · exact h
      have ht2 : SN (Enc ghost) = ghost := SN_Enc _
      have hrs : (Enc (m % ghost)).size ≤ 100000000 := by rw [← hs] at hs1; exact Nat.le_trans (Enc_size_mono (Nat.mod_le _ _)) hs1
      have hq := fun w => RQuo_pos s (Enc ghost) w hs1 hs2 (by rw [ht2]; exact h0)
      rw [ht2, hsm] at hq
      obtain ⟨t, ht⟩ : ∃ t, Enc ghost = t := ⟨_, rfl⟩
      rw [ht] at hq hp hs2 ⊢
      have HQ := Lib.hid hq; have HT := Lib.hid ht; have HRS := Lib.hid hrs
      clear hq ht hrs ht2 hs hsm
      go_wp2_with fail
      refine (HQ.out _).mono ?_
      rintro _ w3 ⟨rfl, hb3⟩
      have HB3 := Lib.hid hb3
      clear hb3
      go_wp2_with fail
      go_roundg (m % ghost)
      case measure => rw [← HK.out]; exact Nat.mod_lt _ h0
      case rel =>
        refine ⟨ghost, m % ghost, by rw [HT.out], rfl, rfl, by rw [HT.out]; exact hs2, HRS.out, ?_, HBel.out.trans (HB3.out.mono HBel.out.size)⟩
        rw [← HGC.out, Nat.gcd_comm ghost, ← Nat.gcd_rec, Nat.gcd_comm]

#print axioms RGcd_any
end Go.Proofs.YtolmjeglaolhlaaGreatDoor
