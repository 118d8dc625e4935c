/- sorteslaw01.NatTexts: the walk. -/
import Derived.Test.YtmbgohaljiiigaaGreatDoorSanityW
import Derived.Test.YtmbgohaljiiigaaGreatDoorMade
import Derived.Test.YtmbgohaljiiigaaGreatDoorRText
import Derived.Test.YtmbgohaljiiigaaGreatDoorRParse
import Derived.Deep.QuietTactic
import Derived.BigQuiet
import Derived.RegionTactic
import Derived.BigRegion
namespace Go.Proofs.YtmbgohaljiiigaaGreatDoor
open Go.RowKit Num

/-- The bytes of a string in a block of their own, each of them free to be written. -/
theorem bytes_laid (W : World) (s : ByteArray) : ∃ (cap : Nat) (O : Obj), (convert 9 22 (.string s)).run Tryz.prog W = .ok (.slice (some ⟨W.heap.size, 0, none⟩) s.size cap) (W.drew.alloc O) ∧ s.size ≤ cap ∧
    (∀ j (hj : j < s.size), (W.drew.alloc O).cell? ⟨W.heap.size, j, none⟩ = some (.int .u8 (s[j].toNat : Int))) ∧ (∀ j, j < s.size → (W.drew.alloc O).frozen? ⟨W.heap.size, j, none⟩ = false) := by
  refine ⟨_, _, run_bytes_of_string W 9 22 5 s Tryz.underlying9 Tryz.underlying22 Tryz.underlying5, ?_, ?_, ?_⟩
  · exact grownCap_ge _ _ _ _
  · intro j hj
    have h := bytesRow_at s (grownCap W s.size 0 5) j hj
    have hb : (W.drew.alloc (.cells (bytesRow s (grownCap W s.size 0 5)) 5 ((bytesRow s (grownCap W s.size 0 5)).size, (bytesRow s (grownCap W s.size 0 5)).size + 1))).heap[W.heap.size]? = some (.cells (bytesRow s (grownCap W s.size 0 5)) 5 ((bytesRow s (grownCap W s.size 0 5)).size, (bytesRow s (grownCap W s.size 0 5)).size + 1)) := heap_alloc_new W.drew _
    simp only [World.cell?, hb]
    exact h
  · intro j hj
    have hlen : s.size ≤ (bytesRow s (grownCap W s.size 0 5)).size := by
      unfold bytesRow
      simp
    have hb : (W.drew.alloc (.cells (bytesRow s (grownCap W s.size 0 5)) 5 ((bytesRow s (grownCap W s.size 0 5)).size, (bytesRow s (grownCap W s.size 0 5)).size + 1))).heap[W.heap.size]? = some (.cells (bytesRow s (grownCap W s.size 0 5)) 5 ((bytesRow s (grownCap W s.size 0 5)).size, (bytesRow s (grownCap W s.size 0 5)).size + 1)) := heap_alloc_new W.drew _
    simp only [World.frozen?, hb]
    simp
    omega

/-- What the loop holds: the block of the texts. -/
def TextsRel (w : World) (B : Nat) (ss : List ByteArray) (i : Value) (wr : World) : Prop :=
  ∃ k : Nat, k ≤ ss.length ∧ i = .int .i64 (k : Int) ∧ Blk wr B 9 (ss.map Value.string) ∧ Below w.heap.size w wr

set_option maxRecDepth 100000 in
set_option maxHeartbeats 4000000 in
theorem Texts_walk {v1 : Value} {l1 : List Nat} {w : World} (raw : ByteArray) (hraw : raw.size ≤ maxLen) (x y : Nat) (hx : x < 256) (hy : y < 256) (he : Env w) (g1 : Sl .u8 w v1 l1) :
    Calls Tryz.prog 11 #[v1, .string raw, .agg #[.int .u8 (x : Int), .int .u8 (y : Int)]] w fun e w' => e = .returned (.bool true) ∧ Below w.heap.size w w' := by
  unfold maxLen at hraw
  have hsa := madeS_size l1
  have m1 : ∀ w', Below w.heap.size w w' → _ := fun w' hb => Made_any (g1.below hb)
  generalize madeS l1 = a at *
  clear g1
  have hds : (DecS (SN a)).size ≤ 120 := by
    show (decD (SN a)).toArray.size ≤ 120
    rw [List.size_toArray]
    refine decD_length_le ?_ (by decide)
    have h1 := size_lt hsa
    exact Nat.lt_of_lt_of_le h1 (by decide)
  have hdp : 0 < (DecS (SN a)).size := by
    show 0 < (decD (SN a)).toArray.size
    rw [List.size_toArray]
    exact decD_length_pos _
  have c1 : ∀ w', Env w' → _ := fun w' he => Text_any a w' (by omega) he
  have c2 := fun w => Parse_any (DecS (SN a)) w (by omega)
  have hpp : parsePair (DecS (SN a)).data.toList = .tuple #[.string (Enc (SN a)), .bool true] := by
    have e : (DecS (SN a)).data.toList = decD (SN a) := by show (decD (SN a)).toArray.toList = _; simp
    rw [e, parsePair_yes (decD_rt _), decD_val]
  rw [hpp] at c2
  have c3 := fun w => RText_any a w (by omega)
  have c4 := fun w => Canon_any a w (by omega)
  generalize DecS (SN a) = s at *
  generalize Enc (SN a) = ca at *
  have M1 := Lib.hid m1
  have C1 := Lib.hid c1; have C2 := Lib.hid c2; have C3 := Lib.hid c3; have C4 := Lib.hid c4
  clear m1 c1 c2 c3 c4 hpp
  have hne : ((s.size : Int) == 0) = false := by rw [beq_eq_false_iff_ne]; omega
  have hbx := Blk.new w 66 [.int .u8 (x : Int), .int .u8 (y : Int)]
  have HBX := Lib.hid hbx
  have HB := Lib.hid ((Below.refl w.heap.size w).alloc (Nat.le_refl _) (.cells #[.int .u8 (x : Int), .int .u8 (y : Int)] 66))
  clear hbx
  go_enter Tryz.func11, Tryz.ntmps11
  go_wp2_with fail
  refine (sanity_any _ (he.below HB.out)).mono ?_
  rintro _ w1 ⟨rfl, hb1⟩
  have hcx1 := (hb1.cell (p := ⟨w.heap.size, 0, none⟩) (by simp)).trans (HBX.out.cell 0)
  have hcy1 := (hb1.cell (p := ⟨w.heap.size, 1, none⟩) (by simp)).trans (HBX.out.cell 1)
  have hz1 : w.heap.size < w1.heap.size := by have := hb1.size; simp at this; omega
  have HB1 := Lib.hid (HB.out.trans (hb1.mono HB.out.size))
  clear hb1
  go_wp2_with fail
  refine (M1.out _ HB1.out).mono ?_
  rintro _ _ ⟨rfl, rfl⟩
  go_wp2_with fail
  refine (C1.out _ (he.below HB1.out)).mono ?_
  rintro _ w2 ⟨rfl, hb2⟩
  have hcx2 := (hb2.cell (p := ⟨w.heap.size, 0, none⟩) hz1).trans hcx1
  have hcy2 := (hb2.cell (p := ⟨w.heap.size, 1, none⟩) hz1).trans hcy1
  have hz2 : w.heap.size < w2.heap.size := Nat.lt_of_lt_of_le hz1 hb2.size
  have HB2 := Lib.hid (HB1.out.trans (hb2.mono HB1.out.size))
  clear hb2 hcx1 hcy1 HB1
  go_wp2_with fail
  refine (C2.out _).mono ?_
  rintro _ w3 ⟨rfl, hb3⟩
  have hcx3 := (hb3.cell (p := ⟨w.heap.size, 0, none⟩) hz2).trans hcx2
  have hcy3 := (hb3.cell (p := ⟨w.heap.size, 1, none⟩) hz2).trans hcy2
  have hz3 : w.heap.size < w3.heap.size := Nat.lt_of_lt_of_le hz2 hb3.size
  have HB3 := Lib.hid (HB2.out.trans (hb3.mono HB2.out.size))
  clear hb3 hcx2 hcy2 HB2
  go_wp2_with fail
  refine (C3.out _).mono ?_
  rintro _ w4 ⟨rfl, hb4⟩
  have hcx4 := (hb4.cell (p := ⟨w.heap.size, 0, none⟩) hz3).trans hcx3
  have hcy4 := (hb4.cell (p := ⟨w.heap.size, 1, none⟩) hz3).trans hcy3
  have hz4 : w.heap.size < w4.heap.size := Nat.lt_of_lt_of_le hz3 hb4.size
  have HB4 := Lib.hid (HB3.out.trans (hb4.mono HB3.out.size))
  clear hb4 hcx3 hcy3 HB3
  go_wp2_with fail
  refine (C4.out _).mono ?_
  rintro _ _ ⟨rfl, rfl⟩
  obtain ⟨cap, O, hcv, hcap, hcell, hfree⟩ := bytes_laid w4 s
  have hBO : Below w4.heap.size w4 (w4.drew.alloc O) := ((Below.refl _ _).drew).alloc (Nat.le_refl _) O
  have hcx5 := (hBO.cell (p := ⟨w.heap.size, 0, none⟩) hz4).trans hcx4
  have hcy5 := (hBO.cell (p := ⟨w.heap.size, 1, none⟩) hz4).trans hcy4
  have hsz5 : (w4.drew.alloc O).heap.size = w4.heap.size + 1 := by simp
  have HB5 := Lib.hid (HB4.out.trans (hBO.mono HB4.out.size))
  obtain ⟨w5, hw5⟩ : ∃ w5, w4.drew.alloc O = w5 := ⟨_, rfl⟩
  rw [hw5] at hcv hcell hfree hcx5 hcy5 hsz5 HB5
  obtain ⟨ix, hix, hixs⟩ : ∃ ix : Nat, (x : Int) % (s.size : Int) = (ix : Int) ∧ ix < s.size := ⟨x % s.size, rfl, Nat.mod_lt _ hdp⟩
  have hci := hcell ix hixs
  have hfi := hfree ix hixs
  have HSZ5 := Lib.hid hsz5; have HCELL := Lib.hid hcell
  clear hw5 hcell hfree hcx4 hcy4 hBO HB4 hsz5
  go_wp2_with fail
  clear hcv
  have e1 : IntKind.i64.wrap (x : Int) = (x : Int) := by rw [IntKind.wrap_i64]; omega
  have e2 : (x : Int).tmod (s.size : Int) = (ix : Int) := by rw [Int.tmod_eq_emod_of_nonneg (by omega)]; exact hix
  have e3 : (0 : Int) ≤ (ix : Int) := by omega
  have e4 : (ix : Int) < (s.size : Int) := by omega
  go_region
  go_wp2_with fail
  clear e1 e2 e3 e4 hcx5 hcy5 hix
  obtain ⟨L, hL⟩ : ∃ L : List UInt8, L = s.data.toList.set ix (UInt8.ofNat y) := ⟨_, rfl⟩
  have hLl : L.length = s.size := by rw [hL]; simp
  obtain ⟨w6, hw6⟩ : ∃ w6, (w5.setCell ⟨w4.heap.size, ix, none⟩ (.int .u8 (y : Int))).drew = w6 := ⟨_, rfl⟩
  have HB6 : Hid (Below w.heap.size w w6) := Lib.hid (by rw [← hw6]; exact (HB5.out.setCell (Nat.le_of_lt hz4) _).drew)
  have hsz6 : w4.heap.size < w6.heap.size := by rw [← hw6]; show w4.heap.size < (w5.setCell _ _).heap.size; rw [World.size_setCell, HSZ5.out]; omega
  have hcell6 : ∀ j (hj : j < L.length), w6.cell? ⟨w4.heap.size, j, none⟩ = some (.int .u8 (L[j].toNat : Int)) := by
    intro j hj
    rw [← hw6]
    show (w5.setCell _ _).cell? _ = _
    have hj2 : j < s.size := by omega
    by_cases e : ix = j
    · subst e
      have h1 := World.cell?_setCell_same w5 ⟨w4.heap.size, ix, none⟩ (.int .u8 (y : Int)) (HCELL.out ix hj2)
      rw [h1]
      subst hL
      simp
      omega
    · have h1 := World.cell?_setCell_other w5 ⟨w4.heap.size, ix, none⟩ ⟨w4.heap.size, j, none⟩ (.int .u8 (y : Int)) (fun h => e (by injection h))
      rw [h1, HCELL.out j hj2]
      subst hL
      simp [e]
      rfl
  have hconv : ∀ w', Below w6.heap.size w6 w' → (convert 22 9 (.slice (some ⟨w4.heap.size, 0, none⟩) s.size cap)).run Tryz.prog w' = .ok (.string ⟨L.toArray⟩) w' := by
    intro w' hb
    rw [← hLl]
    refine run_convert_bytes_back w' 22 9 5 ⟨w4.heap.size, 0, none⟩ cap L Tryz.underlying22 Tryz.underlying5 Tryz.underlying9 fun j hj => ?_
    rw [WideShapes.add_plain, Nat.zero_add]
    exact (hb.cell (p := ⟨w4.heap.size, j, none⟩) hsz6).trans (hcell6 j hj)
  have htl : (ByteArray.mk L.toArray).size = s.size := by show L.toArray.size = _; rw [List.size_toArray]; exact hLl
  generalize ByteArray.mk L.toArray = t at hconv htl
  have hconv6 := hconv w6 (Below.refl _ _)
  have HCONV := Lib.hid hconv
  rw [hw6]
  obtain ⟨mr, hmr, hmr2, hmr3⟩ : ∃ mr : Nat, min (raw.size : Int) 100 = (mr : Int) ∧ mr ≤ raw.size ∧ mr ≤ 100 := ⟨min raw.size 100, by omega, by omega, by omega⟩
  have q1 : (0 : Int) ≤ (mr : Int) := by omega
  have q2 : (mr : Int) ≤ (raw.size : Int) := by omega
  have q3 : (1 : Int) ≤ (s.size : Int) := by omega
  have HTL := Lib.hid htl
  clear hw6 hcell6 hLl hL hconv hci hfi htl HCELL HSZ5
  have hconv7 := HCONV.out w6.drew ((Below.refl _ _).drew)
  clear HCONV
  go_region
  go_wp2_with fail
  obtain ⟨ss, hss⟩ : ∃ ss : List ByteArray, ss = [raw.extract 0 mr, t, ⟨#[48]⟩ ++ s, s ++ ⟨#[48]⟩, s.extract 1 s.size, s ++ ⟨#[32]⟩] := ⟨_, rfl⟩
  have hsl : ss.length = 6 := by rw [hss]; rfl
  have hsr : ∀ z ∈ ss, z.size ≤ 200 := by
    intro z hs
    rw [hss] at hs
    simp only [List.mem_cons, List.not_mem_nil, or_false] at hs
    have e0 : (ByteArray.mk #[48]).size = 1 := rfl
    have e1 : (ByteArray.mk #[32]).size = 1 := rfl
    have e2 := HTL.out
    rcases hs with rfl | rfl | rfl | rfl | rfl | rfl
    · rw [ByteArray.size_extract]; omega
    · omega
    · rw [ByteArray.size_append]; omega
    · rw [ByteArray.size_append]; omega
    · rw [ByteArray.size_extract]; omega
    · rw [ByteArray.size_append]; omega
  have HSS := Lib.hid hss; have HSL := Lib.hid hsl; have HSR := Lib.hid hsr
  clear hss hsl hsr hconv6 hconv7 q1 q2 q3 hmr
  go_loopw [77] (fun i wr => TextsRel w w6.heap.size ss i wr) (fun i _ => 6 - (intOf i).toNat)
  case atStart => exact ⟨0, by omega, rfl, by rw [HSS.out]; exact Blk.new _ _ _, (HB6.out.alloc HB6.out.size _).drew⟩
  case round =>
    obtain ⟨k, hk, rfl, hB, hbel⟩ := hrel
    have HBB := Lib.hid hB; have HBel := Lib.hid hbel
    clear hB hbel
    have hk6 : k ≤ 6 := by have := HSL.out; omega
    rcases Nat.lt_or_ge k ss.length with hlt | hge
    · have hk7 : k < 6 := by have := HSL.out; omega
      have hcell : wr.cell? ⟨w6.heap.size, k, none⟩ = some (.string ss[k]) := by
        rw [HBB.out.cell, List.getElem?_map, List.getElem?_eq_getElem hlt]; rfl
      have hr := HSR.out ss[k] (List.getElem_mem hlt)
      obtain ⟨z, hz⟩ : ∃ z, ss[k] = z := ⟨_, rfl⟩
      rw [hz] at hcell hr
      have d1 := fun w => Parse_any z w (by omega)
      have d2 := fun w => RParse_any z w (by omega)
      have hpp : ∃ (q : ByteArray) (v : Bool), parsePair z.data.toList = .tuple #[.string q, .bool v] := by
        by_cases h : DecRt z.data.toList
        · exact ⟨_, _, parsePair_yes h⟩
        · exact ⟨_, _, parsePair_no h⟩
      obtain ⟨q, v, hqv⟩ := hpp
      rw [hqv] at d1 d2
      have D1 := Lib.hid d1; have D2 := Lib.hid d2
      have hlt' := HBB.out.lt
      clear d1 d2 hz hlt hk hqv
      go_wp2_with fail
      refine (D1.out _).mono ?_
      rintro _ w7 ⟨rfl, hb7⟩
      have HB7 := Lib.hid hb7; clear hb7
      go_wp2_with fail
      refine (D2.out _).mono ?_
      rintro _ w8 ⟨rfl, hb8⟩
      have HB8 := Lib.hid (HB7.out.trans (hb8.mono HB7.out.size)); clear hb8
      go_wp2_with fail
      go_roundw
      case rel => first | exact ⟨k + 1, by have := HSL.out; omega, by go_num, HBB.out.below hlt' HB8.out, HBel.out.trans (HB8.out.mono HBel.out.size)⟩ | ((repeat apply Exists.intro); exact ⟨⟨k + 1, by have := HSL.out; omega, by go_num, HBB.out.below hlt' HB8.out, HBel.out.trans (HB8.out.mono HBel.out.size)⟩, rfl⟩)
      case measure => simp [intOf]; omega
    · have hk6' : k = 6 := by have := HSL.out; omega
      subst hk6'
      go_wp2_with fail
      go_ret
      exact ⟨rfl, HBel.out⟩

#print axioms Texts_walk
end Go.Proofs.YtmbgohaljiiigaaGreatDoor
