/- sorteslaw01.NatQuos: the walk. -/
import Derived.Test.YtmbgohaljiiigaaGreatDoorSanityW
import Derived.Test.YtmbgohaljiiigaaGreatDoorMade
import Derived.Test.YtmbgohaljiiigaaGreatDoorRQuoS
namespace Go.Proofs.YtmbgohaljiiigaaGreatDoor
open Go.RowKit Num

/-- What the loop holds: the block of the pairs. -/
def PairsRel (w : World) (B : Nat) (ps : List (ByteArray × ByteArray)) (i : Value) (wr : World) : Prop :=
  ∃ k : Nat, k ≤ ps.length ∧ i = .int .i64 (k : Int) ∧ Blk wr B 59 (ps.flatMap fun p => [Value.string p.1, Value.string p.2]) ∧ Below w.heap.size w wr

theorem pairs_at (ps : List (ByteArray × ByteArray)) (k : Nat) (hk : k < ps.length) :
    (ps.flatMap fun p => [Value.string p.1, Value.string p.2])[2 * k]? = some (.string ps[k].1) ∧ (ps.flatMap fun p => [Value.string p.1, Value.string p.2])[2 * k + 1]? = some (.string ps[k].2) := by
  induction ps generalizing k with
  | nil => simp at hk
  | cons p ps ih =>
    cases k with
    | zero => simp
    | succ k =>
      have := ih k (by simpa using hk)
      simp only [List.flatMap_cons, List.cons_append, List.nil_append, List.getElem_cons_succ]
      rw [show 2 * (k + 1) = 2 * k + 1 + 1 by omega]
      simpa using this

set_option maxRecDepth 100000 in
set_option maxHeartbeats 4000000 in
theorem Quos_walk {v1 v2 : Value} {l1 l2 : List Nat} {w : World} (m : Nat) (hm : m < 256) (he : Env w) (g1 : Sl .u8 w v1 l1) (g2 : Sl .u8 w v2 l2) :
    Calls Tryz.prog 8 #[v1, v2, .int .u8 (m : Int)] w fun e w' => e = .returned (.bool true) ∧ Below w.heap.size w w' := by
  have hsa := madeS_size l1
  have hsb := madeS_size l2
  have m1 : ∀ w', Below w.heap.size w w' → _ := fun w' hb => Made_any (g1.below hb)
  have m2 : ∀ w', Below w.heap.size w w' → _ := fun w' hb => Made_any (g2.below hb)
  generalize madeS l1 = a at *
  generalize madeS l2 = b at *
  clear g1 g2
  obtain ⟨p, hp⟩ : ∃ s, s = Enc (SN a * SN b) := ⟨_, rfl⟩
  obtain ⟨o, ho⟩ : ∃ s, s = Enc m := ⟨_, rfl⟩
  obtain ⟨s, hs⟩ : ∃ s, s = Enc (SN p + SN o) := ⟨_, rfl⟩
  obtain ⟨d, hd⟩ : ∃ s, s = subStr (SN p) (SN o) := ⟨_, rfl⟩
  obtain ⟨vd, hvd⟩ : ∃ v, v = decide (SN o ≤ SN p) := ⟨_, rfl⟩
  have zp : p.size ≤ 80 := by
    rw [hp]
    refine Enc_size_le ?_
    rw [show 80 = 40 + 40 by rfl, Nat.pow_add]
    exact Nat.mul_lt_mul'' (size_lt hsa) (size_lt hsb)
  have zo : o.size ≤ 1 := by rw [ho]; exact Enc_size_le (by omega)
  have zs : s.size ≤ 81 := by
    rw [hs]
    refine Enc_size_le ?_
    have h1 := size_lt zp
    have h2 := size_lt zo
    rw [show 81 = 80 + 1 by rfl, Nat.pow_succ]
    omega
  have zd : d.size ≤ 80 := by
    rw [hd]
    unfold subStr
    split
    · exact Nat.le_trans (Enc_size_le (Nat.lt_of_le_of_lt (Nat.sub_le _ _) (size_lt zp))) (Nat.le_refl _)
    · decide
  have c1 := fun w => RMul_is p a b w (by omega) (by omega) hp.symm
  have c2 := fun w => ROfN_any (m : Int) w (by omega)
  rw [Int.toNat_natCast, ← ho] at c2
  have c3 := fun w => RAdd_is s p o w (by omega) (by omega) hs.symm
  have c4 := fun w => RSub_is d vd p o w (by omega) (by omega) hd.symm hvd.symm
  have M1 := Lib.hid m1; have M2 := Lib.hid m2
  have C1 := Lib.hid c1; have C2 := Lib.hid c2; have C3 := Lib.hid c3; have C4 := Lib.hid c4
  clear m1 m2 c1 c2 c3 c4 hp ho hs hd hvd
  have hpl : ∃ ps : List (ByteArray × ByteArray), ps = [(a, b), (b, a), (s, b), (d, b), (s, a), (⟨#[127, 255, 255, 255, 128, 0, 0, 0, 0, 0, 0, 0, 0, 0, 0, 0]⟩, ⟨#[128, 0, 0, 0, 0, 0, 0, 0, 0, 0, 0, 1]⟩), (⟨#[127, 255, 255, 255, 128, 0, 0, 0, 0, 0, 0, 0, 0, 0, 0, 0]⟩ ++ a, ⟨#[128, 0, 0, 0, 0, 0, 0, 0, 0, 0, 0, 1]⟩ ++ b)] := ⟨_, rfl⟩
  obtain ⟨ps, hps⟩ := hpl
  have hpn : ps.length = 7 := by rw [hps]; rfl
  have hpz : ∀ x ∈ ps, x.1.size ≤ 100 ∧ x.2.size ≤ 100 := by
    intro x hx
    rw [hps] at hx
    simp only [List.mem_cons, List.not_mem_nil, or_false] at hx
    rcases hx with rfl | rfl | rfl | rfl | rfl | rfl | rfl
    · exact ⟨by show a.size ≤ _; omega, by show b.size ≤ _; omega⟩
    · exact ⟨by show b.size ≤ _; omega, by show a.size ≤ _; omega⟩
    · exact ⟨by show s.size ≤ _; omega, by show b.size ≤ _; omega⟩
    · exact ⟨by show d.size ≤ _; omega, by show b.size ≤ _; omega⟩
    · exact ⟨by show s.size ≤ _; omega, by show a.size ≤ _; omega⟩
    · exact ⟨by decide, by decide⟩
    · refine ⟨?_, ?_⟩
      · show (_ ++ a).size ≤ _
        rw [ByteArray.size_append]
        have : (ByteArray.mk #[127, 255, 255, 255, 128, 0, 0, 0, 0, 0, 0, 0, 0, 0, 0, 0]).size = 16 := rfl
        omega
      · show (_ ++ b).size ≤ _
        rw [ByteArray.size_append]
        have : (ByteArray.mk #[128, 0, 0, 0, 0, 0, 0, 0, 0, 0, 0, 1]).size = 12 := rfl
        omega
  have HPS := Lib.hid hps; have HPN := Lib.hid hpn; have HPZ := Lib.hid hpz
  clear hps hpn hpz
  have HB := Below.refl w.heap.size w
  go_enter Tryz.func8, Tryz.ntmps8
  go_wp2_with fail
  refine (sanity_any w he).mono ?_
  rintro _ wn ⟨rfl, hn⟩; replace HB := HB.trans (hn.mono HB.size); clear hn
  go_wp2_with fail
  refine (M1.out _ HB).mono ?_
  rintro _ _ ⟨rfl, rfl⟩
  go_wp2_with fail
  refine (M2.out _ HB).mono ?_
  rintro _ _ ⟨rfl, rfl⟩
  go_wp2_with fail
  refine (C1.out _).mono ?_
  rintro _ wn ⟨rfl, hn⟩; replace HB := HB.trans (hn.mono HB.size); clear hn
  go_wp2_with fail
  refine (C2.out _).mono ?_
  rintro _ wn ⟨rfl, hn⟩; replace HB := HB.trans (hn.mono HB.size); clear hn
  go_wp2_with fail
  refine (C3.out _).mono ?_
  rintro _ wn ⟨rfl, hn⟩; replace HB := HB.trans (hn.mono HB.size); clear hn
  go_wp2_with fail
  refine (C1.out _).mono ?_
  rintro _ wn ⟨rfl, hn⟩; replace HB := HB.trans (hn.mono HB.size); clear hn
  go_wp2_with fail
  refine (C2.out _).mono ?_
  rintro _ wn ⟨rfl, hn⟩; replace HB := HB.trans (hn.mono HB.size); clear hn
  go_wp2_with fail
  refine (C4.out _).mono ?_
  rintro _ wn ⟨rfl, hn⟩; replace HB := HB.trans (hn.mono HB.size); clear hn
  go_wp2_with fail
  clear C1 C2 C3 C4
  go_loopw [72] (fun i wr => PairsRel w (wn.heap.size + 1) ps i wr) (fun i _ => 7 - (intOf i).toNat)
  case atStart =>
    refine ⟨0, by omega, rfl, ?_, (HB.alloc HB.size _).alloc (by simp; have := HB.size; omega) _⟩
    rw [HPS.out]
    have h := Blk.new (wn.alloc (.cells #[.string ⟨#[127, 255, 255, 255, 128, 0, 0, 0, 0, 0, 0, 0, 0, 0, 0, 0]⟩, .string ⟨#[128, 0, 0, 0, 0, 0, 0, 0, 0, 0, 0, 1]⟩] 59)) 59 ([(a, b), (b, a), (s, b), (d, b), (s, a), (⟨#[127, 255, 255, 255, 128, 0, 0, 0, 0, 0, 0, 0, 0, 0, 0, 0]⟩, ⟨#[128, 0, 0, 0, 0, 0, 0, 0, 0, 0, 0, 1]⟩), (⟨#[127, 255, 255, 255, 128, 0, 0, 0, 0, 0, 0, 0, 0, 0, 0, 0]⟩ ++ a, ⟨#[128, 0, 0, 0, 0, 0, 0, 0, 0, 0, 0, 1]⟩ ++ b)].flatMap fun p : ByteArray × ByteArray => [Value.string p.1, Value.string p.2])
    simp only [World.size_alloc] at h
    exact h
  case round =>
    clear HB
    obtain ⟨k, hk, rfl, hB, hbel⟩ := hrel
    have HBB := Lib.hid hB; have HBel := Lib.hid hbel
    clear hB hbel
    have hk7 : k ≤ 7 := by have := HPN.out; omega
    rcases Nat.lt_or_ge k ps.length with hlt | hge
    · have hk6 : k < 7 := by have := HPN.out; omega
      obtain ⟨h1, h2⟩ := pairs_at ps k hlt
      have hc1 := HBB.out.cell (2 * k)
      have hc2 := HBB.out.cell (2 * k + 1)
      rw [h1, Nat.mul_comm] at hc1
      rw [h2, Nat.mul_comm 2] at hc2
      obtain ⟨z1, z2⟩ := HPZ.out ps[k] (List.getElem_mem hlt)
      generalize ps[k].1 = x at *
      generalize ps[k].2 = y at *
      have hlt' := HBB.out.lt
      have hnb := Blk.new wr 59 [.string x, .string y]
      have HNB := Lib.hid hnb
      clear h1 h2 hlt hk hnb
      obtain ⟨q, hq⟩ : ∃ q, quoS (SN x) (SN y) = q := ⟨_, rfl⟩
      obtain ⟨r, hr⟩ : ∃ r, remS (SN x) (SN y) = r := ⟨_, rfl⟩
      obtain ⟨v, hv⟩ : ∃ v, decide (SN y ≠ 0) = v := ⟨_, rfl⟩
      have c1 := fun w => NQuo_is q r v x y w (by omega) (by omega) hq hr hv
      have c2 := fun w => RQuo_is q r v x y w (by omega) (by omega) hq hr hv
      have C1 := Lib.hid c1; have C2 := Lib.hid c2
      clear c1 c2 hq hr hv
      go_wp2_with fail
      refine (C1.out _).mono ?_
      rintro _ w4 ⟨rfl, hb4⟩
      have hcx : w4.cell? ⟨wr.heap.size, 0, none⟩ = some (.string x) := (hb4.cell (p := ⟨wr.heap.size, 0, none⟩) (by simp)).trans (HNB.out.cell 0)
      have hcy : w4.cell? ⟨wr.heap.size, 1, none⟩ = some (.string y) := (hb4.cell (p := ⟨wr.heap.size, 1, none⟩) (by simp)).trans (HNB.out.cell 1)
      have HB4 := Lib.hid (((Below.refl wr.heap.size wr).alloc (Nat.le_refl _) _).trans (hb4.mono (by simp)))
      clear hb4
      go_wp2_with fail
      refine (C2.out _).mono ?_
      rintro _ w5 ⟨rfl, hb5⟩
      have HB5 := Lib.hid (HB4.out.trans (hb5.mono HB4.out.size))
      clear hb5
      go_wp2_with fail
      go_roundw
      case rel => first | exact ⟨k + 1, by have := HPN.out; omega, by go_num, HBB.out.below hlt' HB5.out, HBel.out.trans (HB5.out.mono HBel.out.size)⟩ | ((repeat apply Exists.intro); exact ⟨⟨k + 1, by have := HPN.out; omega, by go_num, HBB.out.below hlt' HB5.out, HBel.out.trans (HB5.out.mono HBel.out.size)⟩, rfl⟩)
      case measure => simp [intOf]; omega
    · have hk7' : k = 7 := by have := HPN.out; omega
      subst hk7'
      go_wp2_with fail
      go_ret
      exact ⟨rfl, HBel.out⟩

#print axioms Quos_walk
end Go.Proofs.YtmbgohaljiiigaaGreatDoor
