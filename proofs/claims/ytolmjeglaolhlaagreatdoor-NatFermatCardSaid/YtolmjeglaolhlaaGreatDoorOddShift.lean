/- nat.odd.shifted: a number times a power of the base, modulo an odd modulus. -/
import Derived.Test.YtolmjeglaolhlaaGreatDoorOddNew
import Derived.Test.YtolmjeglaolhlaaGreatDoorDivide
import Derived.Deep.AppendSrc
import Derived.Deep.Upon
import Derived.Deep.Cut
namespace Go.Proofs.YtolmjeglaolhlaaGreatDoor
open Go.RowKit Num

theorem step_append_ex {P : Program} {w : World} {ops : Array Oper} {o : Oper} {a : Act} {K : Act → World → Prop} {Q : Exit → Act → World → Prop} {E : Prop} (hgd : o.guard = none) (s x : Operand) (t t2 : TypeId)
    (ho : o.op = .call { callee := .builtin .append, args := #[s, x], argTypes := #[t, t2] }) (vs vx : Value) (hs : a.eval s = vs) (hx : a.eval x = vx) {R : Value → World → Prop}
    (hrun : ∃ v w', (Builtin.append_ #[t, t2] o.type #[vs, vx]).run P w = .ok v w' ∧ R v w') (h : ∀ v w', R v w' → K (a.put o.dst v) w') :
    if Region.wanted o (yielded ops a.tmps) = true then Oper.wp P o a w K Q else E := by
  obtain ⟨v, w', hr, hR⟩ := hrun
  exact step_append_run hgd s x t t2 ho vs vx hs hx v w' hr (h v w' hR)

theorem src_sl {w : World} {a : Option Addr} {cap : Nat} {l : List Nat} (h : Sl .u32 w (.slice a l.length cap) l) : Src Tryz.prog 1 80 (.slice a l.length cap) l.length (ints .u32 l) w := by
  obtain ⟨a', cap', e, _, _, h3⟩ := h
  cases e
  rcases Nat.eq_zero_or_pos l.length with h0 | h0
  · obtain rfl : l = [] := List.length_eq_zero_iff.1 h0
    cases a with
    | none => exact Src.ofNil w Tryz.underlying80 cap
    | some ad => exact Src.ofSlice w Tryz.underlying80 ad 0 cap [] rfl (fun j v h => by simp at h) (fun u h => by cases h)
  · obtain ⟨b, off, rfl, hb, hr⟩ := h3 h0
    refine Src.ofSlice w Tryz.underlying80 ⟨b, off, none⟩ l.length cap (ints .u32 l) (by simp) (fun j v hv => ?_) (fun u hu => by
      simp only [ints, List.mem_map] at hu
      obtain ⟨x, _, rfl⟩ := hu
      rfl)
    have hj : j < l.length := by
      rcases Nat.lt_or_ge j l.length with h | h
      · exact h
      · rw [List.getElem?_eq_none (by simpa using h)] at hv; cases hv
    rw [WideShapes.add_plain, hr j hj, ← ints_get .u32 l j hj]
    exact hv

/-- append(s, l...) where there is no room. -/
theorem append_sl {w : World} {a : Option Addr} {v2 : Value} {l1 l2 : List Nat} (h1 : Sl .u32 w (.slice a l1.length l1.length) l1) (h2 : Sl .u32 w v2 l2) (hsz : l1.length + l2.length ≤ 1073741824) :
    ∃ v W, (Builtin.append_ #[80, 80] 80 #[.slice a l1.length l1.length, v2]).run Tryz.prog w = .ok v W ∧ Sl .u32 W v (l1 ++ l2) ∧ Below w.heap.size w W := by
  obtain ⟨i0, hi, hz0, hz1, hz2⟩ := info_parts info_u32
  have h2' := h2
  obtain ⟨a2, c2, rfl, hc, hc2, -⟩ := h2'
  have hs := src_sl h2
  rcases Nat.eq_zero_or_pos l2.length with h0 | h0
  · obtain rfl : l2 = [] := List.length_eq_zero_iff.1 h0
    refine ⟨_, _, run_append_nothing w 80 80 80 30 i0 Tryz.underlying80 hi a l1.length l1.length (Nat.le_refl _) _ (by rw [hz1]; exact hs), ?_, Below.refl _ _⟩
    rw [List.append_nil]; exact h1
  · refine ⟨_, _, run_append_grow_src w 80 80 80 30 i0 (.int .u32 0) Tryz.underlying80 hi hz0 a l1.length l1.length (ints .u32 l1) (by rw [hz1]; exact firstCells_sl h1 _ ((Below.refl _ _).drew)) _ l2.length (ints .u32 l2) (by rw [hz1]; exact hs) (by omega) (by omega)
      (growslice_fits (by omega) (by
        have : (l1.length + l2.length) * i0.bytes ≤ 1073741824 * 8 := Nat.mul_le_mul hsz (by rw [hz2]; decide)
        omega)), ?_, ?_⟩
    · have e1 : ((ints .u32 l1 ++ ints .u32 l2).toArray ++ Builtin.zeroCells (Value.int .u32 0).cells (grownCap w (l1.length + l2.length) l1.length 30 - (l1.length + l2.length))) = (ints .u32 ((l1 ++ l2) ++ List.replicate (grownCap w (l1.length + l2.length) l1.length 30 - (l1.length + l2.length)) 0)).toArray := by
        apply Array.ext'
        have h2 := zeroCells_u32 (grownCap w (l1.length + l2.length) l1.length 30 - (l1.length + l2.length))
        simp only [Array.toList_append]
        rw [show (Value.int IntKind.u32 0).cells = #[.int .u32 0] from rfl, h2]
        simp [ints]
      rw [e1]
      have hge := grownCap_ge w (l1.length + l2.length) l1.length 30
      have hmx := grownCap_le_maxLen w (l1.length + l2.length) l1.length 30 (by unfold maxLen; omega)
      generalize grownCap w (l1.length + l2.length) l1.length 30 = cap at *
      have hb := Blk.new w.drew 30 (ints .u32 ((l1 ++ l2) ++ List.replicate (cap - (l1.length + l2.length)) 0))
      have hr := hb.row.take (l1 ++ l2).length
      rw [List.take_append_of_le_length (Nat.le_refl _), List.take_of_length_le (Nat.le_refl _)] at hr
      have := hr.sl hb.lt cap (by simp; omega) (by simpa [maxLen] using hmx)
      simpa using this
    · exact (Below.refl _ _).drew.alloc (Nat.le_refl _) _

set_option maxRecDepth 100000 in
set_option maxHeartbeats 1000000 in
/-- **nat.odd.shifted**. -/
theorem shifted_any {vm vx : Value} {lm lx : List Nat} {m : Nat} {w : World} (hm : Sl .u32 w vm lm) (hx : Sl .u32 w vx lx) (dm : Dig 4294967296 lm) (dx : Dig 4294967296 lx) (tm : Tr lm) (hpos : 0 < vl 4294967296 lm)
    (hsz : lm.length + lx.length ≤ 1073741824) :
    Calls Tryz.prog 110 #[.agg #[vm, .int .u32 (m : Int)], vx] w fun e w' => ∃ v l, e = .returned v ∧ Sl .u32 w' v l ∧ Dig 4294967296 l ∧ l.length = lm.length ∧
      vl 4294967296 l = vl 4294967296 lx * 4294967296 ^ lm.length % vl 4294967296 lm ∧ Below w.heap.size w w' := by
  have hm0 := hm
  obtain ⟨am, cm, rfl, hcm, hcm2, -⟩ := hm
  have hx' := hx
  obtain ⟨ax, cx, rfl, hcx, hcx2, -⟩ := hx'
  have hmk := run_make_row' (P := Tryz.prog) 80 30 (.int .u32 0) 4 Tryz.underlying80 info_u32 rfl .i64 .i64 lm.length (by omega) (by omega)
  go_enter Tryz.func110, Tryz.ntmps110
  go_upto_region 1 with fail
  generalize hWW : w.alloc (.cells #[.slice am lm.length cm, .int .u32 (m : Int)] 86) = W
  have hbo : Blk W w.heap.size 86 [.slice am lm.length cm, .int .u32 (m : Int)] := by rw [← hWW]; exact Blk.new _ _ _
  have hW1 : Below w.heap.size w W := by rw [← hWW]; exact (Below.refl _ _).alloc (Nat.le_refl _) _
  have hbol := hbo.lt
  have hm1 := hm0.below hW1
  have hx1 := hx.below hW1
  clear hWW hm0 hx
  have hv0 : W.cell? ⟨w.heap.size, 0, none⟩ = some (.slice am lm.length cm) := hbo.cell 0
  have hv1 : W.cell? ⟨w.heap.size, 1, none⟩ = some (.int .u32 (m : Int)) := hbo.cell 1
  have hap : ∀ W1, W1 = W.drew.alloc (.cells (madeCells #[Value.int .u32 0] lm.length) 30) → ∃ v W2, (Builtin.append_ #[80, 80] 80 #[.slice (some ⟨W.heap.size, 0, none⟩) lm.length lm.length, .slice ax lx.length cx]).run Tryz.prog W1 = .ok v W2 ∧
      (Sl .u32 W2 v (List.replicate lm.length 0 ++ lx) ∧ Below W.heap.size W W2) := by
    intro W1 e
    subst e
    have hb := Blk.made W.drew .u32 lm.length 30
    have hb1 : Below W.heap.size W (W.drew.alloc (.cells (madeCells #[Value.int .u32 0] lm.length) 30)) := (Below.refl _ _).drew.alloc (Nat.le_refl _) _
    have hs := hb.row.sl hb.lt lm.length (by simp) (by omega)
    rw [List.length_replicate] at hs
    obtain ⟨v, W2, h1, h2, h3⟩ := append_sl (l1 := List.replicate lm.length 0) (by rw [List.length_replicate]; exact hs) (hx1.below hb1) (by simpa using hsz)
    rw [List.length_replicate] at h1
    exact ⟨v, W2, h1, h2, hb1.trans (h3.mono hb1.size)⟩
  have hcA : ∀ o, (W.alloc o).cell? ⟨w.heap.size, 0, none⟩ = some (.slice am lm.length cm) := fun o => (World.cell?_alloc_lt W o ⟨w.heap.size, 0, none⟩ hbol).trans hv0
  have hcB : ∀ o, (W.drew.alloc o).cell? ⟨w.heap.size, 0, none⟩ = some (.slice am lm.length cm) := fun o => (World.cell?_alloc_lt W.drew o ⟨w.heap.size, 0, none⟩ hbol).trans hv0
  have HM := Lib.hid hm1; have HX := Lib.hid hx1; have HBO := Lib.hid hbo; have HW := Lib.hid hW1
  clear hm1 hx1 hbo hW1
  go_region_law (first
    | (refine step_append_ex (by rfl) _ _ _ _ (by rfl) _ _ (by rfl) (by rfl) (hap _ (by rfl)) ?_; rintro v2 W2 ⟨hs2, hb2⟩; have hc2 := (hb2.cell (p := ⟨w.heap.size, 0, none⟩) hbol).trans hv0)
    | (go_simp; go_at_call 98; refine (trim_any (b := 4294967296) hs2).mono ?_; rintro e3 w3 ⟨v3, l3, rfl, hs3, hd3, ht3, hv3, hl3, rfl⟩)
    | (go_simp; go_at_call 64; refine (divide_any hs3 (HM.out.below hb2) (hd3 ((Dig.replicate (by decide) _).append dx)) dm ht3 tm hpos (by simp at hl3; omega)).mono ?_; rintro e4 w4 ⟨vq, vr, lq, lr, rfl, hsq, hsr, hdq, hdr, htq, htr, hvq, hvr, hlq, hlr, hb4⟩))
  all_goals
    have hb24 := hb2.trans (hb4.mono hb2.size)
    have hc0 := (hb24.cell (p := ⟨w.heap.size, 0, none⟩) hbol).trans hv0
    have hc1 := (hb24.cell (p := ⟨w.heap.size, 1, none⟩) hbol).trans hv1
    go_wp2_with fail
    refine (full_any (HM.out.below hb24) hsr hlr (by omega)).mono ?_
    rintro e5 w5 ⟨v5, rfl, hs5, hb5⟩
    go_wp2_with fail
    go_ret
    refine ⟨v5, _, rfl, hs5, hdr.append (Dig.replicate (by decide) _), by simp; omega, ?_, HW.out.trans ((hb24.trans (hb5.mono hb24.size)).mono (Nat.le_of_lt hbol))⟩
    rw [vl_append_zeros, hvr, hv3, vl_append, vl_zeros, List.length_replicate, Nat.zero_add, Nat.mul_comm]

#print axioms shifted_any
end Go.Proofs.YtolmjeglaolhlaaGreatDoor
