/- Powers at every modulus. -/
import Derived.Deep.RegionHeld3
import Derived.Test.YtolmjeglaolhlaaGreatDoorPow
import Derived.Test.YtolmjeglaolhlaaGreatDoorOddMul
import Derived.Test.YtolmjeglaolhlaaGreatDoorOddShift
import Derived.Test.YtolmjeglaolhlaaGreatDoorOddNew

/- nat.odd.pow: powers modulo an odd number, by Montgomery products. -/
namespace Go.Proofs.YtolmjeglaolhlaaGreatDoor
open Go.RowKit Go.Shelf Num

attribute [local go_sem] Oper.semAt_some

/-- A row of its own that holds the number one. -/
theorem one_sl {w : World} {B : Nat} (h : Blk w B 30 [.int .u32 1]) : Sl .u32 w (.slice (some ⟨B, 0, none⟩) 1 1) [1] :=
  Row.sl (l := [1]) (Blk.row (l := [1]) h) h.lt 1 (by simp) (by decide)

theorem Blk.new' {w : World} {B : Nat} {E : TypeId} {vs : List Value} (h : B = w.heap.size) : Blk (w.alloc (.cells vs.toArray E)) B E vs := by subst h; exact Blk.new _ _ _
theorem Blk.call {w w' : World} {b : Nat} {E : TypeId} {vs : List Value} (h : Blk w b E vs) (hb : Below w.heap.size w w') : Blk w' b E vs := h.below h.lt hb
theorem Blk.put0 {w : World} {b : Nat} {E : TypeId} {u v : Value} (h : Blk w b E [u]) : Blk (w.setCell ⟨b, 0, none⟩ v) b E [v] := h.put 0 v
theorem Sl.call {k : IntKind} {w w' : World} {v : Value} {l : List Nat} (h : Sl k w v l) (hb : Below w.heap.size w w') : Sl k w' v l := h.below hb
theorem Sl.al {k : IntKind} {w : World} {v : Value} {l : List Nat} (h : Sl k w v l) (o : Obj) : Sl k (w.alloc o) v l := h.below ((Below.refl _ _).alloc (Nat.le_refl _) _)
theorem Sl.shape {k : IntKind} {w : World} {v : Value} {l : List Nat} (h : Sl k w v l) : ∃ a c, v = .slice a l.length c := by obtain ⟨a, c, rfl, _⟩ := h; exact ⟨a, c, rfl⟩
theorem Blk.box {w : World} {B : Nat} {t : TypeId} {v : Value} (h : Blk w B t [v]) : w.cell? ⟨B, 0, none⟩ = some v ∧ w.frozen? ⟨B, 0, none⟩ = false ∧ (∀ o, (w.alloc o).cell? ⟨B, 0, none⟩ = some v) ∧ (∀ o, (w.alloc o).frozen? ⟨B, 0, none⟩ = false) ∧
    (∀ o o', ((w.alloc o).alloc o').cell? ⟨B, 0, none⟩ = some v) ∧ (∀ o o', ((w.alloc o).alloc o').frozen? ⟨B, 0, none⟩ = false) :=
  ⟨h.cell 0, h.free 0, fun o => (h.alloc o).cell 0, fun o => (h.alloc o).free 0, fun o o' => ((h.alloc o).alloc o').cell 0, fun o o' => ((h.alloc o).alloc o').free 0⟩
theorem withBlk {w : World} {B : Nat} {t : TypeId} {v : Value} {p : Prop} (h : Blk w B t [v]) (k : (Hid (Blk w B t [v]) ∧ w.cell? ⟨B, 0, none⟩ = some v ∧ w.frozen? ⟨B, 0, none⟩ = false ∧ (∀ o, (w.alloc o).cell? ⟨B, 0, none⟩ = some v) ∧ (∀ o, (w.alloc o).frozen? ⟨B, 0, none⟩ = false) ∧
    (∀ o o', ((w.alloc o).alloc o').cell? ⟨B, 0, none⟩ = some v) ∧ (∀ o o', ((w.alloc o).alloc o').frozen? ⟨B, 0, none⟩ = false)) → p) : p := k ⟨Lib.hid h, Blk.box h⟩
theorem nes {V W w2 w4 : Nat} (h1 : V < W) (h2 : W + 1 ≤ w2) (h4 : w2 ≤ w4) : V ≠ W ∧ V ≠ W + 1 ∧ V ≠ W + 2 ∧ V ≠ w2 ∧ V ≠ w2 + 1 ∧ V ≠ w4 ∧ V ≠ w4 + 1 ∧ W ≠ V ∧ W + 1 ≠ V ∧ W + 2 ≠ V ∧ w2 ≠ V ∧ w2 + 1 ≠ V ∧ w4 ≠ V ∧ w4 + 1 ≠ V ∧
    W ≠ w2 ∧ W ≠ w4 ∧ W ≠ w2 + 1 ∧ W ≠ w4 + 1 ∧ w2 ≠ w4 + 1 ∧ W ≤ w4 := by omega
theorem bel_alloc {W X : World} (h : Below W.heap.size W X) (o : Obj) : Below W.heap.size W (X.alloc o) := h.alloc h.size o
theorem bel_call {W X Y : World} (h : Below W.heap.size W X) (hb : Below X.heap.size X Y) : Below W.heap.size W Y := h.trans (hb.mono h.size)
theorem bel_put {W X : World} (h : Below W.heap.size W X) {B : Nat} (hB : W.heap.size ≤ B) (v : Value) : Below W.heap.size W (X.setCell ⟨B, 0, none⟩ v) := h.setCell hB v

/-- What holds behind the region that reckons x and base. -/
def AtP (W : World) (t : TypeId) (k x y : Nat) (vX vB : Value) (wx : World) : Prop :=
  ∃ (Bx Bb : Nat) (a a' : Option Addr) (c c' : Nat) (l l' : List Nat), vX = .pointer (some ⟨Bx, 0, none⟩) ∧ vB = .pointer (some ⟨Bb, 0, none⟩) ∧ Blk wx Bx t [.slice a k c] ∧ Blk wx Bb t [.slice a' k c'] ∧
    Sl .u32 wx (.slice a k c) l ∧ Sl .u32 wx (.slice a' k c') l' ∧ Dig 4294967296 l ∧ Dig 4294967296 l' ∧ l.length = k ∧ l'.length = k ∧ vl 4294967296 l = x ∧ vl 4294967296 l' = y ∧
    Bx ≠ Bb ∧ W.heap.size ≤ Bx ∧ W.heap.size ≤ Bb ∧ Below W.heap.size W wx

/-- The ends of the region that reckons x and base: in which order the boxes were made, and the numbers reckoned. -/
theorem leafC {W X : World} {t : TypeId} {k x y P Q : Nat} {a a' : Option Addr} {c c' : Nat} {l l' : List Nat} (hP : Hid (Blk X P t [.slice none 0 0])) (hQ : Hid (Blk X Q t [.slice none 0 0])) (hne : P ≠ Q) (hWP : W.heap.size ≤ P) (hWQ : W.heap.size ≤ Q) (hb : Below W.heap.size W X)
    (hs : Sl .u32 X (.slice a k c) l) (hs' : Sl .u32 X (.slice a' k c') l') (hd : Dig 4294967296 l) (hd' : Dig 4294967296 l') (hl : l.length = k) (hl' : l'.length = k) (hv : vl 4294967296 l = x) (hv' : vl 4294967296 l' = y) :
    AtP W t k x y (.pointer (some ⟨P, 0, none⟩)) (.pointer (some ⟨Q, 0, none⟩)) ((X.setCell ⟨P, 0, none⟩ (.slice a k c)).setCell ⟨Q, 0, none⟩ (.slice a' k c')) := by
  have hQ1 : Blk (X.setCell ⟨P, 0, none⟩ (.slice a k c)) Q t [.slice none 0 0] := hQ.out.other _ _ (Ne.symm hne)
  have hP1 := hP.out.put0 (v := .slice a k c)
  exact ⟨P, Q, a, a', c, c', l, l', rfl, rfl, hP1.other _ _ hne, hQ1.put0, (hs.box hP.out _).box hQ1 _, (hs'.box hP.out _).box hQ1 _, hd, hd', hl, hl', hv, hv', hne, hWP, hWQ, (bel_put (bel_put hb hWP _) hWQ _)⟩
theorem leafB {W X : World} {t : TypeId} {k x y P : Nat} {a a' : Option Addr} {c c' : Nat} {l l' : List Nat} (hP : Hid (Blk X P t [.slice none 0 0])) (hWP : W.heap.size ≤ P) (hb : Below W.heap.size W X)
    (hs : Sl .u32 X (.slice a k c) l) (hs' : Sl .u32 X (.slice a' k c') l') (hd : Dig 4294967296 l) (hd' : Dig 4294967296 l') (hl : l.length = k) (hl' : l'.length = k) (hv : vl 4294967296 l = x) (hv' : vl 4294967296 l' = y) :
    AtP W t k x y (.pointer (some ⟨P, 0, none⟩)) (.pointer (some ⟨X.heap.size, 0, none⟩)) (((X.alloc (.cells #[.slice none 0 0] t)).setCell ⟨P, 0, none⟩ (.slice a k c)).setCell ⟨X.heap.size, 0, none⟩ (.slice a' k c')) :=
  leafC (Lib.hid (hP.out.alloc _)) (Lib.hid (Blk.new _ _ _)) (Nat.ne_of_lt hP.out.lt) hWP hb.size (bel_alloc hb _) (hs.al _) (hs'.al _) hd hd' hl hl' hv hv'
theorem leafD {W X : World} {t : TypeId} {k x y Q : Nat} {a a' : Option Addr} {c c' : Nat} {l l' : List Nat} (hQ : Hid (Blk X Q t [.slice none 0 0])) (hWQ : W.heap.size ≤ Q) (hb : Below W.heap.size W X)
    (hs : Sl .u32 X (.slice a k c) l) (hs' : Sl .u32 X (.slice a' k c') l') (hd : Dig 4294967296 l) (hd' : Dig 4294967296 l') (hl : l.length = k) (hl' : l'.length = k) (hv : vl 4294967296 l = x) (hv' : vl 4294967296 l' = y) :
    AtP W t k x y (.pointer (some ⟨X.heap.size, 0, none⟩)) (.pointer (some ⟨Q, 0, none⟩)) ((X.alloc (.cells #[.slice a k c] t)).setCell ⟨Q, 0, none⟩ (.slice a' k c')) := by
  have hQ1 : Blk (X.alloc (.cells #[.slice a k c] t)) Q t [.slice none 0 0] := hQ.out.alloc _
  have hP1 : Blk (X.alloc (.cells #[.slice a k c] t)) X.heap.size t [.slice a k c] := Blk.new _ _ _
  exact ⟨_, Q, a, a', c, c', l, l', rfl, rfl, hP1.other _ _ (Ne.symm (Nat.ne_of_lt hQ.out.lt)), hQ1.put0, (hs.al _).box hQ1 _, (hs'.al _).box hQ1 _, hd, hd', hl, hl', hv, hv', Ne.symm (Nat.ne_of_lt hQ.out.lt), hb.size, hWQ, bel_put (bel_alloc hb _) hWQ _⟩
theorem leafA {W X : World} {t : TypeId} {k x y : Nat} {a a' : Option Addr} {c c' : Nat} {l l' : List Nat} (hb : Below W.heap.size W X)
    (hs : Sl .u32 X (.slice a k c) l) (hs' : Sl .u32 X (.slice a' k c') l') (hd : Dig 4294967296 l) (hd' : Dig 4294967296 l') (hl : l.length = k) (hl' : l'.length = k) (hv : vl 4294967296 l = x) (hv' : vl 4294967296 l' = y) :
    AtP W t k x y (.pointer (some ⟨X.heap.size, 0, none⟩)) (.pointer (some ⟨X.heap.size + 1, 0, none⟩)) ((X.alloc (.cells #[.slice a k c] t)).alloc (.cells #[.slice a' k c'] t)) := by
  have hP : Blk ((X.alloc (.cells #[.slice a k c] t)).alloc (.cells #[.slice a' k c'] t)) X.heap.size t [.slice a k c] := (Blk.new _ _ _).alloc _
  have hQ : Blk ((X.alloc (.cells #[.slice a k c] t)).alloc (.cells #[.slice a' k c'] t)) (X.heap.size + 1) t [.slice a' k c'] := Blk.new' (by simp)
  exact ⟨_, _, a, a', c, c', l, l', rfl, rfl, hP, hQ, (hs.al _).al _, (hs'.al _).al _, hd, hd', hl, hl', hv, hv', by omega, hb.size, Nat.le_succ_of_le hb.size, bel_alloc (bel_alloc hb _) _⟩
theorem leafA' {W X : World} {t : TypeId} {k x y : Nat} {a a' : Option Addr} {c c' : Nat} {l l' : List Nat} (hb : Below W.heap.size W X)
    (hs : Sl .u32 X (.slice a k c) l) (hs' : Sl .u32 X (.slice a' k c') l') (hd : Dig 4294967296 l) (hd' : Dig 4294967296 l') (hl : l.length = k) (hl' : l'.length = k) (hv : vl 4294967296 l = x) (hv' : vl 4294967296 l' = y) :
    AtP W t k x y (.pointer (some ⟨X.heap.size + 1, 0, none⟩)) (.pointer (some ⟨X.heap.size, 0, none⟩)) ((X.alloc (.cells #[.slice a' k c'] t)).alloc (.cells #[.slice a k c] t)) := by
  have hP : Blk ((X.alloc (.cells #[.slice a' k c'] t)).alloc (.cells #[.slice a k c] t)) X.heap.size t [.slice a' k c'] := (Blk.new _ _ _).alloc _
  have hQ : Blk ((X.alloc (.cells #[.slice a' k c'] t)).alloc (.cells #[.slice a k c] t)) (X.heap.size + 1) t [.slice a k c] := Blk.new' (by simp)
  exact ⟨_, _, a, a', c, c', l, l', rfl, rfl, hQ, hP, (hs.al _).al _, (hs'.al _).al _, hd, hd', hl, hl', hv, hv', by omega, Nat.le_succ_of_le hb.size, hb.size, bel_alloc (bel_alloc hb _) _⟩

/-- A box that holds a number of k digits. -/
def AtK (B : Nat) (t : TypeId) (k v : Nat) (W : World) : Prop :=
  ∃ (a : Option Addr) (c : Nat) (lo : List Nat), Blk W B t [.slice a k c] ∧ Sl .u32 W (.slice a k c) lo ∧ Dig 4294967296 lo ∧ lo.length = k ∧ vl 4294967296 lo = v
theorem AtK.kept {B : Nat} {t : TypeId} {k v : Nat} {X Y : World} (h : AtK B t k v X) {row : Option Nat} (hg : X.grownBy Y row) (hr : ∀ r, row = some r → ∃ o : Obj, X.heap[r]? = some o ∧ o.isCells = false) : AtK B t k v Y := by
  obtain ⟨a, c, lo, h1, h2, h3⟩ := h
  refine ⟨a, c, lo, ?_, h2.kept hg hr, h3⟩
  refine (hg.block B h1.lt (fun e => ?_)).trans h1
  obtain ⟨o, ho, hc⟩ := hr B e.symm
  rw [show X.heap[B]? = _ from h1] at ho; cases ho; cases hc
theorem AtK.below {B : Nat} {t : TypeId} {k v : Nat} {X Y : World} (h : AtK B t k v X) (hb : Below X.heap.size X Y) : AtK B t k v Y := by
  obtain ⟨a, c, lo, h1, h2, h3⟩ := h
  exact ⟨a, c, lo, h1.call hb, h2.call hb, h3⟩
/-- A box of another number keeps its own. -/
theorem AtK.put {B D : Nat} {t : TypeId} {k v v' : Nat} {X : World} (h : AtK B t k v X) (g : AtK D t k v' X) (hne : B ≠ D) (u : Value) : AtK B t k v (X.setCell ⟨D, 0, none⟩ u) := by
  obtain ⟨a, c, lo, h1, h2, h3⟩ := h
  obtain ⟨a', c', lo', g1, -⟩ := g
  exact ⟨a, c, lo, h1.other _ _ hne, h2.box g1 _, h3⟩
/-- What is stored. -/
theorem AtK.set {B : Nat} {t : TypeId} {k v x : Nat} {X : World} (h : AtK B t k v X) {a : Option Addr} {c : Nat} {l : List Nat} (hs : Sl .u32 X (.slice a k c) l) (hd : Dig 4294967296 l) (hl : l.length = k) (hv : vl 4294967296 l = x) :
    AtK B t k x (X.setCell ⟨B, 0, none⟩ (.slice a k c)) := by
  obtain ⟨a', c', lo', g1, -⟩ := h
  exact ⟨a, c, l, g1.put0, hs.box g1 _, hd, hl, hv⟩

theorem vl_zeros (b : Nat) : ∀ n, vl b (List.replicate n 0) = 0
  | 0 => rfl
  | n + 1 => by rw [List.replicate_succ, vl_cons, vl_zeros b n]; simp
/-- The number one with as many digits as the modulus. -/
theorem full_one {vm : Value} {lm : List Nat} {m B : Nat} {w : World} (hm : Sl .u32 w vm lm) (h1 : Blk w B 30 [.int .u32 1]) (hlp : 0 < lm.length) (hsz : lm.length ≤ 1073741824) :
    Calls Tryz.prog 112 #[.agg #[vm, .int .u32 (m : Int)], .slice (some ⟨B, 0, none⟩) 1 1] w fun e w' => ∃ v l, e = .returned v ∧ Sl .u32 w' v l ∧ Dig 4294967296 l ∧ l.length = lm.length ∧ vl 4294967296 l = 1 ∧ Below w.heap.size w w' := by
  refine (full_any (m := m) hm (one_sl h1) (by simp; omega) hsz).mono ?_
  rintro e w' ⟨v, rfl, hs, hb⟩
  refine ⟨v, _, rfl, hs, ?_, ?_, ?_, hb⟩
  · intro y hy
    rcases List.mem_append.1 hy with h | h
    · simp at h; omega
    · rw [(List.mem_replicate.1 h).2]; decide
  · simp; omega
  · show vl 4294967296 (1 :: List.replicate _ 0) = 1
    rw [vl_cons, vl_zeros]

set_option maxRecDepth 100000 in
set_option maxHeartbeats 4000000 in
theorem oddpow_any {vm vx ve : Value} {lm lx le : List Nat} {m : Nat} {w : World} (hm : Sl .u32 w vm lm) (dm : Dig 4294967296 lm) (tm : Tr lm) (hn : OddN (lm.getD 0 0) m) (hpos : 0 < vl 4294967296 lm) (hodd : vl 4294967296 lm % 2 = 1) (hsz : lm.length ≤ 268435460)
    (hx : Sl .u32 w vx lx) (dx : Dig 4294967296 lx) (tx : Tr lx) (hlt : vl 4294967296 lx < vl 4294967296 lm) (he : Sl .u32 w ve le) (de : Dig 4294967296 le) (hle : le.length ≤ 1073741824) :
    Calls Tryz.prog 67 #[.agg #[vm, .int .u32 (m : Int)], vx, ve] w fun e w3 => ∃ v l, e = .returned v ∧ Sl .u32 w3 v l ∧ Dig 4294967296 l ∧ l.length ≤ 1073741824 ∧
      vl 4294967296 l = vl 4294967296 lx ^ vl 4294967296 le % vl 4294967296 lm ∧ Below w.heap.size w w3 := by
  have hm0 := hm
  obtain ⟨am, cm, rfl, hcm, hcm2, -⟩ := hm
  have hx' := hx
  obtain ⟨ax, cx, rfl, hcx, hcx2, -⟩ := hx'
  obtain ⟨ae, ce, rfl, hce, hce2, hre⟩ := he
  have hlxm : lx.length ≤ lm.length := by
    rcases Nat.lt_or_ge lm.length lx.length with h | h
    · have := vl_lt_of_length (by decide) dm tx h; omega
    · exact h
  have hlp : 0 < lm.length := by
    cases lm with
    | nil => simp at hpos
    | cons x t => simp
  refine (callsIn_wide (n := 3)).1 ?_
  refine callsIn_of_wp_marks Tryz.func67 rfl trivial ?_ rfl
  simp only [Tryz.ntmps67, List.size_toArray, List.length_cons, List.length_nil, Nat.reduceAdd, Nat.reduceSub, Array.replicate_succ, Array.replicate_zero, List.push_toArray, List.append_toArray, List.nil_append, List.cons_append]
  gi_upto_region 1 with fail
  generalize hWW : w.alloc (.cells #[.slice am lm.length cm, .int .u32 (m : Int)] 86) = W
  have hbo : Blk W w.heap.size 86 [.slice am lm.length cm, .int .u32 (m : Int)] := by rw [← hWW]; exact Blk.new _ _ _
  have hW1 : Below w.heap.size w W := by rw [← hWW]; exact (Below.refl _ _).alloc (Nat.le_refl _) _
  have hbol := hbo.lt
  have hm1 := hm0.below hW1
  have hx1 := hx.below hW1
  have hv0 : W.cell? ⟨w.heap.size, 0, none⟩ = some (.slice am lm.length cm) := hbo.cell 0
  have hv1 : W.cell? ⟨w.heap.size, 1, none⟩ = some (.int .u32 (m : Int)) := hbo.cell 1
  have HM := Lib.hid hm1; have HX := Lib.hid hx1; have HBO := Lib.hid hbo; have HW := Lib.hid hW1
  clear hm1 hx1 hbo hW1 hWW hm0 hx
  have hA : ∀ k v, W.cell? ⟨w.heap.size, k, none⟩ = some v → (∀ o, (W.alloc o).cell? ⟨w.heap.size, k, none⟩ = some v) ∧ (∀ o o', ((W.alloc o).alloc o').cell? ⟨w.heap.size, k, none⟩ = some v) ∧ (∀ o o' o'', (((W.alloc o).alloc o').alloc o'').cell? ⟨w.heap.size, k, none⟩ = some v) := by
    intro k v h
    have c1 := fun o => cell_al (W := W) o h hbol
    have c2 := fun o o' => cell_al (W := W.alloc o) o' (c1 o) (by simp; omega)
    exact ⟨c1, c2, fun o o' o'' => cell_al (W := (W.alloc o).alloc o') o'' (c2 o o') (by simp; omega)⟩
  obtain ⟨i1, i2, i3⟩ := hA 0 _ hv0
  obtain ⟨j1, j2, j3⟩ := hA 1 _ hv1
  clear hA
  have hd1 : Dig 4294967296 [1] := fun y hy => by simp at hy; omega
  gi_cut [7, 8] from 13 (fun v7 v8 wx => AtP W 80 lm.length (4294967296 ^ lm.length % vl 4294967296 lm) (vl 4294967296 lx * 4294967296 ^ lm.length % vl 4294967296 lm) v7 v8 wx)
  case first =>
    refine wpIn_calm ?_
    refine wpIn_wide.2 ?_
    go_region_held3 (fun w' => w'.cell? ⟨w.heap.size, 0, none⟩ = some (.slice am lm.length cm) ∧ w'.cell? ⟨w.heap.size, 1, none⟩ = some (.int .u32 (m : Int)))
      (first | exact ⟨hx4, hy4⟩ | exact ⟨hx2, hy2⟩ | go_keep)
      ((first
        | (go_at_call 110; with_reducible refine (shifted_any (m := m) (lm := lm) (lx := [1]) ?h1 (one_sl ?h2) dm hd1 tm hpos ?h3).mono ?_; (case h1 => (refine HM.out.below ?_; (repeat (first | exact Below.refl _ _ | refine Below.drew ?_ | refine bel_alloc ?_ _ | refine bel_call ?_ (by assumption) | refine bel_put ?_ (by simp; omega) _)))); (case h2 => (repeat (first | refine Blk.drew ?_ | (refine Blk.new' (vs := [.slice none 0 0]) ?_; focus (simp; done)) | (refine Blk.new' (vs := [.int .u32 1]) ?_; focus (simp; done)) | refine Blk.put0 (u := .slice none 0 0) ?_ | refine Blk.other ?_ _ _ (by simp; omega) | refine Blk.alloc ?_ _ | refine Blk.call ?_ hb4 | refine Blk.call ?_ hb2))); (case h3 => (simp; omega)); rintro e2 w2 ⟨v2, l2, rfl, hs2, hd2, hl2, hv2, hb2⟩; obtain ⟨a2, c2, rfl⟩ := hs2.shape; rw [hl2] at hs2; have hB2 : Below W.heap.size W w2 := (by (repeat (first | exact Below.refl _ _ | refine Below.drew ?_ | refine bel_alloc ?_ _ | refine bel_call ?_ (by assumption) | refine bel_put ?_ (by simp; omega) _))); have hx2 := (hB2.cell (p := ⟨w.heap.size, 0, none⟩) hbol).trans hv0; have hy2 := (hB2.cell (p := ⟨w.heap.size, 1, none⟩) hbol).trans hv1)
        | (go_at_call 110; with_reducible refine (shifted_any (m := m) (lm := lm) (lx := lx) ?h1 ?h2 dm dx tm hpos ?h3).mono ?_; (case h1 => (refine HM.out.below ?_; (repeat (first | exact Below.refl _ _ | refine Below.drew ?_ | refine bel_alloc ?_ _ | refine bel_call ?_ (by assumption) | refine bel_put ?_ (by simp; omega) _)))); (case h2 => (refine HX.out.below ?_; (repeat (first | exact Below.refl _ _ | refine Below.drew ?_ | refine bel_alloc ?_ _ | refine bel_call ?_ (by assumption) | refine bel_put ?_ (by simp; omega) _)))); (case h3 => omega); rintro e4 w4 ⟨v4, l4, rfl, hs4, hd4, hl4, hv4, hb4⟩; obtain ⟨a4, c4, rfl⟩ := hs4.shape; rw [hl4] at hs4; have hB4 : Below W.heap.size W w4 := (by (repeat (first | exact Below.refl _ _ | refine Below.drew ?_ | refine bel_alloc ?_ _ | refine bel_call ?_ (by assumption) | refine bel_put ?_ (by simp; omega) _))); have hx4 := (hB4.cell (p := ⟨w.heap.size, 0, none⟩) hbol).trans hv0; have hy4 := (hB4.cell (p := ⟨w.heap.size, 1, none⟩) hbol).trans hv1; (try (refine withBlk (w := w4) (B := W.heap.size) (t := 80) (v := .slice none 0 0) ?_ ?_; (repeat (first | refine Blk.drew ?_ | (refine Blk.new' (vs := [.slice none 0 0]) ?_; focus (simp; done)) | (refine Blk.new' (vs := [.int .u32 1]) ?_; focus (simp; done)) | refine Blk.put0 (u := .slice none 0 0) ?_ | refine Blk.other ?_ _ _ (by simp; omega) | refine Blk.alloc ?_ _ | refine Blk.call ?_ hb4 | refine Blk.call ?_ hb2)); rintro ⟨gb0, gc0, gf0, gca0, gfa0, gcb0, gfb0⟩)); (try (refine withBlk (w := w4) (B := (W.heap.size + 1)) (t := 80) (v := .slice none 0 0) ?_ ?_; (repeat (first | refine Blk.drew ?_ | (refine Blk.new' (vs := [.slice none 0 0]) ?_; focus (simp; done)) | (refine Blk.new' (vs := [.int .u32 1]) ?_; focus (simp; done)) | refine Blk.put0 (u := .slice none 0 0) ?_ | refine Blk.other ?_ _ _ (by simp; omega) | refine Blk.alloc ?_ _ | refine Blk.call ?_ hb4 | refine Blk.call ?_ hb2)); rintro ⟨gb1, gc1, gf1, gca1, gfa1, gcb1, gfb1⟩)); (try (refine withBlk (w := w4) (B := (W.heap.size + 2)) (t := 80) (v := .slice none 0 0) ?_ ?_; (repeat (first | refine Blk.drew ?_ | (refine Blk.new' (vs := [.slice none 0 0]) ?_; focus (simp; done)) | (refine Blk.new' (vs := [.int .u32 1]) ?_; focus (simp; done)) | refine Blk.put0 (u := .slice none 0 0) ?_ | refine Blk.other ?_ _ _ (by simp; omega) | refine Blk.alloc ?_ _ | refine Blk.call ?_ hb4 | refine Blk.call ?_ hb2)); rintro ⟨gb2, gc2, gf2, gca2, gfa2, gcb2, gfb2⟩)); (try (refine withBlk (w := w4) (B := w2.heap.size) (t := 80) (v := .slice none 0 0) ?_ ?_; (repeat (first | refine Blk.drew ?_ | (refine Blk.new' (vs := [.slice none 0 0]) ?_; focus (simp; done)) | (refine Blk.new' (vs := [.int .u32 1]) ?_; focus (simp; done)) | refine Blk.put0 (u := .slice none 0 0) ?_ | refine Blk.other ?_ _ _ (by simp; omega) | refine Blk.alloc ?_ _ | refine Blk.call ?_ hb4 | refine Blk.call ?_ hb2)); rintro ⟨gb3, gc3, gf3, gca3, gfa3, gcb3, gfb3⟩)); (try (refine withBlk (w := w4) (B := (w2.heap.size + 1)) (t := 80) (v := .slice none 0 0) ?_ ?_; (repeat (first | refine Blk.drew ?_ | (refine Blk.new' (vs := [.slice none 0 0]) ?_; focus (simp; done)) | (refine Blk.new' (vs := [.int .u32 1]) ?_; focus (simp; done)) | refine Blk.put0 (u := .slice none 0 0) ?_ | refine Blk.other ?_ _ _ (by simp; omega) | refine Blk.alloc ?_ _ | refine Blk.call ?_ hb4 | refine Blk.call ?_ hb2)); rintro ⟨gb4, gc4, gf4, gca4, gfa4, gcb4, gfb4⟩)); have hz2 := hb2.size; have hz4 := hb4.size; simp at hz2 hz4; obtain ⟨n1, n2, n3, n4, n5, n6, n7, n8, n9, n10, n11, n12, n13, n14, n15, n16, n17, n18, n19, n20⟩ := nes hbol (show W.heap.size + 1 ≤ w2.heap.size by omega) (show w2.heap.size ≤ w4.heap.size by omega))
        | fail))
    all_goals gi_wp2_with fail
    all_goals gi_meet
    all_goals clear n1 n2 n3 n4 n5 n6 n7 n8 n9 n10 n11 n12 n13 n14 n15 n16 n17 n18 n19 n20
    all_goals have hv2' : vl 4294967296 l2 = 4294967296 ^ lm.length % vl 4294967296 lm := by rw [hv2, vl_cons, vl_nil, Nat.mul_zero, Nat.add_zero, Nat.one_mul]
    all_goals have hs24 : Sl .u32 w4 (.slice a2 lm.length c2) l2 := by first | with_reducible exact hs2.call hb4 | with_reducible exact (hs2.al _).call hb4 | with_reducible exact ((hs2.al _).al _).call hb4
    all_goals first
      | with_reducible exact leafA hB4 hs24 hs4 hd2 hd4 hl2 hl4 hv2' hv4
      | with_reducible exact leafA' hB4 hs24 hs4 hd2 hd4 hl2 hl4 hv2' hv4
      | (with_reducible refine leafB gb3 ?_ hB4 hs24 hs4 hd2 hd4 hl2 hl4 hv2' hv4; omega)
      | (with_reducible refine leafB gb1 ?_ hB4 hs24 hs4 hd2 hd4 hl2 hl4 hv2' hv4; omega)
      | (with_reducible refine leafB gb0 ?_ hB4 hs24 hs4 hd2 hd4 hl2 hl4 hv2' hv4; omega)
      | (with_reducible refine leafD gb3 ?_ hB4 hs24 hs4 hd2 hd4 hl2 hl4 hv2' hv4; omega)
      | (with_reducible refine leafD gb1 ?_ hB4 hs24 hs4 hd2 hd4 hl2 hl4 hv2' hv4; omega)
      | (with_reducible refine leafD gb0 ?_ hB4 hs24 hs4 hd2 hd4 hl2 hl4 hv2' hv4; omega)
      | (with_reducible refine leafC gb3 gb4 ?_ ?_ ?_ hB4 hs24 hs4 hd2 hd4 hl2 hl4 hv2' hv4; all_goals omega)
      | (with_reducible refine leafC gb4 gb3 ?_ ?_ ?_ hB4 hs24 hs4 hd2 hd4 hl2 hl4 hv2' hv4; all_goals omega)
      | (with_reducible refine leafC gb1 gb3 ?_ ?_ ?_ hB4 hs24 hs4 hd2 hd4 hl2 hl4 hv2' hv4; all_goals omega)
      | (with_reducible refine leafC gb1 gb2 ?_ ?_ ?_ hB4 hs24 hs4 hd2 hd4 hl2 hl4 hv2' hv4; all_goals omega)
      | (with_reducible refine leafC gb3 gb1 ?_ ?_ ?_ hB4 hs24 hs4 hd2 hd4 hl2 hl4 hv2' hv4; all_goals omega)
      | (with_reducible refine leafC gb2 gb1 ?_ ?_ ?_ hB4 hs24 hs4 hd2 hd4 hl2 hl4 hv2' hv4; all_goals omega)
      | (with_reducible refine leafC gb0 gb3 ?_ ?_ ?_ hB4 hs24 hs4 hd2 hd4 hl2 hl4 hv2' hv4; all_goals omega)
      | (with_reducible refine leafC gb0 gb2 ?_ ?_ ?_ hB4 hs24 hs4 hd2 hd4 hl2 hl4 hv2' hv4; all_goals omega)
      | (with_reducible refine leafC gb0 gb1 ?_ ?_ ?_ hB4 hs24 hs4 hd2 hd4 hl2 hl4 hv2' hv4; all_goals omega)
      | (with_reducible refine leafC gb3 gb0 ?_ ?_ ?_ hB4 hs24 hs4 hd2 hd4 hl2 hl4 hv2' hv4; all_goals omega)
      | (with_reducible refine leafC gb2 gb0 ?_ ?_ ?_ hB4 hs24 hs4 hd2 hd4 hl2 hl4 hv2' hv4; all_goals omega)
      | (with_reducible refine leafC gb1 gb0 ?_ ?_ ?_ hB4 hs24 hs4 hd2 hd4 hl2 hl4 hv2' hv4; all_goals omega)
  case rest =>
    obtain ⟨Bx, Bb, ax1, ab1, cx1, cb1, l1, l2, rfl, rfl, hxb, hbb, hxs, hbs, hxd, hbd, hxl, hbl, hxv, hbv, hne, hBx, hBb, hbw⟩ := hcut
    obtain ⟨V, rfl⟩ : ∃ V, V = wc := ⟨_, rfl⟩
    have hM0 : 0 < vl 4294967296 lm := hpos
    have hcop := coprime_odd hodd lm.length
    have hAx : AtK Bx 80 lm.length (4294967296 ^ lm.length % vl 4294967296 lm) V := ⟨_, _, l1, hxb, hxs, hxd, hxl, hxv⟩
    have hAb : AtK Bb 80 lm.length (vl 4294967296 lx * 4294967296 ^ lm.length % vl 4294967296 lm) V := ⟨_, _, l2, hbb, hbs, hbd, hbl, hbv⟩
    have HAX := Lib.hid hAx; have HAB := Lib.hid hAb; have HBW := Lib.hid hbw; have HCOP := Lib.hid hcop
    have hBxV := hxb.lt
    have hBbV := hbb.lt
    have HRE := Lib.hid (fun hl : 0 < le.length => hre hl)
    clear hAx hAb hxb hbb hxs hbs hxv hbv hxd hbd hxl hbl hcop hre i1 i2 i3 j1 j2 j3
    have HV := Lib.hid (show (∀ W', Below W.heap.size W W' → W'.cell? ⟨w.heap.size, 0, none⟩ = some (.slice am lm.length cm) ∧ W'.cell? ⟨w.heap.size, 1, none⟩ = some (.int .u32 (m : Int)) ∧ Sl .u32 W' (.slice am lm.length cm) lm) from
      fun W' h => ⟨(h.cell (p := ⟨w.heap.size, 0, none⟩) hbol).trans hv0, (h.cell (p := ⟨w.heap.size, 1, none⟩) hbol).trans hv1, HM.out.below h⟩)
    have hre' : 0 < le.length → ∃ b off, ae = some ⟨b, off, none⟩ ∧ b < w.heap.size ∧ Row .u32 V b off le := fun hl => by
      obtain ⟨b, off, e, hb, hr⟩ := HRE.out hl
      exact ⟨b, off, e, hb, (hr.below hb HW.out).below (Nat.lt_of_lt_of_le hb HW.out.size) HBW.out⟩
    have HRV := Lib.hid hre'
    clear hre' hv0 hv1
    gi_wp2_with (refine ⟨trivial, ?_⟩; gi_at_call 68; refine (digits_in Fence.wide _ trivial rfl ae le.length ce V).mono ?_; rintro e' w' ⟨rfl, rfl⟩)
    have hnb := Blk.new V 80 [.slice ae le.length ce]
    have hzW : w.heap.size < W.heap.size := hbol
    have hzV : W.heap.size ≤ V.heap.size := HBW.out.size
    refine wpIn_rangeFunc_ownF rfl (by omega) (gf := 113) (lb := #[.pointer (some ⟨V.heap.size, 0, none⟩)]) rfl trivial (enters_of Tryz.func113 (by kernel_rfl) rfl)
      (digits_stops Fence.wide _ trivial rfl (by omega) V.heap.size (fun c => c < (V.alloc (.cells #[.slice ae le.length ce] 80)).heap.size ∧ c ≠ Bx) ae ce le hce hle de _ ⟨by simp, by omega⟩ (fun c h => h.1) (hnb.cell 0) (fun hl => ?eI))
      KpB.trans (fun W l o o' hl _ _ _ => KpB.put (fun c h => h.1) W l o' hl) (Below.refl _ _) (fun _ => rfl)
      (fun pre W' => AtK Bx 80 lm.length (vl 4294967296 lx ^ bval pre * 4294967296 ^ lm.length % vl 4294967296 lm) W' ∧ (AtK Bb 80 lm.length (vl 4294967296 lx * 4294967296 ^ lm.length % vl 4294967296 lm) W' ∧ (Below W.heap.size W W' ∧ (V.alloc (.cells #[.slice ae le.length ce] 80)).heap.size ≤ W'.heap.size)))
      (fun _ _ _ => False)
      (OwnFrom.and (Own.from (fun s A B row hs hg hr => hs.kept hg hr) _) (OwnFrom.and (Own.from (fun s A B row hs hg hr => hs.kept hg hr) _) (OwnFrom.and (ownFrom_below (Nat.le_refl _) (Nat.le_trans hzV (by simp))) (fun _ _ _ _ hs hg _ => Nat.le_trans hs hg.size))))
      (fun _ _ _ _ _ hs _ _ => hs)
      ⟨?e0, ?e1, HBW.out.alloc hzV _, Nat.le_refl _⟩
      ?a1 ?assign ?body ?done ?stop
    case eI =>
      obtain ⟨b, off, hae, hb, hr⟩ := HRV.out hl
      refine ⟨b, off, hae, ⟨by simp; omega, by omega⟩, ?_⟩
      exact hr.below (by omega) ((Below.refl _ _).alloc (Nat.le_refl _) _)
    case e0 =>
      have h := HAX.out.below ((Below.refl _ _).alloc (Nat.le_refl _) (.cells #[.slice ae le.length ce] 80))
      simpa [bval] using h
    case e1 => exact HAB.out.below ((Below.refl _ _).alloc (Nat.le_refl _) _)
    case assign =>
      intro l x W K hK
      gi_wp2
      exact hK
    case stop =>
      rintro D c pre W _ _ h _
      exact h.elim
    case done =>
      rintro D xs U hD rfl ⟨hAx, hAb, hBU, hsU⟩ hK
      have hfv : bval (upto (topBit (vl 4294967296 le) (32 * le.length)) (32 * le.length)) = vl 4294967296 le := by
        have h := vl_lt de
        rw [show (4294967296 : Nat) = 2 ^ 32 by decide, ← Nat.pow_mul] at h
        exact bval_all h
      rw [hfv] at hAx
      obtain ⟨hv0, hv1, hmU⟩ := HV.out U hBU
      have hAx0 := hAx
      obtain ⟨a1, c1, l1, hxb, hxs, hxd, hxl, hxv⟩ := hAx0
      have hcx : U.cell? ⟨Bx, 0, none⟩ = some (.slice a1 lm.length c1) := hxb.cell 0
      have hvlt : vl 4294967296 l1 < vl 4294967296 lm := by rw [hxv]; exact Nat.mod_lt _ hM0
      have HXV := Lib.hid hxv; have HMU := Lib.hid hmU; have HXB := Lib.hid hxb; have HK := Lib.hid hK
      have hxlt := hxb.lt
      clear hAx hAb hxv hmU hxb hfv hK
      gi_upto_region 7 with fail
      refine wpIn_calm ?_
      refine wpIn_wide.2 ?_
      go_region_held3 (fun w' => (w'.cell? ⟨w.heap.size, 0, none⟩ = some (.slice am lm.length cm) ∧ w'.cell? ⟨w.heap.size, 1, none⟩ = some (.int .u32 (m : Int))) ∧ w'.cell? ⟨Bx, 0, none⟩ = some (.slice a1 lm.length c1))
        (first | exact ⟨hk3, hx3⟩ | exact ⟨hk2, hx2⟩ | go_keep)
        ((first
          | (go_at_call 112; with_reducible refine (full_one (m := m) (lm := lm) ?h1 ?h2 hlp ?h4).mono ?_; (case h1 => (refine HMU.out.below ?_; (repeat (first | exact Below.refl _ _ | refine Below.drew ?_ | refine bel_alloc ?_ _ | refine bel_call ?_ (by assumption))))); (case h2 => (repeat (first | refine Blk.drew ?_ | (refine Blk.new' (vs := [.int .u32 1]) ?_; focus (simp; done)) | refine Blk.alloc ?_ _))); (case h4 => omega); rintro e2 w2 ⟨v2, l2, rfl, hs2, hd2, hl2, hv2, hb2⟩; obtain ⟨a2, c2, rfl⟩ := hs2.shape; rw [hl2] at hs2; have hB2 : Below U.heap.size U w2 := (by (repeat (first | exact Below.refl _ _ | refine Below.drew ?_ | refine bel_alloc ?_ _ | refine bel_call ?_ (by assumption)))); have hk2 := (HV.out w2 (hBU.trans (hB2.mono hBU.size))); replace hk2 := (And.intro hk2.1 hk2.2.1); have hx2 := (hB2.cell (p := ⟨Bx, 0, none⟩) hxlt).trans hcx)
          | (go_at_call 111; with_reducible refine (mul_any (m := m) (lm := lm) (la := l1) (lb := l2) ?h1 ?h2 ?h3 dm hxd hd2 tm hn hxl hl2 hlp ?h4 hvlt).mono ?_; (case h1 => (refine HMU.out.below ?_; (repeat (first | exact Below.refl _ _ | refine Below.drew ?_ | refine bel_alloc ?_ _ | refine bel_call ?_ (by assumption))))); (case h2 => (refine hxs.below ?_; (repeat (first | exact Below.refl _ _ | refine Below.drew ?_ | refine bel_alloc ?_ _ | refine bel_call ?_ (by assumption))))); (case h3 => (repeat (first | exact hs2 | refine Sl.drew ?_))); (case h4 => omega); rintro e3 w3 ⟨v3, l3, rfl, hs3, hd3, hl3, hlt3, hv3, hb3⟩; have hB3 : Below U.heap.size U w3 := (by (repeat (first | exact Below.refl _ _ | refine Below.drew ?_ | refine bel_alloc ?_ _ | refine bel_call ?_ (by assumption)))); have hk3 := (HV.out w3 (hBU.trans (hB3.mono hBU.size))); replace hk3 := (And.intro hk3.1 hk3.2.1); have hx3 := (hB3.cell (p := ⟨Bx, 0, none⟩) hxlt).trans hcx)
          | fail))
      gi_wp2
      have hK' := (hB3.block D (Array.getElem?_eq_some_iff.1 HK.out).1).trans HK.out
      refine ⟨by simp, .inl ⟨_, _, rfl, run_takeDeferred hK', ?_⟩⟩
      refine ⟨_, results_tmp rfl _ _ _, _, l3, rfl, hs3.kept (grownBy_putObj' w3 D _) (fun r e => by cases e; exact ⟨_, hK', rfl⟩), hd3, by omega, ?_, ?_⟩
      · have h := hv3
        rw [HXV.out, hv2] at h
        rw [mont_out HCOP.out hlt3 h]
      · have h1 := HW.out.trans ((hBU.trans (hB3.mono hBU.size)).mono HW.out.size)
        exact h1.trans (belowK_b (w := V) (Nat.le_trans HW.out.size hzV) w3 D _ _ (by simp at hD; omega) hK' rfl rfl)
    case body =>
      rintro l pre x U ⟨hAx, hAb, hBU, hsU⟩ hlt
      obtain ⟨hv0, hv1, hmU⟩ := HV.out U hBU
      have hAx0 := hAx
      obtain ⟨a1, c1, l1, hxb, hxs, hxd, hxl, hxv⟩ := hAx0
      have hcx : U.cell? ⟨Bx, 0, none⟩ = some (.slice a1 lm.length c1) := hxb.cell 0
      have hvlt : vl 4294967296 l1 < vl 4294967296 lm := by rw [hxv]; exact Nat.mod_lt _ hM0
      have HAXU := Lib.hid hAx; have HABU := Lib.hid hAb; have HXV := Lib.hid hxv; have HMU := Lib.hid hmU; have HXB := Lib.hid hxb
      have hxlt := hxb.lt
      clear hAx hAb hxv hmU hxb
      gi_upto_region 5 with (refine ⟨trivial, ?_⟩; gi_at_call 111; refine (CallsIn.inRound l (callsIn_wide.2 (mul_any (m := m) HMU.out hxs hxs dm hxd hxd tm hn hxl hxl hlp (by omega) hvlt))).mono ?_; rintro e2 w2 ⟨v2, l2, rfl, hs2, hd2, hl2, hlt2, hv2, hb2⟩; obtain ⟨a2, c2, rfl⟩ := hs2.shape; rw [hl2] at hs2; have HV2 := Lib.hid hv2; clear hv2; have hcx2 : w2.cell? ⟨Bx, 0, none⟩ = some (.slice a1 lm.length c1) := (HXB.out.call hb2).cell 0; have hcf2 := (HXB.out.call hb2).free 0)
      generalize hW2 : w2.setCell ⟨Bx, 0, none⟩ (.slice a2 lm.length c2) = U2
      have hval : vl 4294967296 l2 = vl 4294967296 lx ^ (2 * bval pre) * 4294967296 ^ lm.length % vl 4294967296 lm := by
        have h := HV2.out
        rw [HXV.out] at h
        have h3 := mont_mul HCOP.out hlt2 h
        rw [h3, ← Nat.pow_add, Nat.two_mul]
      have hAx2 : AtK Bx 80 lm.length (vl 4294967296 lx ^ (2 * bval pre) * 4294967296 ^ lm.length % vl 4294967296 lm) U2 := by
        rw [← hW2]; exact (HAXU.out.below hb2).set hs2 hd2 hl2 hval
      have hAb2 : AtK Bb 80 lm.length (vl 4294967296 lx * 4294967296 ^ lm.length % vl 4294967296 lm) U2 := by
        rw [← hW2]; exact (HABU.out.below hb2).put (HAXU.out.below hb2) (Ne.symm hne) _
      have hbut : But Bx U U2 := by rw [← hW2]; exact (But.of hb2).trans (But.put _ _ _)
      have hBU2 := hBU.trans (hbut.below hBx hBU.size)
      have hbit := bval_snoc pre x
      have HBI := Lib.hid hbit; have HBUT := Lib.hid hbut; have HAX2 := Lib.hid hAx2; have HAB2 := Lib.hid hAb2
      clear hW2 hval hbit hbut hAx2 hAb2 hs2 hd2 hl2 hlt2 HV2 hb2 hcx2 hcf2 hcx hvlt hxs hxd hxl HXV HAXU HABU HMU hv0 hv1
      cases x with
      | false =>
        gi_wp2
        refine ⟨HBUT.out.others HXB.out, fun c hc => HBUT.out.2 c (Nat.lt_of_lt_of_le hc.1 hsU) hc.2, ?_, HAB2.out, hBU2, Nat.le_trans hsU HBUT.out.1.size⟩
        rw [HBI.out]; exact HAX2.out
      | true =>
        obtain ⟨hv0, hv1, hmU⟩ := HV.out U2 hBU2
        obtain ⟨a3, c3, l3, hxb3, hxs3, hxd3, hxl3, hxv3⟩ := HAX2.out
        obtain ⟨a4, c4, l4, hxb4, hxs4, hxd4, hxl4, hxv4⟩ := HAB2.out
        have hcx3 : U2.cell? ⟨Bx, 0, none⟩ = some (.slice a3 lm.length c3) := hxb3.cell 0
        have hcx4 : U2.cell? ⟨Bb, 0, none⟩ = some (.slice a4 lm.length c4) := hxb4.cell 0
        have hvlt3 : vl 4294967296 l3 < vl 4294967296 lm := by rw [hxv3]; exact Nat.mod_lt _ hM0
        have HX3 := Lib.hid hxb3; have HXV3 := Lib.hid hxv3; have HXV4 := Lib.hid hxv4; have HMU := Lib.hid hmU
        clear hxb3 hxb4 hxv3 hxv4 hmU
        gi_wp2_with (refine ⟨trivial, ?_⟩; gi_at_call 111; refine (CallsIn.inRound l (callsIn_wide.2 (mul_any (m := m) HMU.out hxs3 hxs4 dm hxd3 hxd4 tm hn hxl3 hxl4 hlp (by omega) hvlt3))).mono ?_; rintro e2 w2 ⟨v2, l2, rfl, hs2, hd2, hl2, hlt2, hv2, hb2⟩; obtain ⟨a2, c2, rfl⟩ := hs2.shape; rw [hl2] at hs2; have HV2 := Lib.hid hv2; clear hv2; have hcx2 : w2.cell? ⟨Bx, 0, none⟩ = some (.slice a3 lm.length c3) := (HX3.out.call hb2).cell 0; have hcf2 := (HX3.out.call hb2).free 0)
        have hval : vl 4294967296 l2 = vl 4294967296 lx ^ (2 * bval pre + 1) * 4294967296 ^ lm.length % vl 4294967296 lm := by
          have h := HV2.out
          rw [HXV3.out, HXV4.out] at h
          have h3 := mont_mul HCOP.out hlt2 h
          rw [h3, ← Nat.pow_succ]
        have hbut3 := HBUT.out.trans ((But.of hb2).trans (But.put Bx _ (.slice a2 lm.length c2)))
        refine ⟨hbut3.others HXB.out, fun c hc => hbut3.2 c (Nat.lt_of_lt_of_le hc.1 hsU) hc.2, ?_, (HAB2.out.below hb2).put (HAX2.out.below hb2) (Ne.symm hne) _, hBU.trans (hbut3.below hBx hBU.size), Nat.le_trans hsU hbut3.1.size⟩
        rw [HBI.out]
        exact (HAX2.out.below hb2).set hs2 hd2 hl2 hval

end Go.Proofs.YtolmjeglaolhlaaGreatDoor

/- nat.Pow at every modulus. -/
namespace Go.Proofs.YtolmjeglaolhlaaGreatDoor
open Go.RowKit Go.Shelf Num

theorem oddSpec (M : Nat) (h1 : M % 2 = 1) : OddSpec M := by
  intro vm lm w hs hd ht hv hl
  have ho : vl 4294967296 lm % 2 = 1 := by rw [hv]; exact h1
  have hp : 0 < vl 4294967296 lm := by omega
  refine (newOdd_any hs hd ho).mono ?_
  rintro e w1 ⟨n, rfl, hn, hb1⟩
  refine ⟨_, rfl, hb1, ?_⟩
  intro vx ve lx le w2 hb2 hsx hdx htx hlt hse hde hle
  have hb12 : Below w.heap.size w w2 := hb1.trans (hb2.mono hb1.size)
  refine (oddpow_any (m := n) (hs.below hb12) hd ht hn hp ho hl hsx hdx htx (by rw [hv]; exact hlt) hse hde hle).mono ?_
  rintro e w3 ⟨v, l, rfl, h3, h4, h5, h6, h7⟩
  exact ⟨v, l, rfl, h3, h4, h5, by rw [h6, hv], h7⟩

/-- **nat.Pow**. -/
theorem Pow_any (a e m : ByteArray) (w : World) (ha : a.size ≤ 268435456) (he : e.size ≤ 268435456) (hm : m.size ≤ 268435456) :
    Calls Tryz.prog 14 #[.string a, .string e, .string m] w fun x w' => x = .returned (.tuple #[.string (powStr (SN a) (SN e) (SN m)), .bool (decide (SN m ≠ 0))]) ∧ Below w.heap.size w w' :=
  Pow_walk a e m w ha he hm (fun h1 _ => oddSpec _ h1) _ (fun h => by simp [powStr, h]) (fun h => by simp [powStr, h]) _ rfl

theorem Pow_is (r : ByteArray) (v : Bool) (a e m : ByteArray) (w : World) (ha : a.size ≤ 268435456) (he : e.size ≤ 268435456) (hm : m.size ≤ 268435456) (h1 : powStr (SN a) (SN e) (SN m) = r) (hv : decide (SN m ≠ 0) = v) :
    Calls Tryz.prog 14 #[.string a, .string e, .string m] w fun x w' => x = .returned (.tuple #[.string r, .bool v]) ∧ Below w.heap.size w w' := by
  rw [← h1, ← hv]; exact Pow_any a e m w ha he hm

#print axioms Pow_is
end Go.Proofs.YtolmjeglaolhlaaGreatDoor
