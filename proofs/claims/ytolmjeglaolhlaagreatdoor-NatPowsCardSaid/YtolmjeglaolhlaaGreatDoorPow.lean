/- nat.Pow: the walk; the odd modulus enters as a word (OddSpec). -/
import Derived.Test.YtolmjeglaolhlaaGreatDoorNatA
import Derived.Test.YtolmjeglaolhlaaGreatDoorOddNew
import Derived.RangeFuncFrom
import Derived.Stop.RegionWithIn
import Derived.Sort.CutIn
namespace Go.Proofs.YtolmjeglaolhlaaGreatDoor
open Go.RowKit Go.Shelf Num

attribute [local go_sem] Oper.semAt_some

/-- What newOdd and pow of an odd modulus do together. -/
def OddSpec (M : Nat) : Prop :=
  ∀ (vm : Value) (lm : List Nat) (w : World), Sl .u32 w vm lm → Dig 4294967296 lm → Tr lm → vl 4294967296 lm = M → lm.length ≤ 268435460 →
    Calls Tryz.prog 66 #[vm] w fun e w1 => ∃ o, e = .returned o ∧ Below w.heap.size w w1 ∧
      ∀ (vx ve : Value) (lx le : List Nat) (w2 : World), Below w1.heap.size w1 w2 → Sl .u32 w2 vx lx → Dig 4294967296 lx → Tr lx → vl 4294967296 lx < M → Sl .u32 w2 ve le → Dig 4294967296 le → le.length ≤ 1073741824 →
        Calls Tryz.prog 67 #[o, vx, ve] w2 fun e w3 => ∃ v l, e = .returned v ∧ Sl .u32 w3 v l ∧ Dig 4294967296 l ∧ l.length ≤ 1073741824 ∧ vl 4294967296 l = vl 4294967296 lx ^ vl 4294967296 le % M ∧ Below w2.heap.size w2 w3

/-- The number of some binary digits, the most significant one first. -/
def bval (l : List Bool) : Nat := l.foldl (fun n b => 2 * n + (if b then 1 else 0)) 0
theorem bval_snoc (l : List Bool) (b : Bool) : bval (l ++ [b]) = 2 * bval l + (if b then 1 else 0) := by simp [bval]

theorem bval_upto (e N : Nat) : ∀ k, k ≤ N → bval (upto (topBit e N) k) = e % 2 ^ N / 2 ^ (N - k)
  | 0, _ => by
    rw [Nat.sub_zero, Nat.div_eq_of_lt (Nat.mod_lt _ (Nat.pow_pos (by omega)))]; rfl
  | k + 1, h => by
    rw [upto_succ, bval_snoc, bval_upto e N k (by omega)]
    obtain ⟨j, rfl⟩ : ∃ j, N = k + 1 + j := ⟨N - (k + 1), by omega⟩
    rw [show k + 1 + j - k = j + 1 by omega, show k + 1 + j - (k + 1) = j by omega]
    have h1 : e % 2 ^ (k + 1 + j) / 2 ^ (j + 1) = e % 2 ^ (k + 1 + j) / 2 ^ j / 2 := by rw [Nat.div_div_eq_div_mul, Nat.pow_succ]
    have h2 : topBit e (k + 1 + j) k = decide (e % 2 ^ (k + 1 + j) / 2 ^ j % 2 = 1) := by
      unfold topBit
      rw [show k + 1 + j - 1 - k = j by omega]
      have h3 : e % 2 ^ (k + 1 + j) / 2 ^ j % 2 = e / 2 ^ j % 2 := by
        rw [show 2 ^ (k + 1 + j) = 2 ^ j * 2 ^ (k + 1) by rw [← Nat.pow_add]; congr 1; omega]
        rw [Nat.mod_mul_right_div_self, Nat.pow_succ, Nat.mod_mod_of_dvd _ ⟨2 ^ k, by rw [Nat.mul_comm]⟩]
      rw [h3]
    rw [h1, h2]
    have := Nat.mod_lt (e % 2 ^ (k + 1 + j) / 2 ^ j) (show 0 < 2 by omega)
    by_cases h5 : e % 2 ^ (k + 1 + j) / 2 ^ j % 2 = 1
    · simp only [h5, decide_true, if_true]; omega
    · simp only [h5, decide_false]; simp; omega

theorem bval_all {e N : Nat} (h : e < 2 ^ N) : bval (upto (topBit e N) N) = e := by
  rw [bval_upto e N N (Nat.le_refl _), Nat.sub_self, Nat.pow_zero, Nat.div_one, Nat.mod_eq_of_lt h]

theorem pow_sq (x M n : Nat) : (x ^ n % M) * (x ^ n % M) % M = x ^ (2 * n) % M := by
  rw [← Nat.mul_mod, ← Nat.pow_add, Nat.two_mul]
theorem pow_one_more (x M n : Nat) : (x ^ n % M) * x % M = x ^ (n + 1) % M := by
  rw [Nat.mod_mul_mod, Nat.pow_succ]

theorem Sl.kept {k : IntKind} {A B : World} {v : Value} {l : List Nat} (h : Sl k A v l) {row : Option Nat} (hg : A.grownBy B row) (hr : ∀ r, row = some r → ∃ o : Obj, A.heap[r]? = some o ∧ o.isCells = false) : Sl k B v l := by
  obtain ⟨a, cap, rfl, h1, h2, h3⟩ := h
  refine ⟨a, cap, rfl, h1, h2, fun hl => ?_⟩
  obtain ⟨b, off, rfl, hb, hrow⟩ := h3 hl
  exact ⟨b, off, rfl, Nat.lt_of_lt_of_le hb hg.size, fun i hi => cell_kept (hrow i hi) hg hr⟩

theorem Below.others {W W' : World} (h : Below W.heap.size W W') : KeepsOthers W W' :=
  ⟨h.size, fun k _ hk _ => (h.block k (Array.getElem?_eq_some_iff.1 hk).1).trans hk⟩

theorem undrew {W W' : World} (h : Below W.drew.heap.size W.drew W') : Below W.heap.size W W' := (Below.refl W.heap.size W).drew.trans h

theorem undrewA {W W' : World} {o : Obj} (h : Below (W.alloc o).drew.heap.size (W.alloc o).drew W') : Below W.heap.size W W' :=
  ((Below.refl W.heap.size W).alloc (Nat.le_refl _) o).drew.trans (h.mono (by simp [World.drew]))
theorem unA {W W' : World} {o : Obj} (h : Below (W.alloc o).heap.size (W.alloc o) W') : Below W.heap.size W W' :=
  ((Below.refl W.heap.size W).alloc (Nat.le_refl _) o).trans (h.mono (by simp))

theorem row_ne {k : IntKind} {w : World} {b off : Nat} {l : List Nat} (hrow : Row k w b off l) (hl : 0 < l.length) {B : Nat} {t : TypeId} {a : Option Addr} {n c : Nat} (hB : Blk w B t [.slice a n c]) : b ≠ B := by
  intro e; subst e
  have := hrow 0 hl
  rw [hB.cell] at this
  rcases Nat.eq_zero_or_pos (off + 0) with h0 | h0
  · rw [h0] at this; simp at this
  · rw [List.getElem?_eq_none (by simp; omega)] at this; cases this

/-- Every block but one lies as it lay. -/
def But (B : Nat) (W W' : World) : Prop := Below 0 W W' ∧ ∀ c, c < W.heap.size → c ≠ B → W'.heap[c]? = W.heap[c]?
theorem But.trans {B : Nat} {W W' W'' : World} (h : But B W W') (k : But B W' W'') : But B W W'' :=
  ⟨h.1.trans k.1, fun c hc hB => (k.2 c (Nat.lt_of_lt_of_le hc h.1.size) hB).trans (h.2 c hc hB)⟩
theorem But.of {B : Nat} {W W' : World} (h : Below W.heap.size W W') : But B W W' := ⟨h.mono (Nat.zero_le _), fun c hc _ => h.block c hc⟩
theorem But.put (B : Nat) (W : World) (v : Value) : But B W (W.setCell ⟨B, 0, none⟩ v) :=
  ⟨(Below.refl 0 W).setCell (Nat.zero_le _) v, fun c _ hB => Below.heap_setCell W ⟨B, 0, none⟩ v c hB⟩
theorem But.below {B n : Nat} {W W' : World} (h : But B W W') (hn : n ≤ B) (hs : n ≤ W.heap.size) : Below n W W' :=
  ⟨h.1.os, h.1.tape, h.1.output, h.1.size, fun k hk => h.2 k (by omega) (by omega)⟩
theorem But.others {B : Nat} {W W' : World} (h : But B W W') {t : TypeId} {vs : List Value} (hB : Blk W B t vs) : KeepsOthers W W' :=
  ⟨h.1.size, fun k o hk ho => (h.2 k (Array.getElem?_eq_some_iff.1 hk).1 (fun e => by subst e; rw [show W.heap[k]? = _ from hB] at hk; cases hk; cases ho)).trans hk⟩

/-- What a round of the loop holds. -/
def AtO (B : Nat) (t : TypeId) (v n : Nat) (W : World) : Prop :=
  ∃ (a : Option Addr) (c : Nat) (lo : List Nat), Blk W B t [.slice a lo.length c] ∧ Sl .u32 W (.slice a lo.length c) lo ∧ Dig 4294967296 lo ∧ Tr lo ∧ vl 4294967296 lo = v ∧ lo.length ≤ n

theorem AtO.kept {B : Nat} {t : TypeId} {v n : Nat} {X Y : World} (h : AtO B t v n X) {row : Option Nat} (hg : X.grownBy Y row) (hr : ∀ r, row = some r → ∃ o : Obj, X.heap[r]? = some o ∧ o.isCells = false) : AtO B t v n Y := by
  obtain ⟨a, c, lo, h1, h2, h3⟩ := h
  refine ⟨a, c, lo, ?_, h2.kept hg hr, h3⟩
  refine (hg.block B h1.lt (fun e => ?_)).trans h1
  obtain ⟨o, ho, hc⟩ := hr B e.symm
  rw [show X.heap[B]? = _ from h1] at ho; cases ho; cases hc

/-- A store into a box that holds a slice leaves every list of numbers as it is. -/
theorem Sl.box {k : IntKind} {w : World} {v : Value} {l : List Nat} (h : Sl k w v l) {B : Nat} {t : TypeId} {a : Option Addr} {n c : Nat} (hB : Blk w B t [.slice a n c]) (v' : Value) : Sl k (w.setCell ⟨B, 0, none⟩ v') v l := by
  obtain ⟨aa, cap, rfl, h1, h2, h3⟩ := h
  refine ⟨aa, cap, rfl, h1, h2, fun hl => ?_⟩
  obtain ⟨b, off, rfl, hb, hrow⟩ := h3 hl
  have hne : b ≠ B := by
    intro e; subst e
    have := hrow 0 hl
    rw [hB.cell] at this
    rcases Nat.eq_zero_or_pos (off + 0) with h0 | h0
    · rw [h0] at this; simp at this
    · rw [List.getElem?_eq_none (by simp; omega)] at this; cases this
  refine ⟨b, off, rfl, by rw [World.size_setCell]; exact hb, fun i hi => ?_⟩
  have := hrow i hi
  unfold World.cell? at *
  rw [Below.heap_setCell w ⟨B, 0, none⟩ v' b hne]
  exact this

theorem cell_al {W : World} {b o : Nat} {v : Value} (o' : Obj) (h : W.cell? ⟨b, o, none⟩ = some v) (hb : b < W.heap.size) : (W.alloc o').cell? ⟨b, o, none⟩ = some v :=
  ((((Below.refl W.heap.size W).alloc (Nat.le_refl _) o').cell (p := ⟨b, o, none⟩) hb)).trans h

/-- A statement that ends normally alone. -/
theorem wpIn_calm {F : Fence} {n : Nat} {P : Program} {c : Code} {K : Act → World → Prop} {Q : Exit → Act → World → Prop} {a : Act} {w : World}
    (h : c.wpIn F n P (Exit.then K (fun _ _ _ => False)) a w) : c.wpIn F n P (Exit.then K Q) a w := by
  refine wpIn_mono h ?_
  intro e a' w' hq
  cases e with
  | normal => exact hq
  | exit id => exact hq.elim
  | goto l => exact hq.elim
  | ret => exact hq.elim
  | panic ch => exact hq.elim
  | outgrown => exact hq.elim

/-- What holds behind the region that reckons x. -/
def AtX (W : World) (t : TypeId) (x M n : Nat) (v : Value) (wx : World) : Prop :=
  ∃ (Bx : Nat) (a : Option Addr) (c : Nat) (lx : List Nat), v = .pointer (some ⟨Bx, 0, none⟩) ∧ Blk wx Bx t [.slice a lx.length c] ∧ Sl .u32 wx (.slice a lx.length c) lx ∧ Dig 4294967296 lx ∧ Tr lx ∧
    vl 4294967296 lx = x % M ∧ lx.length ≤ n ∧ W.heap.size ≤ Bx ∧ Below W.heap.size W wx


theorem low_mod2 (l : List Nat) : l.getD 0 0 % 2 = vl 4294967296 l % 2 := by
  cases l with
  | nil => rfl
  | cons x tl => simp only [List.getD_cons_zero, vl_cons]; omega

theorem is_one {l : List Nat} (ht : Tr l) (hl : 0 < l.length) : (l.length = 1 ∧ l.getD 0 0 = 1) ↔ vl 4294967296 l = 1 := by
  match l, hl with
  | [x], _ => simp
  | x :: y :: tl, _ =>
    have h2 : Tr (y :: tl) := by
      unfold Tr at *
      rw [List.getLast?_cons_cons] at ht
      exact ht
    have := h2.pos (b := 4294967296) (by decide) (by simp)
    simp only [List.length_cons, vl_cons] at *
    constructor
    · intro h; omega
    · intro h; omega

set_option maxRecDepth 100000 in
set_option maxHeartbeats 4000000 in
theorem Pow_walk (a e m : ByteArray) (w : World) (ha : a.size ≤ 268435456) (he : e.size ≤ 268435456) (hm : m.size ≤ 268435456) (HO : SN m % 2 = 1 → SN m ≠ 1 → OddSpec (SN m))
    (R : ByteArray) (hRz : SN m = 0 → R = Enc 0) (hRp : SN m ≠ 0 → R = Enc (SN a ^ SN e % SN m)) (B : Bool) (hB : B = decide (SN m ≠ 0)) :
    Calls Tryz.prog 14 #[.string a, .string e, .string m] w fun x w' => x = .returned (.tuple #[.string R, .bool B]) ∧ Below w.heap.size w w' := by
  have HOH := Lib.hid HO; clear HO
  have HRZ := Lib.hid hRz; clear hRz
  have HRP := Lib.hid hRp; clear hRp
  have HBB := Lib.hid hB; clear hB
  refine (callsIn_wide (n := 3)).1 ?_
  refine callsIn_of_wp_marks Tryz.func14 rfl trivial ?_ rfl
  simp only [Tryz.ntmps14, List.size_toArray, List.length_cons, List.length_nil, Nat.reduceAdd, Nat.reduceSub, Array.replicate_succ, Array.replicate_zero, List.push_toArray, List.append_toArray, List.nil_append, List.cons_append]
  gi_wp2_with fail
  refine ⟨trivial, ?_⟩
  refine (callsIn_wide.2 (of_any m _ (by omega))).mono ?_
  rintro e1 w1 ⟨vm, lm, rfl, hsm, hdm, htm, hvm, hlm, hb1⟩
  have hsm0 := hsm
  obtain ⟨am, cm, rfl, hcm, hcm2, hrm⟩ := hsm0
  generalize hM : SN m = M at *
  obtain ⟨n, hn⟩ : ∃ n, lm.length = n := ⟨_, rfl⟩
  rw [hn] at hsm hcm hrm hlm ⊢
  have HMM := Lib.hid hM; clear hM
  rcases Nat.eq_zero_or_pos n with h0 | h0
  · subst h0
    have hM0 : M = 0 := by rw [← hvm, List.length_eq_zero_iff.1 hn]; rfl
    clear hrm hn hdm htm hsm hvm
    subst hM0
    obtain rfl := HRZ.out rfl
    obtain rfl := HBB.out
    gi_wp2
    exact ⟨_, results_tmp2 rfl _ _ _, rfl, hb1.trans ((Below.refl _ _).alloc hb1.size _)⟩
  · have HN := Lib.hid hn; obtain ⟨bm, om, rfl, hbm, hrow⟩ := hrm h0
    clear hrm
    have hx := hrow 0 (by omega)
    rw [Nat.add_zero] at hx
    have hx32 := hdm.get (by decide) 0
    have hMp : M ≠ 0 := by
      intro e; rw [← hvm] at e
      have := htm.pos (b := 4294967296) (by decide) (by omega); omega
    have hM1 : (n = 1 ∧ lm.getD 0 0 = 1) ↔ M = 1 := by
      rw [← hvm, ← hn]; exact is_one htm (by omega)
    have hMo : lm.getD 0 0 % 2 = M % 2 := by
      rw [← hvm]; exact low_mod2 lm
    have HR := Lib.hid hrow
    generalize lm.getD 0 0 = x at hx hx32 hM1 hMo
    have HTM := Lib.hid htm; have HDM := Lib.hid hdm; have HVM := Lib.hid hvm; have HSM := Lib.hid hsm; have HM1 := Lib.hid hM1; have HMO := Lib.hid hMo; have HMP := Lib.hid hMp
    obtain rfl : B = true := HBB.out.trans (decide_eq_true hMp)
    clear htm hdm hvm hsm hn hM1 hMo hMp hrow
    by_cases h1 : n = 1 ∧ x = 1
    · obtain ⟨rfl, rfl⟩ := h1
      obtain rfl : M = 1 := HM1.out.1 ⟨rfl, rfl⟩
      obtain rfl := HRP.out (by decide)
      gi_wp2
      exact ⟨_, results_tmp2 rfl _ _ _, by simp [Nat.mod_one]; rfl, hb1.trans ((Below.refl _ _).alloc hb1.size _)⟩
    gi_upto_region 4 with fail
    generalize hWW : w1.alloc (.cells #[.slice (some ⟨bm, om, none⟩) n cm] 80) = W
    have hW1 : Below w1.heap.size w1 W := by rw [← hWW]; exact (Below.refl _ _).alloc (Nat.le_refl _) _
    have hz : Blk W w1.heap.size 80 [.slice (some ⟨bm, om, none⟩) n cm] := by rw [← hWW]; exact Blk.new _ _ _
    have hzl := hz.lt
    have hbW := hb1.trans (hW1.mono hb1.size)
    have hsW := HSM.out.below hW1
    have hxW := (hW1.cell (p := ⟨bm, om, none⟩) hbm).trans hx
    clear hWW
    generalize w1.heap.size = Bz at *
    have hc8 : W.cell? ⟨Bz, 0, none⟩ = some (.slice (some ⟨bm, om, none⟩) n cm) := hz.cell 0
    have HZ := Lib.hid hz; have HSW := Lib.hid hsW
    clear hz hsW HSM hx
    gi_cut [26] from 13 (fun v wc => v = .bool false ∧ W = wc)
    case first =>
      rcases (show n = 1 ∧ x ≠ 1 ∨ n ≠ 1 by omega) with ⟨h2, h3⟩ | h3
      · subst h2
        have h4 : ((x : Int) == 1) = false := by simp; omega
        gi_wp2
        gi_meet
        case rel => exact ⟨rfl, rfl⟩
      · gi_wp2
        gi_meet
        case rel => exact ⟨rfl, rfl⟩
    case rest =>
      obtain ⟨rfl, rfl⟩ := hcut
      have hpz : 0 < vl 4294967296 lm := by rw [HVM.out]; exact Nat.pos_of_ne_zero HMP.out
      have HPZ := Lib.hid hpz; clear hpz
      have hmx : Tryz.prog.follows .mixedOrders = true := by kernel_rfl
      gi_upto_region 6 with fail
      gi_cut [10] from 13 (fun v wx => AtX W 80 (SN a) M n v wx)
      case first =>
        have hc8a : ∀ o, (W.alloc o).cell? ⟨Bz, 0, none⟩ = _ := fun o => cell_al o hc8 hzl
        refine wpIn_calm ?_
        gi_region_with_o (first
          | (refine ⟨trivial, ?_⟩; gi_at_call 63; refine (callsIn_wide.2 (of_any a _ (by omega))).mono ?_; rintro e2 w2 ⟨vx, lx, rfl, hsx, hdx, htx, hvx, hlx, hb2⟩; have hB2 : Below W.heap.size W w2 := (by first | exact undrew hb2 | exact undrewA hb2); (try have hk2 := (Blk.new W 80 [.slice none 0 0]).drew.below (by simp [World.drew]) hb2); (try have hk2c : w2.cell? ⟨W.heap.size, 0, none⟩ = some (.slice none 0 0) := hk2.cell 0); (try have hk2f := hk2.free 0); have hsz2 := HSW.out.below hB2; have hc82 := (hB2.cell (p := ⟨Bz, 0, none⟩) hzl).trans hc8; have hc82a : ∀ o, (w2.alloc o).cell? ⟨Bz, 0, none⟩ = _ := fun o => cell_al o hc82 (Nat.lt_of_lt_of_le hzl hB2.size))
          | (refine ⟨trivial, ?_⟩; gi_at_call 64; refine (callsIn_wide.2 (divide_any (w := w2) hsx hsz2 hdx HDM.out htx HTM.out HPZ.out (by omega))).mono ?_; rintro e3 w3 ⟨vq, vr, lq, lr, rfl, hsq, hsr, hdq, hdr, htq, htr, hvq, hvr, hlq, hlr, hb3⟩; have hsr' := hsr; obtain ⟨ar, cr, rfl, -, -, -⟩ := hsr'; have hB3 : Below w2.heap.size w2 w3 := (by first | exact hb3 | exact unA hb3); have hB23 := hB2.trans (hB3.mono hB2.size); (try have hk3 := hk2.below hk2.lt hb3); (try have hk3c : w3.cell? ⟨W.heap.size, 0, none⟩ = some (.slice none 0 0) := hk3.cell 0); (try have hk3f := hk3.free 0))
          | (refine ⟨trivial, ?_⟩; gi_at_call 64; refine (callsIn_wide.2 (divide_any (w := w2.alloc _) (hsx.below ((Below.refl _ _).alloc (Nat.le_refl _) _)) (hsz2.below ((Below.refl _ _).alloc (Nat.le_refl _) _)) hdx HDM.out htx HTM.out HPZ.out (by omega))).mono ?_; rintro e3 w3 ⟨vq, vr, lq, lr, rfl, hsq, hsr, hdq, hdr, htq, htr, hvq, hvr, hlq, hlr, hb3⟩; have hsr' := hsr; obtain ⟨ar, cr, rfl, -, -, -⟩ := hsr'; have hB3 : Below w2.heap.size w2 w3 := (by first | exact hb3 | exact unA hb3); have hB23 := hB2.trans (hB3.mono hB2.size); have hk3 := (Blk.new w2 80 [.slice none 0 0]).below (by simp) hb3; have hk3c : w3.cell? ⟨w2.heap.size, 0, none⟩ = some (.slice none 0 0) := hk3.cell 0; have hk3f := hk3.free 0))
        all_goals gi_wp2_with fail
        all_goals gi_meet
        all_goals
          refine ⟨_, ar, cr, lr, rfl, ?_, ?_, hdr, htr, by rw [hvr, hvx, HVM.out], by rw [← HN.out]; exact hlr, ?_, ?_⟩
          · first | exact Blk.new _ _ _ | exact hk3.put 0 _
          · first | exact hsr.below ((Below.refl _ _).alloc (Nat.le_refl _) _) | exact hsr.box hk3 _
          · first | exact Nat.le_refl _ | exact hB2.size | exact hB23.size
          · first | exact hB23.alloc hB23.size _ | exact hB23.setCell (p := ⟨_, 0, none⟩) (by first | exact Nat.le_refl _ | exact hB2.size | exact hB23.size) _
      case rest =>
        obtain ⟨Bx, ax, cx, lx, rfl, hxb, hxs, hxd, hxt, hxv, hxl, hxB, hbx⟩ := hcut
        obtain ⟨V, rfl⟩ : ∃ V, V = wc := ⟨_, rfl⟩
        have hc8w := (hbx.cell (p := ⟨Bz, 0, none⟩) hzl).trans hc8
        have hxw := (hbx.cell (p := ⟨bm, om, none⟩) (Nat.lt_trans hbm hzl)).trans hxW
        have hcx : V.cell? ⟨Bx, 0, none⟩ = some (.slice ax lx.length cx) := hxb.cell 0
        have hxl' := hxb.lt
        have hsz := HSW.out.below hbx
        have hbc := hbW.trans (hbx.mono hbW.size)
        have hzb := HZ.out.below hzl hbx
        have hxM : vl 4294967296 lx < M := by rw [hxv]; exact Nat.mod_lt _ (Nat.pos_of_ne_zero HMP.out)
        obtain rfl := HRP.out HMP.out
        have HXB := Lib.hid hxb; have HXS := Lib.hid hxs; have HXD := Lib.hid hxd; have HXT := Lib.hid hxt; have HXV := Lib.hid hxv; have HSZ := Lib.hid hsz; have HZB := Lib.hid hzb; have HXM := Lib.hid hxM
        clear hxb hxs hxd hxt hxv hsz hzb hxM hxW hc8 HZ HSW
        by_cases hodd : M % 2 = 1
        · have hx1 : ((x : Int) % 2 == 1) = true := by have := HMO.out; simp; omega
          have hspec := HOH.out hodd (fun e => h1 (HM1.out.2 e))
          have HSP := Lib.hid hspec; clear hspec
          gi_wp2
          refine wpIn_calm ?_
          gi_region_with_o (first
            | (refine ⟨trivial, ?_⟩; gi_at_call 66; refine (callsIn_wide.2 (HSP.out _ lm _ HSZ.out.drew HDM.out HTM.out HVM.out (by have := HN.out; omega))).mono ?_; rintro e4 w4 ⟨o, rfl, hb4, hp4⟩; have hB4 := undrew hb4; have hcx4 := (hB4.cell (p := ⟨Bx, 0, none⟩) hxl').trans hcx; have HP4 := Lib.hid hp4; clear hp4)
            | (refine ⟨trivial, ?_⟩; gi_at_call 63; refine (callsIn_wide.2 (of_any e _ (by omega))).mono ?_; rintro e5 w5 ⟨ve, le, rfl, hse, hde, hte, hve, hle, hb5⟩; have hB5 := hB4.trans (hb5.mono hB4.size); have hcx5 := (hB5.cell (p := ⟨Bx, 0, none⟩) hxl').trans hcx)
            | (refine ⟨trivial, ?_⟩; gi_at_call 67; refine (callsIn_wide.2 (HP4.out _ ve lx le w5 hb5 (HXS.out.below hB5) HXD.out HXT.out HXM.out hse hde (by omega))).mono ?_; rintro e6 w6 ⟨vp, lp, rfl, hsp, hdp, hlp, hvp, hb6⟩; have HFI := Lib.hid (show vl 4294967296 lp = SN a ^ SN e % M by rw [hvp, HXV.out, hve, ← Nat.pow_mod]); clear hvp)
            | (refine ⟨trivial, ?_⟩; gi_at_call 65; refine (callsIn_wide.2 (number_any hsp hdp hlp)).mono ?_; rintro e7 w7 ⟨rfl, hb7⟩))
          all_goals gi_wp2
          all_goals
            refine ⟨_, results_tmp2 rfl _ _ _, ?_, ?_⟩
            · rw [← HFI.out]; rfl
            · exact (hbc.trans ((hB5.trans ((hb6.trans (hb7.mono hb6.size)).mono hB5.size)).mono hbc.size))
        · have hx1 : ((x : Int) % 2 == 1) = false := by have := HMO.out; simp; omega
          gi_wp2_with fail
          have hM2 : 1 < M := by
            have h2 := HMP.out
            have h3 : M ≠ 1 := fun e => h1 (HM1.out.2 e)
            omega
          have HM2 := Lib.hid hM2; clear hM2
          generalize hW9 : (V.alloc (.cells #[.int .u32 1] 30)).alloc (.cells #[.slice (some ⟨V.heap.size, 0, none⟩) 1 1] 80) = W9
          have hB9 : Below V.heap.size V W9 := by rw [← hW9]; exact ((Below.refl _ _).alloc (Nat.le_refl _) _).alloc (by simp) _
          have hob : Blk W9 (V.heap.size + 1) 80 [.slice (some ⟨V.heap.size, 0, none⟩) 1 1] := by
            rw [← hW9]
            have := Blk.new (V.alloc (.cells #[.int .u32 1] 30)) 80 [.slice (some ⟨V.heap.size, 0, none⟩) 1 1]
            rw [World.size_alloc] at this
            exact this
          have hos : Sl .u32 W9 (.slice (some ⟨V.heap.size, 0, none⟩) 1 1) [1] := by
            have h := (Blk.new V 30 (ints .u32 [1])).alloc (.cells #[.slice (some ⟨V.heap.size, 0, none⟩) 1 1] 80)
            rw [← hW9]
            exact Row.sl (Blk.row h) h.lt 1 (by simp) (by decide)
          clear hW9
          have hol := hob.lt
          refine ⟨trivial, ?_⟩
          refine (callsIn_wide.2 (of_any e _ (by omega))).mono ?_
          rintro e5 w5 ⟨ve, le, rfl, hse, hde, hte, hve, hle, hb5⟩
          have hob5 := hob.below hol hb5
          have hos5 := hos.below hb5
          obtain ⟨ae, ce, rfl, hce, hce2, hre⟩ := hse
          have hB95 := hB9.trans (hb5.mono hB9.size)
          have hol5 := hob5.lt
          have HRE := Lib.hid hre; clear hre
          have HOB := Lib.hid hob5; have HOS := Lib.hid hos5; have HDE := Lib.hid hde; have HVE := Lib.hid hve
          clear hob5 hob hos5 hos hde hve hte
          gi_wp2_with (refine ⟨trivial, ?_⟩; gi_at_call 68; refine (digits_in Fence.wide _ trivial rfl ae le.length ce w5).mono ?_; rintro e' w' ⟨rfl, rfl⟩)
          have hnb := Blk.new w5 80 [.slice ae le.length ce]
          refine wpIn_rangeFunc_ownF rfl (by omega) (gf := 113) (lb := #[.pointer (some ⟨w5.heap.size, 0, none⟩)]) rfl trivial (enters_of Tryz.func113 (by kernel_rfl) rfl)
            (digits_stops Fence.wide _ trivial rfl (by omega) w5.heap.size (fun c => c < (w5.alloc (.cells #[.slice ae le.length ce] 80)).heap.size ∧ c ≠ V.heap.size + 1) ae ce le hce (by omega) HDE.out _ ⟨by simp, by omega⟩ (fun c h => h.1) (hnb.cell 0) (fun hl => ?eI))
            KpB.trans (fun W l o o' hl _ _ _ => KpB.put (fun c h => h.1) W l o' hl) (Below.refl _ _) (fun _ => rfl)
            (fun pre W => AtO (V.heap.size + 1) 80 (vl 4294967296 lx ^ bval pre % M) n W ∧ (Below V.heap.size V W ∧ (w5.alloc (.cells #[.slice ae le.length ce] 80)).heap.size ≤ W.heap.size))
            (fun _ _ _ => False)
            (OwnFrom.and (Own.from (fun s A B row hs hg hr => hs.kept hg hr) _) (OwnFrom.and (ownFrom_below (Nat.le_refl _) (Nat.le_trans hB95.size (by simp))) (fun _ _ _ _ hs hg _ => Nat.le_trans hs hg.size)))
            (fun _ _ _ _ _ hs _ _ => hs)
            ⟨?e0, hB95.alloc hB95.size _, Nat.le_refl _⟩
            ?a1 ?assign ?body ?done ?stop
          case eI =>
            obtain ⟨b, off, hae, hb, hr⟩ := HRE.out hl
            refine ⟨b, off, hae, ⟨by simp; omega, row_ne hr hl HOB.out⟩, ?_⟩
            exact hr.below hb ((Below.refl _ _).alloc (Nat.le_refl _) _)
          case e0 =>
            refine ⟨_, _, [1], HOB.out.alloc _, HOS.out.below ((Below.refl _ _).alloc (Nat.le_refl _) _), fun y hy => by simp at hy; omega, by simp [Tr], ?_, by simp; omega⟩
            simp [bval]; exact (Nat.mod_eq_of_lt HM2.out).symm
          case assign =>
            intro l x W K hK
            gi_wp2
            exact hK
          case stop =>
            rintro D c pre W _ _ h _
            exact h.elim
          case done =>
            rintro D xs W hD rfl ⟨⟨ao, co, lo, hob, hos, hod, hot, hov, hol2⟩, hBW, hsW⟩ hK
            have hco : W.cell? ⟨V.heap.size + 1, 0, none⟩ = some (.slice ao lo.length co) := hob.cell 0
            have hfin : vl 4294967296 lo = SN a ^ SN e % M := by
              have h := vl_lt HDE.out
              rw [show (4294967296 : Nat) = 2 ^ 32 by decide, ← Nat.pow_mul] at h
              rw [hov, bval_all (by exact h), HXV.out, ← HVE.out, ← Nat.pow_mod]
            have HFI := Lib.hid hfin; have HK := Lib.hid hK; have HOV := Lib.hid hov
            clear hfin hK hov
            gi_wp2_with (refine ⟨trivial, ?_⟩; gi_at_call 65; refine (callsIn_wide.2 (number_any hos hod (by omega))).mono ?_; rintro e7 w7 ⟨rfl, hb7⟩)
            have hK' := (hb7.block D (Array.getElem?_eq_some_iff.1 HK.out).1).trans HK.out
            refine ⟨by simp, .inl ⟨_, _, rfl, run_takeDeferred hK', ?_⟩⟩
            refine ⟨_, results_tmp2 rfl _ _ _, by rw [← HFI.out]; rfl, ?_⟩
            have h1 := hbc.trans ((hBW.trans (hb7.mono hBW.size)).mono hbc.size)
            exact h1.trans (belowK_b (w := V) hbc.size w7 D _ _ (by have := hB95.size; simp at hD; omega) hK' rfl rfl)
          case body =>
            rintro l pre x W ⟨⟨ao, co, lo, hob, hos, hod, hot, hov, hol2⟩, hBW, hsW⟩ hlt
            have hco : W.cell? ⟨V.heap.size + 1, 0, none⟩ = some (.slice ao lo.length co) := hob.cell 0
            have hcz := (hBW.cell (p := ⟨Bz, 0, none⟩) (Nat.lt_of_lt_of_le hzl hbx.size)).trans hc8w
            have hcX := (hBW.cell (p := ⟨Bx, 0, none⟩) hxl').trans hcx
            have hol3 := hob.lt
            have hmx2 : Tryz.prog.follows .mixedOrders = true := hmx
            have hXW := HXS.out.below hBW
            have hZW := HSZ.out.below hBW
            have hwB : V.heap.size ≤ V.heap.size + 1 := Nat.le_succ _
            have hbit := bval_snoc pre x
            have HXW := Lib.hid hXW; have HZW := Lib.hid hZW; have HBI := Lib.hid hbit; have HOV := Lib.hid hov; have HOBB := Lib.hid hob
            clear hXW hZW hbit hov
            gi_upto_region 12 with fail
            gi_cut [] from 13 (fun wx => AtO (V.heap.size + 1) 80 (vl 4294967296 lx ^ (2 * bval pre) % M) n wx ∧ But (V.heap.size + 1) W wx)
            case first =>
              refine wpIn_calm ?_
              gi_region_with_o (first
                | (refine ⟨trivial, ?_⟩; gi_at_call 69; refine (CallsIn.inRound l (callsIn_wide.2 (product_any (w := W.drew) hos.drew hos.drew hod hod (by omega) (by omega)))).mono ?_; rintro e2 w2 ⟨vp, lp, rfl, hsp, hdp, htp, hvp, hlp, hb2⟩; have hB2 := undrew hb2; have hcz2 := (hB2.cell (p := ⟨Bz, 0, none⟩) (Nat.lt_of_lt_of_le (Nat.lt_of_lt_of_le hzl hbx.size) hBW.size)).trans hcz; have HVP := Lib.hid hvp; clear hvp)
                | (refine ⟨trivial, ?_⟩; gi_at_call 64; refine (CallsIn.inRound l (callsIn_wide.2 (divide_any (w := w2) hsp (HZW.out.below hB2) hdp HDM.out htp HTM.out HPZ.out (by omega)))).mono ?_; rintro e3 w3 ⟨vq, vr, lq, lr, rfl, hsq, hsr, hdq, hdr, htq, htr, hvq, hvr, hlq, hlr, hb3⟩; have hsr' := hsr; obtain ⟨ar, cr, rfl, -, -, -⟩ := hsr'; have hB3 := hB2.trans (hb3.mono hB2.size); have hob3 := HOBB.out.below hol3 hB3; have hco3 := hob3.cell 0; have hof3 := hob3.free 0))
              all_goals gi_wp2_with fail
              all_goals gi_meet
              all_goals
                refine ⟨⟨ar, cr, lr, hob3.put 0 _, hsr.box hob3 _, hdr, htr, ?_, ?_⟩, (But.of hB3).trans (But.put _ _ _)⟩
                · rw [hvr, HVP.out, HOV.out, HVM.out]; exact pow_sq _ _ _
                · rw [← HN.out]; exact hlr
            case rest =>
              obtain ⟨⟨ao2, co2, lo2, hob2, hos2, hod2, hot2, hov2, hol4⟩, hbut⟩ := hcut
              have hbV := hBW.trans (hbut.below hwB hBW.size)
              have hsz2 := hbut.1.size
              have hco2 : wc.cell? ⟨V.heap.size + 1, 0, none⟩ = some (.slice ao2 lo2.length co2) := hob2.cell 0
              have hcz2 := (hbV.cell (p := ⟨Bz, 0, none⟩) (Nat.lt_of_lt_of_le hzl hbx.size)).trans hc8w
              have hcX2 := (hbV.cell (p := ⟨Bx, 0, none⟩) hxl').trans hcx
              have hXW2 := HXS.out.below hbV
              have hZW2 := HSZ.out.below hbV
              have hol5' := hob2.lt
              have HOV2 := Lib.hid hov2; have HX2 := Lib.hid hXW2; have HZ2 := Lib.hid hZW2; have HO2 := Lib.hid hob2
              clear hov2 hXW2 hZW2
              cases x with
              | false =>
                gi_wp2
                refine ⟨hbut.others HOBB.out, fun c hc => hbut.2 c (Nat.lt_of_lt_of_le hc.1 hsW) hc.2, ⟨ao2, co2, lo2, HO2.out, hos2, hod2, hot2, ?_, hol4⟩, hbV, Nat.le_trans hsW hsz2⟩
                rw [HOV2.out, HBI.out]; rfl
              | true =>
                gi_wp2
                gi_region_with_o (first
                  | (refine ⟨trivial, ?_⟩; gi_at_call 69; refine (CallsIn.inRound l (callsIn_wide.2 (product_any (w := wc.drew) hos2.drew HX2.out.drew hod2 HXD.out (by omega) (by omega)))).mono ?_; rintro e2 w2 ⟨vp, lp, rfl, hsp, hdp, htp, hvp, hlp, hb2⟩; have hB2 := undrew hb2; have hcz3 := (hB2.cell (p := ⟨Bz, 0, none⟩) (Nat.lt_of_lt_of_le (Nat.lt_of_lt_of_le hzl hbx.size) hbV.size)).trans hcz2; have HVP := Lib.hid hvp; clear hvp)
                  | (refine ⟨trivial, ?_⟩; gi_at_call 64; refine (CallsIn.inRound l (callsIn_wide.2 (divide_any (w := w2) hsp (HZ2.out.below hB2) hdp HDM.out htp HTM.out HPZ.out (by omega)))).mono ?_; rintro e3 w3 ⟨vq, vr, lq, lr, rfl, hsq, hsr, hdq, hdr, htq, htr, hvq, hvr, hlq, hlr, hb3⟩; have hsr' := hsr; obtain ⟨ar, cr, rfl, -, -, -⟩ := hsr'; have hB3 := hB2.trans (hb3.mono hB2.size); have hob3 := HO2.out.below hol5' hB3; have hco3 := hob3.cell 0; have hof3 := hob3.free 0))
                all_goals gi_wp2
                all_goals
                  have hbut3 := hbut.trans ((But.of hB3).trans (But.put (V.heap.size + 1) _ (.slice ar lr.length cr)))
                  refine ⟨hbut3.others HOBB.out, fun c hc => hbut3.2 c (Nat.lt_of_lt_of_le hc.1 hsW) hc.2, ⟨ar, cr, lr, hob3.put 0 _, hsr.box hob3 _, hdr, htr, ?_, ?_⟩, hBW.trans (hbut3.below hwB hBW.size), Nat.le_trans hsW hbut3.1.size⟩
                  · rw [hvr, HVP.out, HOV2.out, HVM.out, HBI.out]; exact pow_one_more _ _ _
                  · rw [← HN.out]; exact hlr

/-- The answer of nat.Pow. -/
def powStr (a e m : Nat) : ByteArray := if m = 0 then Enc 0 else Enc (a ^ e % m)

/-- **nat.Pow**, the modulus even, or one, or none. -/
theorem Pow_even (a e m : ByteArray) (w : World) (ha : a.size ≤ 268435456) (he : e.size ≤ 268435456) (hm : m.size ≤ 268435456) (h : SN m % 2 = 0 ∨ SN m = 1) :
    Calls Tryz.prog 14 #[.string a, .string e, .string m] w fun x w' => x = .returned (.tuple #[.string (powStr (SN a) (SN e) (SN m)), .bool (decide (SN m ≠ 0))]) ∧ Below w.heap.size w w' :=
  Pow_walk a e m w ha he hm (fun h1 h2 => by omega) _ (fun h => by simp [powStr, h]) (fun h => by simp [powStr, h]) _ rfl

#print axioms Pow_even
end Go.Proofs.YtolmjeglaolhlaaGreatDoor
