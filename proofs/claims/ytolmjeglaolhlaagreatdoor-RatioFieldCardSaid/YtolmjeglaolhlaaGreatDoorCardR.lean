/- Arrays of three ints among a law's arguments. -/
import Derived.Test.YtolmjeglaolhlaaGreatDoorCardC
import Derived.WideKeyPair
namespace Go.Proofs.YtolmjeglaolhlaaGreatDoor
open Go.ChangeShapes Go.WideShapes Go.ChangeAt Go.RowKit Go.ChangeMaps Go.WideMaps Num

section
variable {H : Type} {enc : TypeId × Value → H} {P : Program} {k e : TypeId} {q : IntKind} {W : World} {base : Nat} {sp : Nat → Bool} {held : Bool}

/-- What an array of three ints is when it is read. -/
theorem open_three (A : ArrKey P k e 3) (he : P.underlying e = some (.int q)) {r : Reach} {b0 : Nat} {v : Value} {d : DataW H} {ps : List MemPlace} (hval : Value.okWide P W r b0 k v) (hd : DataW.Trod enc P W base sp held k v d ps) :
    ∃ a b c : Int, v = .agg #[.int q a, .int q b, .int q c] ∧ (Lit.int q a).wf = true ∧ (Lit.int q b).wf = true ∧ (Lit.int q c).wf = true := by
  simp only [Value.okWide, A.hu] at hval
  obtain ⟨cs, rfl, hs, -⟩ := hval
  rw [A.size] at hs
  obtain ⟨l⟩ := cs
  match l, hs with
  | [c0, c1, c2], _ =>
    obtain ⟨fuel, hf⟩ := hd
    match fuel with
    | 0 => simp [DataW.trod] at hf
    | n + 1 =>
      rw [DataW.trod_step] at hf
      unfold DataW.trodStep at hf
      simp only [A.hu, Value.cells] at hf
      rw [if_pos (by rw [A.size]; rfl)] at hf
      simp only [Option.map_eq_some_iff] at hf
      obtain ⟨xs, hx, -⟩ := hf
      rw [show List.range 3 = [0, 1, 2] from rfl, List.mapM_cons, List.mapM_cons, List.mapM_cons, List.mapM_nil] at hx
      simp only [bind, Option.bind_eq_some_iff, pure, Option.some.injEq, A.one] at hx
      obtain ⟨z0, h0, _, ⟨z1, h1, _, ⟨z2, h2, _, rfl, rfl⟩, rfl⟩, rfl⟩ := hx
      obtain ⟨a, ea, -, wa⟩ := DataW.trod_int he h0
      obtain ⟨b, eb, -, wb⟩ := DataW.trod_int he h1
      obtain ⟨c, ec, -, wc⟩ := DataW.trod_int he h2
      simp at ea eb ec
      subst ea; subst eb; subst ec
      exact ⟨a, b, c, rfl, wa, wb, wc⟩
end

#print axioms open_three
end Go.Proofs.YtolmjeglaolhlaaGreatDoor
