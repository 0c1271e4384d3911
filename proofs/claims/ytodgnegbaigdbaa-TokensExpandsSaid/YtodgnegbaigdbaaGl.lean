import Derived.Test.YtodgnegbaigdbaaGk
import Derived.Test.YtodgnegbaigdbaaRa
namespace Go.Proofs.Ytodgnegbaigdbaa
open Go Go.SX Go.Proofs Go.ChangeShapes Go.WideShapes Go.ChangeAt Go.RowKit
set_option maxRecDepth 100000
set_option linter.unusedVariables false
theorem tok_open {H : Type} {enc : TypeId × Value → H} {W : World} {v : Value} {d : DataW H} {ps : List MemPlace} {r : Reach} {b0 : Nat} (hval : Value.okWide Try.prog W r b0 42 v) (h : DataW.Trod enc Try.prog W 0 (fun _ => true) true 42 v d ps) :
    ∃ (q : Option Addr) (c : Nat) (l : List Tok), v = .slice q l.length c ∧ Toks W q l ∧ ∀ t ∈ l, 0 ≤ t.1 ∧ t.1 < 256 := by
  obtain ⟨q0, n0, k0, rfl, hn0, hm0, r0⟩ := open_structs (ks := [.u8, .i64, .i64]) Try.underlying42 Try.underlying49 (by kernel_rfl) (fun j k hj => by
    match j, hj with
    | 0, hj => simp at hj; subst hj; exact ⟨_, rfl, rfl, Try.underlying5, Try.cells5⟩
    | 1, hj => simp at hj; subst hj; exact ⟨_, rfl, rfl, Try.underlying3, Try.cells3⟩
    | 2, hj => simp at hj; subst hj; exact ⟨_, rfl, rfl, Try.underlying3, Try.cells3⟩
    | j + 3, hj => simp at hj) hval h
  obtain ⟨l, rfl, hk, hr⟩ := open_toks rfl r0
  exact ⟨q0, k0, l, rfl, hk, hr⟩
end Go.Proofs.Ytodgnegbaigdbaa
