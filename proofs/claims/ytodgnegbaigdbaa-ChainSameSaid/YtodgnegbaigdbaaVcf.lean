/- The conditions of functions, as the executor computes them: each is equal to what 'vcFn' says. -/
import Derived.Test.YtodgnegbaigdbaaSxLib
import Derived.Test.YtodgnegbaigdbaaProg
namespace Go.Proofs.Ytodgnegbaigdbaa
open Go Go.SX Go.Proofs
set_option maxRecDepth 100000
set_option linter.unusedVariables false
def VCTry38 (p0 : Option Addr) (n0 c0 : Nat) (p1 : Int) (w : World) (R : Ending → World → Prop) : Prop :=
Rets Try.prog (55 : Nat) #[Value.slice p0 n0 c0, Value.int IntKind.i64 p1] w fun (v0 : Value) (w1 : World) =>
 ∃ (i2 : Int),
  v0 = Value.int IntKind.i64 i2 ∧
   Keeps w w1 [] ∧
    bif decide (i2 < (0 : Int)) then R (Ending.returned (Value.int IntKind.i64 (-1 : Int))) w1
    else
     Wr IntKind.i64 (p1 - (1 : Int)) fun (i3 : Int) =>
      ∃ (I4 : Int → World → Prop),
       ∃ (I5 : Int → World → Nat),
        I4 i3 w1 ∧
         ∀ (i6 : Int) (w7 : World),
          I4 i6 w7 →
           bif decide (i6 ≥ (0 : Int)) then
            Rets Try.prog (55 : Nat) #[Value.slice p0 n0 c0, Value.int IntKind.i64 i6] w7 fun (v8 : Value) (w9 : World) =>
             ∃ (i10 : Int),
              v8 = Value.int IntKind.i64 i10 ∧
               Keeps w7 w9 [] ∧ bif i10 == i2 then R (Ending.returned (Value.int IntKind.i64 i6)) w9 else Wr IntKind.i64 (i6 - (1 : Int)) fun (i11 : Int) => I4 i11 w9 ∧ I5 i11 w9 < I5 i6 w7
           else R (Ending.returned (Value.int IntKind.i64 (-1 : Int))) w7
theorem vcTry38 (p0 : Option Addr) (n0 c0 : Nat) (p1 : Int) (w : World) (R : Ending → World → Prop) : SX.vcFn Try.prog [(5, ⟨[(6, .int .i64)], [5, 0], []⟩)] Try.f38 [.v (.slice p0 n0 c0), .v (.int .i64 p1)] [] w R = VCTry38 p0 n0 c0 p1 w R := by kernel_rfl
def VCTry55 (p0 : Option Addr) (n0 c0 : Nat) (p1 : Int) (w : World) (R : Ending → World → Prop) : Prop :=
bif decide (p1 < (0 : Int)) then R (Ending.returned (Value.int IntKind.i64 (-1 : Int))) w
else
 bif decide (p1 ≥ (↑n0 : Int)) then R (Ending.returned (Value.int IntKind.i64 (-1 : Int))) w
 else
  Wr IntKind.i64 ((↑n0 : Int) - p1) fun (i0 : Int) =>
   bif decide (i0 < (3 : Int)) then R (Ending.returned (Value.int IntKind.i64 (-1 : Int))) w
   else
    ((0 : Int) ≤ p1 ∧ p1 < (↑n0 : Int)) ∧
     SX.Ptr p0 fun (a1 : Addr) =>
      ∃ (i2 : Int),
       w.drew.cell? (a1.add (p1.toNat * (1 : Nat))) = some (Value.int IntKind.u8 i2) ∧
        Wr IntKind.i64 (p1 + (1 : Int)) fun (i3 : Int) =>
         ((0 : Int) ≤ i3 ∧ i3 < (↑n0 : Int)) ∧
          SX.Ptr p0 fun (a4 : Addr) =>
           ∃ (i5 : Int),
            w.drew.cell? (a4.add (i3.toNat * (1 : Nat))) = some (Value.int IntKind.u8 i5) ∧
             Wr IntKind.i64 (p1 + (2 : Int)) fun (i6 : Int) =>
              ((0 : Int) ≤ i6 ∧ i6 < (↑n0 : Int)) ∧
               SX.Ptr p0 fun (a7 : Addr) =>
                ∃ (i8 : Int),
                 w.drew.cell? (a7.add (i6.toNat * (1 : Nat))) = some (Value.int IntKind.u8 i8) ∧
                  Rets Try.prog (17 : Nat) #[Value.int IntKind.u8 i2, Value.int IntKind.u8 i5, Value.int IntKind.u8 i8] w.drew fun (v9 : Value) (w10 : World) =>
                   ∃ (i11 : Int), v9 = Value.int IntKind.i64 i11 ∧ Keeps w.drew w10 [] ∧ R (Ending.returned (Value.int IntKind.i64 i11)) w10
theorem vcTry55 (p0 : Option Addr) (n0 c0 : Nat) (p1 : Int) (w : World) (R : Ending → World → Prop) : SX.vcFn Try.prog [] Try.f55 [.v (.slice p0 n0 c0), .v (.int .i64 p1)] [] w R = VCTry55 p0 n0 c0 p1 w R := by kernel_rfl
end Go.Proofs.Ytodgnegbaigdbaa
