/- The conditions of functions, as the executor computes them: each is equal to what 'vcFn' says. -/
import Derived.Test.YtodgnegbaigdbaaSxLib
import Derived.Test.YtodgnegbaigdbaaProg
namespace Go.Proofs.Ytodgnegbaigdbaa
open Go Go.SX Go.Proofs
set_option maxRecDepth 100000
set_option linter.unusedVariables false
def VCTry16 (p0 : Int) (p1 : Int) (p2 : Int) (w : World) (R : Ending → World → Prop) : Prop :=
Wr IntKind.i64 p0 fun (i0 : Int) =>
  (0 : Int) ≤ (10 : Int) ∧
    Wr IntKind.i64 (shlI IntKind.i64 i0 (10 : Int)) fun (i1 : Int) =>
      Wr IntKind.i64 p1 fun (i2 : Int) =>
        (0 : Int) ≤ (5 : Int) ∧
          Wr IntKind.i64 (shlI IntKind.i64 i2 (5 : Int)) fun (i3 : Int) =>
            Wr IntKind.i64 p2 fun (i4 : Int) => R (Ending.returned (Value.int IntKind.i64 (andI IntKind.i64 (xorI IntKind.i64 (xorI IntKind.i64 i1 i3) i4) (4095 : Int)))) w
theorem vcTry16 (p0 : Int) (p1 : Int) (p2 : Int) (w : World) (R : Ending → World → Prop) : SX.vcFn Try.prog [] Try.f16 [.v (.int .u8 p0), .v (.int .u8 p1), .v (.int .u8 p2)] [] w R = VCTry16 p0 p1 p2 w R := by kernel_rfl
def VCTry17 (p0 : Int) (p1 : Int) (p2 : Int) (w : World) (R : Ending → World → Prop) : Prop :=
∃ (I0 : Int → Int → Int → World → Prop),
  ∃ (I1 : Int → Int → Int → World → Nat),
    I0 (0 : Int) (1 : Int) (0 : Int) w ∧
      ∀ (i2 i3 i4 : Int) (w5 : World),
        I0 i2 i3 i4 w5 →
          bif decide (i2 < (12 : Int)) then
            bif decide (i2 ≥ (10 : Int)) then
              Wr IntKind.i64 (i2 - (10 : Int)) fun (i6 : Int) =>
                Rets Try.prog (47 : Nat) #[Value.int IntKind.u8 p0, Value.int IntKind.i64 i6] w5 fun (v7 : Value) (w8 : World) =>
                  ∃ (i9 : Int),
                    v7 = Value.int IntKind.i64 i9 ∧
                      Keeps w5 w8 [] ∧
                        Wr IntKind.i64 ((0 : Int) + i9) fun (i10 : Int) =>
                          bif decide (i2 ≥ (5 : Int)) then
                            Wr IntKind.i64 (i2 - (5 : Int)) fun (i11 : Int) =>
                              Rets Try.prog (47 : Nat) #[Value.int IntKind.u8 p1, Value.int IntKind.i64 i11] w8 fun (v12 : Value) (w13 : World) =>
                                ∃ (i14 : Int),
                                  v12 = Value.int IntKind.i64 i14 ∧
                                    Keeps w8 w13 [] ∧
                                      Wr IntKind.i64 (i10 + i14) fun (i15 : Int) =>
                                        bif decide (i2 < (8 : Int)) then
                                          Rets Try.prog (47 : Nat) #[Value.int IntKind.u8 p2, Value.int IntKind.i64 i2] w13 fun (v16 : Value) (w17 : World) =>
                                            ∃ (i18 : Int),
                                              v16 = Value.int IntKind.i64 i18 ∧
                                                Keeps w13 w17 [] ∧
                                                  Wr IntKind.i64 (i15 + i18) fun (i19 : Int) =>
                                                    (2 : Int) ≠ (0 : Int) ∧
                                                      Wr IntKind.i64 (i3 * i19.tmod (2 : Int)) fun (i20 : Int) =>
                                                        Wr IntKind.i64 (i4 + i20) fun (i21 : Int) =>
                                                          Wr IntKind.i64 ((2 : Int) * i3) fun (i22 : Int) => Wr IntKind.i64 (i2 + (1 : Int)) fun (i23 : Int) => I0 i23 i22 i21 w17 ∧ I1 i23 i22 i21 w17 < I1 i2 i3 i4 w5
                                        else
                                          (2 : Int) ≠ (0 : Int) ∧
                                            Wr IntKind.i64 (i3 * i15.tmod (2 : Int)) fun (i24 : Int) =>
                                              Wr IntKind.i64 (i4 + i24) fun (i25 : Int) =>
                                                Wr IntKind.i64 ((2 : Int) * i3) fun (i26 : Int) => Wr IntKind.i64 (i2 + (1 : Int)) fun (i27 : Int) => I0 i27 i26 i25 w13 ∧ I1 i27 i26 i25 w13 < I1 i2 i3 i4 w5
                          else
                            bif decide (i2 < (8 : Int)) then
                              Rets Try.prog (47 : Nat) #[Value.int IntKind.u8 p2, Value.int IntKind.i64 i2] w8 fun (v28 : Value) (w29 : World) =>
                                ∃ (i30 : Int),
                                  v28 = Value.int IntKind.i64 i30 ∧
                                    Keeps w8 w29 [] ∧
                                      Wr IntKind.i64 (i10 + i30) fun (i31 : Int) =>
                                        (2 : Int) ≠ (0 : Int) ∧
                                          Wr IntKind.i64 (i3 * i31.tmod (2 : Int)) fun (i32 : Int) =>
                                            Wr IntKind.i64 (i4 + i32) fun (i33 : Int) =>
                                              Wr IntKind.i64 ((2 : Int) * i3) fun (i34 : Int) => Wr IntKind.i64 (i2 + (1 : Int)) fun (i35 : Int) => I0 i35 i34 i33 w29 ∧ I1 i35 i34 i33 w29 < I1 i2 i3 i4 w5
                            else
                              (2 : Int) ≠ (0 : Int) ∧
                                Wr IntKind.i64 (i3 * i10.tmod (2 : Int)) fun (i36 : Int) =>
                                  Wr IntKind.i64 (i4 + i36) fun (i37 : Int) =>
                                    Wr IntKind.i64 ((2 : Int) * i3) fun (i38 : Int) => Wr IntKind.i64 (i2 + (1 : Int)) fun (i39 : Int) => I0 i39 i38 i37 w8 ∧ I1 i39 i38 i37 w8 < I1 i2 i3 i4 w5
            else
              bif decide (i2 ≥ (5 : Int)) then
                Wr IntKind.i64 (i2 - (5 : Int)) fun (i40 : Int) =>
                  Rets Try.prog (47 : Nat) #[Value.int IntKind.u8 p1, Value.int IntKind.i64 i40] w5 fun (v41 : Value) (w42 : World) =>
                    ∃ (i43 : Int),
                      v41 = Value.int IntKind.i64 i43 ∧
                        Keeps w5 w42 [] ∧
                          Wr IntKind.i64 ((0 : Int) + i43) fun (i44 : Int) =>
                            bif decide (i2 < (8 : Int)) then
                              Rets Try.prog (47 : Nat) #[Value.int IntKind.u8 p2, Value.int IntKind.i64 i2] w42 fun (v45 : Value) (w46 : World) =>
                                ∃ (i47 : Int),
                                  v45 = Value.int IntKind.i64 i47 ∧
                                    Keeps w42 w46 [] ∧
                                      Wr IntKind.i64 (i44 + i47) fun (i48 : Int) =>
                                        (2 : Int) ≠ (0 : Int) ∧
                                          Wr IntKind.i64 (i3 * i48.tmod (2 : Int)) fun (i49 : Int) =>
                                            Wr IntKind.i64 (i4 + i49) fun (i50 : Int) =>
                                              Wr IntKind.i64 ((2 : Int) * i3) fun (i51 : Int) => Wr IntKind.i64 (i2 + (1 : Int)) fun (i52 : Int) => I0 i52 i51 i50 w46 ∧ I1 i52 i51 i50 w46 < I1 i2 i3 i4 w5
                            else
                              (2 : Int) ≠ (0 : Int) ∧
                                Wr IntKind.i64 (i3 * i44.tmod (2 : Int)) fun (i53 : Int) =>
                                  Wr IntKind.i64 (i4 + i53) fun (i54 : Int) =>
                                    Wr IntKind.i64 ((2 : Int) * i3) fun (i55 : Int) => Wr IntKind.i64 (i2 + (1 : Int)) fun (i56 : Int) => I0 i56 i55 i54 w42 ∧ I1 i56 i55 i54 w42 < I1 i2 i3 i4 w5
              else
                bif decide (i2 < (8 : Int)) then
                  Rets Try.prog (47 : Nat) #[Value.int IntKind.u8 p2, Value.int IntKind.i64 i2] w5 fun (v57 : Value) (w58 : World) =>
                    ∃ (i59 : Int),
                      v57 = Value.int IntKind.i64 i59 ∧
                        Keeps w5 w58 [] ∧
                          Wr IntKind.i64 ((0 : Int) + i59) fun (i60 : Int) =>
                            (2 : Int) ≠ (0 : Int) ∧
                              Wr IntKind.i64 (i3 * i60.tmod (2 : Int)) fun (i61 : Int) =>
                                Wr IntKind.i64 (i4 + i61) fun (i62 : Int) =>
                                  Wr IntKind.i64 ((2 : Int) * i3) fun (i63 : Int) => Wr IntKind.i64 (i2 + (1 : Int)) fun (i64 : Int) => I0 i64 i63 i62 w58 ∧ I1 i64 i63 i62 w58 < I1 i2 i3 i4 w5
                else
                  (2 : Int) ≠ (0 : Int) ∧
                    Wr IntKind.i64 (i3 * Int.tmod (0 : Int) (2 : Int)) fun (i65 : Int) =>
                      Wr IntKind.i64 (i4 + i65) fun (i66 : Int) =>
                        Wr IntKind.i64 ((2 : Int) * i3) fun (i67 : Int) => Wr IntKind.i64 (i2 + (1 : Int)) fun (i68 : Int) => I0 i68 i67 i66 w5 ∧ I1 i68 i67 i66 w5 < I1 i2 i3 i4 w5
          else R (Ending.returned (Value.int IntKind.i64 i4)) w5
theorem vcTry17 (p0 : Int) (p1 : Int) (p2 : Int) (w : World) (R : Ending → World → Prop) : SX.vcFn Try.prog [(4, ⟨[(9, .int .i64), (8, .int .i64), (7, .int .i64)], [2, 1, 0], []⟩)] Try.f17 [.v (.int .u8 p0), .v (.int .u8 p1), .v (.int .u8 p2)] [] w R = VCTry17 p0 p1 p2 w R := by kernel_rfl
def VCTry47 (p0 : Int) (p1 : Int) (w : World) (R : Ending → World → Prop) : Prop :=
Wr IntKind.i64 p0 fun (i0 : Int) =>
  ∃ (I1 : Int → Int → World → Prop),
    ∃ (I2 : Int → Int → World → Nat),
      I1 (0 : Int) i0 w ∧
        ∀ (i3 i4 : Int) (w5 : World),
          I1 i3 i4 w5 →
            bif decide (i3 < p1) then (2 : Int) ≠ (0 : Int) ∧ Wr IntKind.i64 (i4.tdiv (2 : Int)) fun (i6 : Int) => Wr IntKind.i64 (i3 + (1 : Int)) fun (i7 : Int) => I1 i7 i6 w5 ∧ I2 i7 i6 w5 < I2 i3 i4 w5
            else (2 : Int) ≠ (0 : Int) ∧ R (Ending.returned (Value.int IntKind.i64 (i4.tmod (2 : Int)))) w5
theorem vcTry47 (p0 : Int) (p1 : Int) (w : World) (R : Ending → World → Prop) : SX.vcFn Try.prog [(3, ⟨[(6, .int .i64), (5, .int .i64)], [1], []⟩)] Try.f47 [.v (.int .u8 p0), .v (.int .i64 p1)] [] w R = VCTry47 p0 p1 w R := by kernel_rfl
def VCTry23 (p0 : Option Addr) (n0 c0 : Nat) (p1 : Int) (p2 : Int) (w : World) (R : Ending → World → Prop) : Prop :=
bif decide (p1 < (0 : Int)) then R (Ending.returned (Value.int IntKind.i64 (0 : Int))) w
else
  bif decide (p1 ≥ (↑n0 : Int)) then R (Ending.returned (Value.int IntKind.i64 (0 : Int))) w
  else
    bif decide (p2 < (1 : Int)) then R (Ending.returned (Value.int IntKind.i64 (0 : Int))) w
    else
      bif decide (p2 > (32768 : Int)) then R (Ending.returned (Value.int IntKind.i64 (0 : Int))) w
      else
        bif decide (p2 > p1) then R (Ending.returned (Value.int IntKind.i64 (0 : Int))) w
        else
          ∃ (I0 : Int → World → Prop),
            ∃ (I1 : Int → World → Nat),
              I0 (0 : Int) w ∧
                ∀ (i2 : Int) (w3 : World),
                  I0 i2 w3 →
                    bif decide (i2 < (258 : Int)) then
                      Wr IntKind.i64 (p1 + i2) fun (i4 : Int) =>
                        bif decide (i4 < (↑n0 : Int)) then
                          Wr IntKind.i64 (p1 + i2) fun (i5 : Int) =>
                            ((0 : Int) ≤ i5 ∧ i5 < (↑n0 : Int)) ∧
                              SX.Ptr p0 fun (a6 : Addr) =>
                                ∃ (i7 : Int),
                                  w3.drew.cell? (a6.add (i5.toNat * (1 : Nat))) = some (Value.int IntKind.u8 i7) ∧
                                    Wr IntKind.i64 (p1 + i2) fun (i8 : Int) =>
                                      Wr IntKind.i64 (i8 - p2) fun (i9 : Int) =>
                                        ((0 : Int) ≤ i9 ∧ i9 < (↑n0 : Int)) ∧
                                          SX.Ptr p0 fun (a10 : Addr) =>
                                            ∃ (i11 : Int),
                                              w3.drew.cell? (a10.add (i9.toNat * (1 : Nat))) = some (Value.int IntKind.u8 i11) ∧
                                                bif i7 == i11 then Wr IntKind.i64 (i2 + (1 : Int)) fun (i12 : Int) => I0 i12 w3.drew ∧ I1 i12 w3.drew < I1 i2 w3 else R (Ending.returned (Value.int IntKind.i64 i2)) w3.drew
                        else R (Ending.returned (Value.int IntKind.i64 i2)) w3.drew
                    else R (Ending.returned (Value.int IntKind.i64 i2)) w3.drew
theorem vcTry23 (p0 : Option Addr) (n0 c0 : Nat) (p1 : Int) (p2 : Int) (w : World) (R : Ending → World → Prop) : SX.vcFn Try.prog [(4, ⟨[(7, .int .i64)], [2, 1, 0], []⟩)] Try.f23 [.v (.slice p0 n0 c0), .v (.int .i64 p1), .v (.int .i64 p2)] [] w R = VCTry23 p0 n0 c0 p1 p2 w R := by kernel_rfl
def VCTry24 (p0 : Option Addr) (n0 c0 : Nat) (p1 : Int) (p2 : Int) (w : World) (R : Ending → World → Prop) : Prop :=
bif decide (p1 < (0 : Int)) then R (Ending.returned (Value.int IntKind.i64 (0 : Int))) w
else
  bif decide (p1 ≥ (↑n0 : Int)) then R (Ending.returned (Value.int IntKind.i64 (0 : Int))) w
  else
    bif decide (p2 < (1 : Int)) then R (Ending.returned (Value.int IntKind.i64 (0 : Int))) w
    else
      bif decide (p2 > (32768 : Int)) then R (Ending.returned (Value.int IntKind.i64 (0 : Int))) w
      else
        bif decide (p2 > p1) then R (Ending.returned (Value.int IntKind.i64 (0 : Int))) w
        else
          ∃ (I0 : Int → Int → World → Prop),
            ∃ (I1 : Int → Int → World → Nat),
              I0 (0 : Int) p1 w ∧
                ∀ (i2 i3 : Int) (w4 : World),
                  I0 i2 i3 w4 →
                    bif decide (i3 < (↑n0 : Int)) then
                      bif decide (i2 < (258 : Int)) then
                        ((0 : Int) ≤ i3 ∧ i3 < (↑n0 : Int)) ∧
                          SX.Ptr p0 fun (a5 : Addr) =>
                            ∃ (i6 : Int),
                              w4.drew.cell? (a5.add (i3.toNat * (1 : Nat))) = some (Value.int IntKind.u8 i6) ∧
                                Wr IntKind.i64 (i3 - p2) fun (i7 : Int) =>
                                  ((0 : Int) ≤ i7 ∧ i7 < (↑n0 : Int)) ∧
                                    SX.Ptr p0 fun (a8 : Addr) =>
                                      ∃ (i9 : Int),
                                        w4.drew.cell? (a8.add (i7.toNat * (1 : Nat))) = some (Value.int IntKind.u8 i9) ∧
                                          bif i6 != i9 then R (Ending.returned (Value.int IntKind.i64 i2)) w4.drew
                                          else Wr IntKind.i64 (i2 + (1 : Int)) fun (i10 : Int) => Wr IntKind.i64 (i3 + (1 : Int)) fun (i11 : Int) => I0 i10 i11 w4.drew ∧ I1 i10 i11 w4.drew < I1 i2 i3 w4
                      else R (Ending.returned (Value.int IntKind.i64 i2)) w4
                    else R (Ending.returned (Value.int IntKind.i64 i2)) w4
theorem vcTry24 (p0 : Option Addr) (n0 c0 : Nat) (p1 : Int) (p2 : Int) (w : World) (R : Ending → World → Prop) : SX.vcFn Try.prog [(5, ⟨[(7, .int .i64), (8, .int .i64)], [2, 0], []⟩)] Try.f24 [.v (.slice p0 n0 c0), .v (.int .i64 p1), .v (.int .i64 p2)] [] w R = VCTry24 p0 n0 c0 p1 p2 w R := by kernel_rfl
def VCTry48 (p0 : Option Addr) (p1 : Int) (w : World) (R : Ending → World → Prop) : Prop :=
bif !p0.isNone then
  bif decide (p1 ≥ (0 : Int)) then
    SX.Ptr p0 fun (a0 : Addr) =>
      ∃ (q1 : Option Addr),
        ∃ (n2 : Nat), ∃ (n3 : Nat), w.cell? (a0.add (0 : Nat)) = some (Value.slice q1 n2 n3) ∧ Wr IntKind.i64 ((↑n2 : Int) - (3 : Int)) fun (i4 : Int) => R (Ending.returned (Value.bool (decide (p1 ≤ i4)))) w
  else R (Ending.returned (Value.bool false)) w
else R (Ending.returned (Value.bool false)) w
theorem vcTry48 (p0 : Option Addr) (p1 : Int) (w : World) (R : Ending → World → Prop) : SX.vcFn Try.prog [] Try.f48 [.v (.pointer p0), .v (.int .i64 p1)] [] w R = VCTry48 p0 p1 w R := by kernel_rfl
def VCTry54 (p0 : Option Addr) (p1 : Int) (w : World) (R : Ending → World → Prop) : Prop :=
SX.Ptr p0 fun (a0 : Addr) =>
  ∃ (q1 : Option Addr),
    ∃ (n2 : Nat),
      ∃ (n3 : Nat),
        w.cell? (a0.add (4097 : Nat)) = some (Value.slice q1 n2 n3) ∧
          ∃ (I4 : Int → World → Prop),
            ∃ (I5 : Int → World → Nat),
              I4 (↑n2 : Int) w ∧
                ∀ (i6 : Int) (w7 : World),
                  I4 i6 w7 →
                    bif decide (i6 ≤ p1) then
                      SX.Ptr p0 fun (a8 : Addr) =>
                        ∃ (q9 : Option Addr),
                          ∃ (n10 : Nat),
                            ∃ (n11 : Nat),
                              w7.drew.cell? (a8.add (0 : Nat)) = some (Value.slice q9 n10 n11) ∧
                                ((0 : Int) ≤ i6 ∧ i6 < (↑n10 : Int)) ∧
                                  SX.Ptr q9 fun (a12 : Addr) =>
                                    ∃ (i13 : Int),
                                      w7.drew.cell? (a12.add (i6.toNat * (1 : Nat))) = some (Value.int IntKind.u8 i13) ∧
                                        SX.Ptr p0 fun (a14 : Addr) =>
                                          ∃ (q15 : Option Addr),
                                            ∃ (n16 : Nat),
                                              ∃ (n17 : Nat),
                                                w7.drew.cell? (a14.add (0 : Nat)) = some (Value.slice q15 n16 n17) ∧
                                                  Wr IntKind.i64 (i6 + (1 : Int)) fun (i18 : Int) =>
                                                    ((0 : Int) ≤ i18 ∧ i18 < (↑n16 : Int)) ∧
                                                      SX.Ptr q15 fun (a19 : Addr) =>
                                                        ∃ (i20 : Int),
                                                          w7.drew.cell? (a19.add (i18.toNat * (1 : Nat))) = some (Value.int IntKind.u8 i20) ∧
                                                            SX.Ptr p0 fun (a21 : Addr) =>
                                                              ∃ (q22 : Option Addr),
                                                                ∃ (n23 : Nat),
                                                                  ∃ (n24 : Nat),
                                                                    w7.drew.cell? (a21.add (0 : Nat)) = some (Value.slice q22 n23 n24) ∧
                                                                      Wr IntKind.i64 (i6 + (2 : Int)) fun (i25 : Int) =>
                                                                        ((0 : Int) ≤ i25 ∧ i25 < (↑n23 : Int)) ∧
                                                                          SX.Ptr q22 fun (a26 : Addr) =>
                                                                            ∃ (i27 : Int),
                                                                              w7.drew.cell? (a26.add (i25.toNat * (1 : Nat))) = some (Value.int IntKind.u8 i27) ∧
                                                                                Rets Try.prog (16 : Nat) #[Value.int IntKind.u8 i13, Value.int IntKind.u8 i20, Value.int IntKind.u8 i27] w7.drew
                                                                                  fun (v28 : Value) (w29 : World) =>
                                                                                  ∃ (i30 : Int),
                                                                                    v28 = Value.int IntKind.i64 i30 ∧
                                                                                      Keeps w7.drew w29 [] ∧
                                                                                        SX.Ptr p0 fun (a31 : Addr) =>
                                                                                          ∃ (q32 : Option Addr),
                                                                                            ∃ (n33 : Nat),
                                                                                              ∃ (n34 : Nat),
                                                                                                w29.drew.cell? (a31.add (4097 : Nat)) = some (Value.slice q32 n33 n34) ∧
                                                                                                  SX.Ptr p0 fun (a35 : Addr) =>
                                                                                                    ((0 : Int) ≤ i30 ∧ i30 < (↑(4096 : Nat) : Int)) ∧
                                                                                                      ∃ (i36 : Int),
                                                                                                        w29.drew.cell? ((a35.add (1 : Nat)).add (i30.toNat * (1 : Nat))) = some (Value.int IntKind.i64 i36) ∧
                                                                                                          (w29.drew.alloc (Obj.cells #[Value.int IntKind.i64 i36] (3 : Nat))).cell? (a31.add (4097 : Nat)) =
                                                                                                              some (Value.slice q32 n33 n34) ∧
                                                                                                            Runs Try.prog
                                                                                                              (Builtin.append_ #[(26 : Nat), (26 : Nat)] (26 : Nat)
                                                                                                                #[Value.slice q32 n33 n34,
                                                                                                                  Value.slice (some { block := w29.drew.heap.size, off := (0 : Nat) }) (1 : Nat) (1 : Nat)])
                                                                                                              (w29.drew.alloc (Obj.cells #[Value.int IntKind.i64 i36] (3 : Nat))) fun (v37 : Value) (w38 : World) =>
                                                                                                              ∃ (q39 : Option Addr),
                                                                                                                ∃ (n40 : Nat),
                                                                                                                  ∃ (n41 : Nat),
                                                                                                                    v37 = Value.slice q39 n40 n41 ∧
                                                                                                                      Keeps (w29.drew.alloc (Obj.cells #[Value.int IntKind.i64 i36] (3 : Nat))) w38 [] ∧
                                                                                                                        SX.Ptr p0 fun (a42 : Addr) =>
                                                                                                                          (∃ (v43 : Value), w38.cell? ((a42.add (4097 : Nat)).add (0 : Nat)) = some v43) ∧
                                                                                                                            w38.frozen? ((a42.add (4097 : Nat)).add (0 : Nat)) = false ∧
                                                                                                                              Wr IntKind.i64 (i6 + (1 : Int)) fun (i44 : Int) =>
                                                                                                                                SX.Ptr p0 fun (a45 : Addr) =>
                                                                                                                                  ((0 : Int) ≤ i30 ∧ i30 < (↑(4096 : Nat) : Int)) ∧
                                                                                                                                    (∃ (v46 : Value),
                                                                                                                                        (w38.setCell ((a42.add (4097 : Nat)).add (0 : Nat)) (Value.slice q39 n40 n41)).cell?
                                                                                                                                            (((a45.add (1 : Nat)).add (i30.toNat * (1 : Nat))).add (0 : Nat)) =
                                                                                                                                          some v46) ∧
                                                                                                                                      (w38.setCell ((a42.add (4097 : Nat)).add (0 : Nat)) (Value.slice q39 n40 n41)).frozen?
                                                                                                                                            (((a45.add (1 : Nat)).add (i30.toNat * (1 : Nat))).add (0 : Nat)) =
                                                                                                                                          false ∧
                                                                                                                                        Wr IntKind.i64 (i6 + (1 : Int)) fun (i47 : Int) =>
                                                                                                                                          I4 i47
                                                                                                                                              ((w38.setCell ((a42.add (4097 : Nat)).add (0 : Nat))
                                                                                                                                                    (Value.slice q39 n40 n41)).setCell
                                                                                                                                                (((a45.add (1 : Nat)).add (i30.toNat * (1 : Nat))).add (0 : Nat))
                                                                                                                                                (Value.int IntKind.i64 i44)) ∧
                                                                                                                                            I5 i47
                                                                                                                                                ((w38.setCell ((a42.add (4097 : Nat)).add (0 : Nat))
                                                                                                                                                      (Value.slice q39 n40 n41)).setCell
                                                                                                                                                  (((a45.add (1 : Nat)).add (i30.toNat * (1 : Nat))).add (0 : Nat))
                                                                                                                                                  (Value.int IntKind.i64 i44)) <
                                                                                                                                              I5 i6 w7
                    else R (Ending.returned (Value.tuple #[])) w7
theorem vcTry54 (p0 : Option Addr) (p1 : Int) (w : World) (R : Ending → World → Prop) : SX.vcFn Try.prog [(1, ⟨[(4, .int .i64)], [0, 1], []⟩)] Try.f54 [.v (.pointer p0), .v (.int .i64 p1)] [] w R = VCTry54 p0 p1 w R := by kernel_rfl
def VCTry37 (p0 : Option Addr) (p1 : Int) (w : World) (R : Ending → World → Prop) : Prop :=
Rets Try.prog (48 : Nat) #[Value.pointer p0, Value.int IntKind.i64 p1] w fun (v0 : Value) (w1 : World) =>
  ∃ (t2 : Bool),
    v0 = Value.bool t2 ∧
      Keeps w w1 [] ∧
        bif !t2 then R (Ending.returned (Value.tuple #[Value.int IntKind.i64 (0 : Int), Value.bool false])) w1
        else
          Rets Try.prog (54 : Nat) #[Value.pointer p0, Value.int IntKind.i64 p1] w1 fun (v3 : Value) (w4 : World) =>
            v3 = Value.tuple #[] ∧
              Keeps w1 w4 [] ∧
                SX.Ptr p0 fun (a5 : Addr) =>
                  ∃ (q6 : Option Addr),
                    ∃ (n7 : Nat),
                      ∃ (n8 : Nat),
                        w4.cell? (a5.add (4097 : Nat)) = some (Value.slice q6 n7 n8) ∧
                          ((0 : Int) ≤ p1 ∧ p1 < (↑n7 : Int)) ∧
                            SX.Ptr q6 fun (a9 : Addr) =>
                              ∃ (i10 : Int),
                                w4.cell? (a9.add (p1.toNat * (1 : Nat))) = some (Value.int IntKind.i64 i10) ∧
                                  bif i10 == (0 : Int) then R (Ending.returned (Value.tuple #[Value.int IntKind.i64 (0 : Int), Value.bool false])) w4
                                  else
                                    SX.Ptr p0 fun (a11 : Addr) =>
                                      ∃ (q12 : Option Addr),
                                        ∃ (n13 : Nat),
                                          ∃ (n14 : Nat),
                                            w4.cell? (a11.add (4097 : Nat)) = some (Value.slice q12 n13 n14) ∧
                                              ((0 : Int) ≤ p1 ∧ p1 < (↑n13 : Int)) ∧
                                                SX.Ptr q12 fun (a15 : Addr) =>
                                                  ∃ (i16 : Int),
                                                    w4.cell? (a15.add (p1.toNat * (1 : Nat))) = some (Value.int IntKind.i64 i16) ∧
                                                      Wr IntKind.i64 (i16 - (1 : Int)) fun (i17 : Int) => R (Ending.returned (Value.tuple #[Value.int IntKind.i64 i17, Value.bool true])) w4
theorem vcTry37 (p0 : Option Addr) (p1 : Int) (w : World) (R : Ending → World → Prop) : SX.vcFn Try.prog [] Try.f37 [.v (.pointer p0), .v (.int .i64 p1)] [] w R = VCTry37 p0 p1 w R := by kernel_rfl
def VCTry49 (p0 : Option Addr) (p1 : Int) (p2 : Int) (w : World) (R : Ending → World → Prop) : Prop :=
SX.Ptr p0 fun (a0 : Addr) =>
  ∃ (q1 : Option Addr),
    ∃ (n2 : Nat),
      ∃ (n3 : Nat),
        w.drew.cell? (a0.add (0 : Nat)) = some (Value.slice q1 n2 n3) ∧
          Wr IntKind.i64 (p1 + (3 : Int)) fun (i4 : Int) =>
            ((0 : Int) ≤ i4 ∧ i4 ≤ (↑n3 : Int)) ∧
              ((0 : Int) ≤ p1 ∧ p1 ≤ (↑i4.toNat : Int)) ∧
                ∃ (s5 : ByteArray),
                  s5.size = i4.toNat - p1.toNat ∧
                    BytesAt w.drew (cutA q1 n3 p1.toNat (1 : Nat)) s5 ∧
                      SX.Ptr p0 fun (a6 : Addr) =>
                        ∃ (q7 : Option Addr),
                          ∃ (n8 : Nat),
                            ∃ (n9 : Nat),
                              w.drew.cell? (a6.add (0 : Nat)) = some (Value.slice q7 n8 n9) ∧
                                Wr IntKind.i64 (p2 + (3 : Int)) fun (i10 : Int) =>
                                  ((0 : Int) ≤ i10 ∧ i10 ≤ (↑n9 : Int)) ∧
                                    ((0 : Int) ≤ p2 ∧ p2 ≤ (↑i10.toNat : Int)) ∧
                                      ∃ (s11 : ByteArray), s11.size = i10.toNat - p2.toNat ∧ BytesAt w.drew (cutA q7 n9 p2.toNat (1 : Nat)) s11 ∧ R (Ending.returned (Value.bool (s5.toList == s11.toList))) w.drew
theorem vcTry49 (p0 : Option Addr) (p1 : Int) (p2 : Int) (w : World) (R : Ending → World → Prop) : SX.vcFn Try.prog [] Try.f49 [.v (.pointer p0), .v (.int .i64 p1), .v (.int .i64 p2)] [] w R = VCTry49 p0 p1 p2 w R := by kernel_rfl
def VCTry20 (p0 : Option Addr) (p1 : Int) (p2 : Int) (w : World) (R : Ending → World → Prop) : Prop :=
Rets Try.prog (48 : Nat) #[Value.pointer p0, Value.int IntKind.i64 p1] w fun (v0 : Value) (w1 : World) =>
  ∃ (t2 : Bool),
    v0 = Value.bool t2 ∧
      Keeps w w1 [] ∧
        bif !t2 then R (Ending.returned (Value.tuple #[Value.int IntKind.i64 (0 : Int), Value.int IntKind.i64 (0 : Int)])) w1
        else
          bif decide (p2 < (1 : Int)) then R (Ending.returned (Value.tuple #[Value.int IntKind.i64 (0 : Int), Value.int IntKind.i64 (0 : Int)])) w1
          else
            Rets Try.prog (37 : Nat) #[Value.pointer p0, Value.int IntKind.i64 p1] w1 fun (v3 : Value) (w4 : World) =>
              ∃ (i5 : Int),
                ∃ (t6 : Bool),
                  v3 = Value.tuple #[Value.int IntKind.i64 i5, Value.bool t6] ∧
                    Keeps w1 w4 [] ∧
                      ∃ (I7 : Int → Int → Int → Int → Bool → World → Prop),
                        ∃ (I8 : Int → Int → Int → Int → Bool → World → Nat),
                          I7 i5 (0 : Int) (0 : Int) p2 t6 w4 ∧
                            ∀ (i9 i10 i11 i12 : Int) (t13 : Bool) (w14 : World),
                              I7 i9 i10 i11 i12 t13 w14 →
                                bif t13 then
                                  Wr IntKind.i64 (p1 - i9) fun (i15 : Int) =>
                                    bif decide (i15 ≤ (32768 : Int)) then
                                      Rets Try.prog (49 : Nat) #[Value.pointer p0, Value.int IntKind.i64 p1, Value.int IntKind.i64 i9] w14 fun (v16 : Value) (w17 : World) =>
                                        ∃ (t18 : Bool),
                                          v16 = Value.bool t18 ∧
                                            Keeps w14 w17 [] ∧
                                              bif !t18 then
                                                Rets Try.prog (37 : Nat) #[Value.pointer p0, Value.int IntKind.i64 i9] w17 fun (v19 : Value) (w20 : World) =>
                                                  ∃ (i21 : Int),
                                                    ∃ (t22 : Bool),
                                                      v19 = Value.tuple #[Value.int IntKind.i64 i21, Value.bool t22] ∧
                                                        Keeps w17 w20 [] ∧ I7 i21 i10 i11 i12 t22 w20 ∧ I8 i21 i10 i11 i12 t22 w20 < I8 i9 i10 i11 i12 t13 w14
                                              else
                                                SX.Ptr p0 fun (a23 : Addr) =>
                                                  ∃ (q24 : Option Addr),
                                                    ∃ (n25 : Nat),
                                                      ∃ (n26 : Nat),
                                                        w17.cell? (a23.add (0 : Nat)) = some (Value.slice q24 n25 n26) ∧
                                                          Wr IntKind.i64 (p1 - i9) fun (i27 : Int) =>
                                                            Rets Try.prog (23 : Nat) #[Value.slice q24 n25 n26, Value.int IntKind.i64 p1, Value.int IntKind.i64 i27] w17 fun (v28 : Value) (w29 : World) =>
                                                              ∃ (i30 : Int),
                                                                v28 = Value.int IntKind.i64 i30 ∧
                                                                  Keeps w17 w29 [] ∧
                                                                    bif decide (i30 > i11) then
                                                                      Wr IntKind.i64 (p1 - i9) fun (i31 : Int) =>
                                                                        Wr IntKind.i64 (i12 - (1 : Int)) fun (i32 : Int) =>
                                                                          bif i32 == (0 : Int) then R (Ending.returned (Value.tuple #[Value.int IntKind.i64 i30, Value.int IntKind.i64 i31])) w29
                                                                          else
                                                                            bif i30 == (258 : Int) then R (Ending.returned (Value.tuple #[Value.int IntKind.i64 i30, Value.int IntKind.i64 i31])) w29
                                                                            else
                                                                              Rets Try.prog (37 : Nat) #[Value.pointer p0, Value.int IntKind.i64 i9] w29 fun (v33 : Value) (w34 : World) =>
                                                                                ∃ (i35 : Int),
                                                                                  ∃ (t36 : Bool),
                                                                                    v33 = Value.tuple #[Value.int IntKind.i64 i35, Value.bool t36] ∧
                                                                                      Keeps w29 w34 [] ∧ I7 i35 i31 i30 i32 t36 w34 ∧ I8 i35 i31 i30 i32 t36 w34 < I8 i9 i10 i11 i12 t13 w14
                                                                    else
                                                                      Wr IntKind.i64 (i12 - (1 : Int)) fun (i37 : Int) =>
                                                                        bif i37 == (0 : Int) then R (Ending.returned (Value.tuple #[Value.int IntKind.i64 i11, Value.int IntKind.i64 i10])) w29
                                                                        else
                                                                          bif i11 == (258 : Int) then R (Ending.returned (Value.tuple #[Value.int IntKind.i64 i11, Value.int IntKind.i64 i10])) w29
                                                                          else
                                                                            Rets Try.prog (37 : Nat) #[Value.pointer p0, Value.int IntKind.i64 i9] w29 fun (v38 : Value) (w39 : World) =>
                                                                              ∃ (i40 : Int),
                                                                                ∃ (t41 : Bool),
                                                                                  v38 = Value.tuple #[Value.int IntKind.i64 i40, Value.bool t41] ∧
                                                                                    Keeps w29 w39 [] ∧ I7 i40 i10 i11 i37 t41 w39 ∧ I8 i40 i10 i11 i37 t41 w39 < I8 i9 i10 i11 i12 t13 w14
                                    else R (Ending.returned (Value.tuple #[Value.int IntKind.i64 i11, Value.int IntKind.i64 i10])) w14
                                else R (Ending.returned (Value.tuple #[Value.int IntKind.i64 i11, Value.int IntKind.i64 i10])) w14
theorem vcTry20 (p0 : Option Addr) (p1 : Int) (p2 : Int) (w : World) (R : Ending → World → Prop) : SX.vcFn Try.prog [(4, ⟨[(8, .int .i64), (7, .int .i64), (6, .int .i64), (2, .int .i64), (9, .bool)], [0, 1], []⟩)] Try.f20 [.v (.pointer p0), .v (.int .i64 p1), .v (.int .i64 p2)] [] w R = VCTry20 p0 p1 p2 w R := by kernel_rfl
def VCTry19 (p0 : Option Addr) (n0 c0 : Nat) (w : World) (R : Ending → World → Prop) : Prop :=
Runs Try.prog (Instr.build (67 : Nat) #[((0 : Nat), Value.slice p0 n0 c0)]) w fun (v0 : Value) (w1 : World) =>
  ∃ (x2 : Array Value), v0 = Value.agg x2 ∧ Keeps w w1 [] ∧ R (Ending.returned (Value.pointer (some { block := w1.heap.size, off := (0 : Nat) }))) (w1.alloc (Obj.cells x2 (67 : Nat)))
theorem vcTry19 (p0 : Option Addr) (n0 c0 : Nat) (w : World) (R : Ending → World → Prop) : SX.vcFn Try.prog [] Try.f19 [.v (.slice p0 n0 c0)] [] w R = VCTry19 p0 n0 c0 w R := by kernel_rfl
def VCTry21 (p0 : Option Addr) (n0 c0 : Nat) (p1 : Int) (p2 : Int) (w : World) (R : Ending → World → Prop) : Prop :=
bif decide (p1 < (0 : Int)) then R (Ending.returned (Value.tuple #[Value.int IntKind.i64 (0 : Int), Value.int IntKind.i64 (0 : Int)])) w
else
  bif decide (p1 ≥ (↑n0 : Int)) then R (Ending.returned (Value.tuple #[Value.int IntKind.i64 (0 : Int), Value.int IntKind.i64 (0 : Int)])) w
  else
    ∃ (I0 : Int → Int → Int → Int → World → Prop),
      ∃ (I1 : Int → Int → Int → Int → World → Nat),
        I0 (1 : Int) p2 (0 : Int) (0 : Int) w ∧
          ∀ (i2 i3 i4 i5 : Int) (w6 : World),
            I0 i2 i3 i4 i5 w6 →
              bif decide (i2 ≤ p1) then
                bif decide (i2 ≤ (32768 : Int)) then
                  bif decide (i3 > (0 : Int)) then
                    Rets Try.prog (24 : Nat) #[Value.slice p0 n0 c0, Value.int IntKind.i64 p1, Value.int IntKind.i64 i2] w6 fun (v7 : Value) (w8 : World) =>
                      ∃ (i9 : Int),
                        v7 = Value.int IntKind.i64 i9 ∧
                          Keeps w6 w8 [] ∧
                            bif decide (i9 < (3 : Int)) then Wr IntKind.i64 (i2 + (1 : Int)) fun (i10 : Int) => I0 i10 i3 i4 i5 w8 ∧ I1 i10 i3 i4 i5 w8 < I1 i2 i3 i4 i5 w6
                            else
                              Wr IntKind.i64 (i3 - (1 : Int)) fun (i11 : Int) =>
                                bif decide (i9 > i4) then Wr IntKind.i64 (i2 + (1 : Int)) fun (i12 : Int) => I0 i12 i11 i9 i2 w8 ∧ I1 i12 i11 i9 i2 w8 < I1 i2 i3 i4 i5 w6
                                else Wr IntKind.i64 (i2 + (1 : Int)) fun (i13 : Int) => I0 i13 i11 i4 i5 w8 ∧ I1 i13 i11 i4 i5 w8 < I1 i2 i3 i4 i5 w6
                  else R (Ending.returned (Value.tuple #[Value.int IntKind.i64 i4, Value.int IntKind.i64 i5])) w6
                else R (Ending.returned (Value.tuple #[Value.int IntKind.i64 i4, Value.int IntKind.i64 i5])) w6
              else R (Ending.returned (Value.tuple #[Value.int IntKind.i64 i4, Value.int IntKind.i64 i5])) w6
theorem vcTry21 (p0 : Option Addr) (n0 c0 : Nat) (p1 : Int) (p2 : Int) (w : World) (R : Ending → World → Prop) : SX.vcFn Try.prog [(5, ⟨[(10, .int .i64), (2, .int .i64), (8, .int .i64), (9, .int .i64)], [1, 0], []⟩)] Try.f21 [.v (.slice p0 n0 c0), .v (.int .i64 p1), .v (.int .i64 p2)] [] w R = VCTry21 p0 n0 c0 p1 p2 w R := by kernel_rfl
def VCTry18 (w : World) (R : Ending → World → Prop) : Prop :=
Runs Try.prog (convert (25 : Nat) (25 : Nat) (Value.slice (some { block := w.heap.size, off := (0 : Nat) }) (6 : Nat) (6 : Nat)))
  (w.alloc
    (Obj.cells #[Value.int IntKind.u8 (97 : Int), Value.int IntKind.u8 (98 : Int), Value.int IntKind.u8 (99 : Int), Value.int IntKind.u8 (97 : Int), Value.int IntKind.u8 (98 : Int), Value.int IntKind.u8 (99 : Int)]
      (5 : Nat)))
  fun (v0 : Value) (w1 : World) =>
  ∃ (q2 : Option Addr),
    ∃ (n3 : Nat),
      ∃ (n4 : Nat),
        v0 = Value.slice q2 n3 n4 ∧
          Keeps
              (w.alloc
                (Obj.cells
                  #[Value.int IntKind.u8 (97 : Int), Value.int IntKind.u8 (98 : Int), Value.int IntKind.u8 (99 : Int), Value.int IntKind.u8 (97 : Int), Value.int IntKind.u8 (98 : Int), Value.int IntKind.u8 (99 : Int)]
                  (5 : Nat)))
              w1 [] ∧
            Rets Try.prog (19 : Nat) #[Value.slice q2 n3 n4] w1 fun (v5 : Value) (w6 : World) =>
              ∃ (q7 : Option Addr),
                v5 = Value.pointer q7 ∧
                  Keeps w1 w6 [] ∧
                    Rets Try.prog (37 : Nat) #[Value.pointer q7, Value.int IntKind.i64 (3 : Int)] w6 fun (v8 : Value) (w9 : World) =>
                      ∃ (i10 : Int),
                        ∃ (t11 : Bool),
                          v8 = Value.tuple #[Value.int IntKind.i64 i10, Value.bool t11] ∧
                            Keeps w6 w9 [] ∧
                              Rets Try.prog (20 : Nat) #[Value.pointer q7, Value.int IntKind.i64 (3 : Int), Value.int IntKind.i64 (1 : Int)] w9 fun (v12 : Value) (w13 : World) =>
                                ∃ (i14 : Int),
                                  ∃ (i15 : Int),
                                    v12 = Value.tuple #[Value.int IntKind.i64 i14, Value.int IntKind.i64 i15] ∧
                                      Keeps w9 w13 [] ∧
                                        bif t11 then
                                          bif i10 == (0 : Int) then bif i14 == (3 : Int) then R (Ending.returned (Value.bool (i15 == (3 : Int)))) w13 else R (Ending.returned (Value.bool false)) w13
                                          else R (Ending.returned (Value.bool false)) w13
                                        else R (Ending.returned (Value.bool false)) w13
theorem vcTry18 (w : World) (R : Ending → World → Prop) : SX.vcFn Try.prog [] Try.f18 [] [] w R = VCTry18  w R := by kernel_rfl
def VCTry3 (p0 : Int) (p1 : Int) (p2 : Int) (w : World) (R : Ending → World → Prop) : Prop :=
Rets Try.prog (16 : Nat) #[Value.int IntKind.u8 p0, Value.int IntKind.u8 p1, Value.int IntKind.u8 p2] w fun (v0 : Value) (w1 : World) =>
  ∃ (i2 : Int),
    v0 = Value.int IntKind.i64 i2 ∧
      Keeps w w1 [] ∧
        Rets Try.prog (17 : Nat) #[Value.int IntKind.u8 p0, Value.int IntKind.u8 p1, Value.int IntKind.u8 p2] w1 fun (v3 : Value) (w4 : World) =>
          ∃ (i5 : Int),
            v3 = Value.int IntKind.i64 i5 ∧
              Keeps w1 w4 [] ∧
                bif i2 == i5 then Rets Try.prog (18 : Nat) #[] w4 fun (v6 : Value) (w7 : World) => ∃ (t8 : Bool), v6 = Value.bool t8 ∧ Keeps w4 w7 [] ∧ R (Ending.returned (Value.bool t8)) w7
                else R (Ending.returned (Value.bool false)) w4
theorem vcTry3 (p0 : Int) (p1 : Int) (p2 : Int) (w : World) (R : Ending → World → Prop) : SX.vcFn Try.prog [] Try.f3 [.v (.int .u8 p0), .v (.int .u8 p1), .v (.int .u8 p2)] [] w R = VCTry3 p0 p1 p2 w R := by kernel_rfl
def VCTry4 (p0 : Option Addr) (n0 c0 : Nat) (p1 : Option Addr) (n1 c1 : Nat) (p2 : Int) (w : World) (R : Ending → World → Prop) : Prop :=
bif decide ((↑n0 : Int) > (500 : Int)) then Rets Try.prog (18 : Nat) #[] w fun (v0 : Value) (w1 : World) => ∃ (t2 : Bool), v0 = Value.bool t2 ∧ Keeps w w1 [] ∧ R (Ending.returned (Value.bool t2)) w1
else
  bif decide ((↑n1 : Int) > (20 : Int)) then Rets Try.prog (18 : Nat) #[] w fun (v3 : Value) (w4 : World) => ∃ (t5 : Bool), v3 = Value.bool t5 ∧ Keeps w w4 [] ∧ R (Ending.returned (Value.bool t5)) w4
  else
    Rets Try.prog (19 : Nat) #[Value.slice p0 n0 c0] w fun (v6 : Value) (w7 : World) =>
      ∃ (q8 : Option Addr),
        v6 = Value.pointer q8 ∧
          Keeps w w7 [] ∧
            ∃ (I9 : Int → World → Prop),
              ∃ (I10 : Int → World → Nat),
                I9 (0 : Int) w7 ∧
                  ∀ (i11 : Int) (w12 : World),
                    I9 i11 w12 →
                      bif decide (i11 < (↑n1 : Int)) then
                        ((0 : Int) ≤ i11 ∧ i11 < (↑n1 : Int)) ∧
                          SX.Ptr p1 fun (a13 : Addr) =>
                            ∃ (i14 : Int),
                              w12.cell? (a13.add (i11.toNat * (1 : Nat))) = some (Value.int IntKind.i64 i14) ∧
                                Rets Try.prog (20 : Nat) #[Value.pointer q8, Value.int IntKind.i64 i14, Value.int IntKind.i64 p2] w12 fun (v15 : Value) (w16 : World) =>
                                  ∃ (i17 : Int),
                                    ∃ (i18 : Int),
                                      v15 = Value.tuple #[Value.int IntKind.i64 i17, Value.int IntKind.i64 i18] ∧
                                        Keeps w12 w16 [] ∧
                                          ((0 : Int) ≤ i11 ∧ i11 < (↑n1 : Int)) ∧
                                            SX.Ptr p1 fun (a19 : Addr) =>
                                              ∃ (i20 : Int),
                                                w16.cell? (a19.add (i11.toNat * (1 : Nat))) = some (Value.int IntKind.i64 i20) ∧
                                                  Rets Try.prog (21 : Nat) #[Value.slice p0 n0 c0, Value.int IntKind.i64 i20, Value.int IntKind.i64 p2] w16 fun (v21 : Value) (w22 : World) =>
                                                    ∃ (i23 : Int),
                                                      ∃ (i24 : Int),
                                                        v21 = Value.tuple #[Value.int IntKind.i64 i23, Value.int IntKind.i64 i24] ∧
                                                          Keeps w16 w22 [] ∧
                                                            bif i17 != i23 then R (Ending.returned (Value.bool false)) w22
                                                            else
                                                              bif i18 != i24 then R (Ending.returned (Value.bool false)) w22 else Wr IntKind.i64 (i11 + (1 : Int)) fun (i25 : Int) => I9 i25 w22 ∧ I10 i25 w22 < I10 i11 w12
                      else Rets Try.prog (18 : Nat) #[] w12 fun (v26 : Value) (w27 : World) => ∃ (t28 : Bool), v26 = Value.bool t28 ∧ Keeps w12 w27 [] ∧ R (Ending.returned (Value.bool t28)) w27
theorem vcTry4 (p0 : Option Addr) (n0 c0 : Nat) (p1 : Option Addr) (n1 c1 : Nat) (p2 : Int) (w : World) (R : Ending → World → Prop) : SX.vcFn Try.prog [(5, ⟨[(8, .int .i64)], [2, 1, 0, 7], []⟩)] Try.f4 [.v (.slice p0 n0 c0), .v (.slice p1 n1 c1), .v (.int .i64 p2)] [] w R = VCTry4 p0 n0 c0 p1 n1 c1 p2 w R := by kernel_rfl
def VCTry5 (p0 : Option Addr) (n0 c0 : Nat) (p1 : Int) (p2 : Int) (w : World) (R : Ending → World → Prop) : Prop :=
bif decide ((↑n0 : Int) > (3000 : Int)) then Rets Try.prog (22 : Nat) #[] w fun (v0 : Value) (w1 : World) => ∃ (t2 : Bool), v0 = Value.bool t2 ∧ Keeps w w1 [] ∧ R (Ending.returned (Value.bool t2)) w1
else
  Rets Try.prog (23 : Nat) #[Value.slice p0 n0 c0, Value.int IntKind.i64 p1, Value.int IntKind.i64 p2] w fun (v3 : Value) (w4 : World) =>
    ∃ (i5 : Int),
      v3 = Value.int IntKind.i64 i5 ∧
        Keeps w w4 [] ∧
          Rets Try.prog (24 : Nat) #[Value.slice p0 n0 c0, Value.int IntKind.i64 p1, Value.int IntKind.i64 p2] w4 fun (v6 : Value) (w7 : World) =>
            ∃ (i8 : Int),
              v6 = Value.int IntKind.i64 i8 ∧
                Keeps w4 w7 [] ∧
                  bif i5 == i8 then Rets Try.prog (22 : Nat) #[] w7 fun (v9 : Value) (w10 : World) => ∃ (t11 : Bool), v9 = Value.bool t11 ∧ Keeps w7 w10 [] ∧ R (Ending.returned (Value.bool t11)) w10
                  else R (Ending.returned (Value.bool false)) w7
theorem vcTry5 (p0 : Option Addr) (n0 c0 : Nat) (p1 : Int) (p2 : Int) (w : World) (R : Ending → World → Prop) : SX.vcFn Try.prog [] Try.f5 [.v (.slice p0 n0 c0), .v (.int .i64 p1), .v (.int .i64 p2)] [] w R = VCTry5 p0 n0 c0 p1 p2 w R := by kernel_rfl
end Go.Proofs.Ytodgnegbaigdbaa
