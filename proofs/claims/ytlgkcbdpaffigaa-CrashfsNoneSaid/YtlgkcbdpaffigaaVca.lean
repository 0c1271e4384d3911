/- The conditions of functions, as the executor computes them: each is equal to what 'vcFn' says. -/
import Derived.Test.YtlgkcbdpaffigaaSxLib
import Derived.Test.YtlgkcbdpaffigaaProg
namespace Go.Proofs.Ytlgkcbdpaffigaa
open Go Go.SX Go.Proofs
set_option maxRecDepth 100000
set_option linter.unusedVariables false
def VCTry12 (p0 : Option Addr) (n0 c0 : Nat) (w : World) (R : Ending → World → Prop) : Prop :=
bif decide ((↑n0 : Int) > (40 : Int)) then R (Ending.returned (Value.bool false)) w
else
 ∃ (I0 : Int → World → Prop),
  ∃ (I1 : Int → World → Nat),
   I0 (0 : Int) w ∧
    ∀ (i2 : Int) (w3 : World),
     I0 i2 w3 →
      bif decide (i2 < (↑n0 : Int)) then
       ((0 : Int) ≤ i2 ∧ i2 < (↑n0 : Int)) ∧
        SX.Ptr p0 fun (a4 : Addr) =>
         ∃ (q5 : Option Addr),
          ∃ (n6 : Nat),
           ∃ (n7 : Nat),
            w3.cell? ((a4.add (i2.toNat * (5 : Nat))).add (2 : Nat)) = some (Value.slice q5 n6 n7) ∧
             bif decide ((↑n6 : Int) > (3000 : Int)) then R (Ending.returned (Value.bool false)) w3
             else
              ((0 : Int) ≤ i2 ∧ i2 < (↑n0 : Int)) ∧
               SX.Ptr p0 fun (a8 : Addr) =>
                ∃ (i9 : Int),
                 w3.cell? ((a8.add (i2.toNat * (5 : Nat))).add (1 : Nat)) = some (Value.int IntKind.i64 i9) ∧
                  bif decide (i9 > (20000 : Int)) then
                   ((0 : Int) ≤ i2 ∧ i2 < (↑n0 : Int)) ∧
                    SX.Ptr p0 fun (a10 : Addr) =>
                     ∃ (i11 : Int),
                      w3.cell? ((a10.add (i2.toNat * (5 : Nat))).add (1 : Nat)) = some (Value.int IntKind.i64 i11) ∧
                       bif decide (i11 ≤ (2097152 : Int)) then R (Ending.returned (Value.bool false)) w3 else Wr IntKind.i64 (i2 + (1 : Int)) fun (i12 : Int) => I0 i12 w3 ∧ I1 i12 w3 < I1 i2 w3
                  else Wr IntKind.i64 (i2 + (1 : Int)) fun (i13 : Int) => I0 i13 w3 ∧ I1 i13 w3 < I1 i2 w3
      else R (Ending.returned (Value.bool true)) w3
theorem vcTry12 (p0 : Option Addr) (n0 c0 : Nat) (w : World) (R : Ending → World → Prop) : SX.vcFn Try.prog [(4, ⟨[(3, .int .i64)], [0], []⟩)] Try.f12 [.v (.slice p0 n0 c0)] [] w R = VCTry12 p0 n0 c0 w R := by kernel_rfl
def VCTry15 (p0 : Option Addr) (p1 : Option Addr) (w : World) (R : Ending → World → Prop) : Prop :=
SX.Ptr p1 fun (a0 : Addr) =>
 ∃ (q1 : Option Addr),
  ∃ (n2 : Nat),
   ∃ (n3 : Nat),
    w.cell? (a0.add (0 : Nat)) = some (Value.slice q1 n2 n3) ∧
     Wr IntKind.i64 ((512 : Int) * (↑n2 : Int)) fun (i4 : Int) =>
      Rets Try.prog (17 : Nat) #[Value.pointer p0, Value.int IntKind.i64 (0 : Int), Value.int IntKind.i64 i4] w fun (v5 : Value) (w6 : World) =>
       ∃ (q7 : Option Addr),
        ∃ (n8 : Nat),
         ∃ (n9 : Nat),
          ∃ (i10 : Int),
           v5 = Value.tuple #[Value.slice q7 n8 n9, Value.int IntKind.i64 i10] ∧
            Keeps w w6 [] ∧
             bif i10 == (0 : Int) then
              SX.Ptr p1 fun (a11 : Addr) =>
               ∃ (q12 : Option Addr),
                ∃ (n13 : Nat),
                 ∃ (n14 : Nat),
                  w6.drew.cell? (a11.add (0 : Nat)) = some (Value.slice q12 n13 n14) ∧
                   Rets Try.prog (18 : Nat) #[Value.pointer p0] w6.drew fun (v15 : Value) (w16 : World) =>
                    ∃ (i17 : Int),
                     v15 = Value.int IntKind.i64 i17 ∧
                      Keeps w6.drew w16 [] ∧
                       w16.cell? (a11.add (0 : Nat)) = some (Value.slice q12 n13 n14) ∧
                        bif i17 == (↑n13 : Int) then
                         SX.Ptr p1 fun (a18 : Addr) =>
                          ∃ (q19 : Option Addr),
                           ∃ (n20 : Nat),
                            ∃ (n21 : Nat),
                             w16.cell? (a18.add (3 : Nat)) = some (Value.slice q19 n20 n21) ∧
                              Rets Try.prog (21 : Nat) #[Value.pointer p0] w16 fun (v22 : Value) (w23 : World) =>
                               ∃ (i24 : Int),
                                v22 = Value.int IntKind.i64 i24 ∧
                                 Keeps w16 w23 [] ∧
                                  w23.cell? (a18.add (3 : Nat)) = some (Value.slice q19 n20 n21) ∧
                                   bif i24 == (↑n20 : Int) then
                                    ∃ (s25 : ByteArray),
                                     s25.size = n8 ∧
                                      BytesAt w23 q7 s25 ∧
                                       SX.Ptr p1 fun (a26 : Addr) =>
                                        ∃ (q27 : Option Addr),
                                         ∃ (n28 : Nat),
                                          ∃ (n29 : Nat),
                                           w23.cell? (a26.add (0 : Nat)) = some (Value.slice q27 n28 n29) ∧
                                            Wr IntKind.i64 ((512 : Int) * (↑n28 : Int)) fun (i30 : Int) =>
                                             Rets Try.prog (61 : Nat) #[Value.pointer p1, Value.int IntKind.i64 (0 : Int), Value.int IntKind.i64 i30] w23
                                              fun (v31 : Value) (w32 : World) =>
                                              ∃ (q33 : Option Addr),
                                               ∃ (n34 : Nat),
                                                ∃ (n35 : Nat),
                                                 v31 = Value.slice q33 n34 n35 ∧
                                                  Keeps w23 w32 [] ∧
                                                   BytesAt w32 q7 s25 ∧
                                                    ∃ (s36 : ByteArray),
                                                     s36.size = n34 ∧ BytesAt w32 q33 s36 ∧ R (Ending.returned (Value.bool (s25.toList == s36.toList))) w32
                                   else R (Ending.returned (Value.bool false)) w23
                        else R (Ending.returned (Value.bool false)) w16
             else R (Ending.returned (Value.bool false)) w6.drew
theorem vcTry15 (p0 : Option Addr) (p1 : Option Addr) (w : World) (R : Ending → World → Prop) : SX.vcFn Try.prog [] Try.f15 [.v (.pointer p0), .v (.pointer p1)] [] w R = VCTry15 p0 p1 w R := by kernel_rfl
def VCTry16 (p0 : Option Addr) (w : World) (R : Ending → World → Prop) : Prop :=
bif p0.isNone then R (Ending.returned (Value.tuple #[])) w
else
 SX.Ptr p0 fun (a0 : Addr) =>
  ∃ (q1 : Option Addr),
   ∃ (n2 : Nat),
    ∃ (n3 : Nat),
     w.cell? (a0.add (1 : Nat)) = some (Value.slice q1 n2 n3) ∧
      ∃ (I4 : Int → World → Prop),
       ∃ (I5 : Int → World → Nat),
        I4 (0 : Int) w ∧
         ∀ (i6 : Int) (w7 : World),
          I4 i6 w7 →
           bif decide (i6 < (↑n2 : Int)) then
            SX.Ptr p0 fun (a8 : Addr) =>
             ∃ (q9 : Option Addr),
              ∃ (n10 : Nat),
               ∃ (n11 : Nat),
                w7.drew.cell? (a8.add (1 : Nat)) = some (Value.slice q9 n10 n11) ∧
                 (Runs Try.prog (Instr.buildSlice (25 : Nat) (0 : Nat) #[]) w7.drew fun (v12 : Value) (w13 : World) =>
                   ∃ (q14 : Option Addr),
                    ∃ (n15 : Nat),
                     ∃ (n16 : Nat),
                      v12 = Value.slice q14 n15 n16 ∧
                       Keeps w7.drew w13 [] ∧
                        w13.cell? (a8.add (1 : Nat)) = some (Value.slice q9 n10 n11) ∧
                         Rets Try.prog (62 : Nat) #[Value.pointer p0, Value.int IntKind.i64 i6] w13 fun (v17 : Value) (w18 : World) =>
                          ∃ (q19 : Option Addr),
                           ∃ (n20 : Nat),
                            ∃ (n21 : Nat),
                             v17 = Value.slice q19 n20 n21 ∧
                              Keeps w13 w18 [] ∧
                               w18.cell? (a8.add (1 : Nat)) = some (Value.slice q9 n10 n11) ∧
                                Runs Try.prog (Builtin.append_ #[(25 : Nat), (25 : Nat)] (25 : Nat) #[Value.slice q14 n15 n16, Value.slice q19 n20 n21]) w18
                                 fun (v22 : Value) (w23 : World) =>
                                 ∃ (q24 : Option Addr),
                                  ∃ (n25 : Nat),
                                   ∃ (n26 : Nat),
                                    v22 = Value.slice q24 n25 n26 ∧
                                     Keeps w18 w23 [] ∧
                                      w23.cell? (a8.add (1 : Nat)) = some (Value.slice q9 n10 n11) ∧
                                       ((0 : Int) ≤ i6 ∧ i6 < (↑n10 : Int)) ∧
                                        SX.Ptr q9 fun (a27 : Addr) =>
                                         (∃ (v28 : Value), w23.cell? ((a27.add (i6.toNat * (1 : Nat))).add (0 : Nat)) = some v28) ∧
                                          w23.frozen? ((a27.add (i6.toNat * (1 : Nat))).add (0 : Nat)) = false ∧
                                           Wr IntKind.i64 (i6 + (1 : Int)) fun (i29 : Int) =>
                                            I4 i29 (w23.setCell ((a27.add (i6.toNat * (1 : Nat))).add (0 : Nat)) (Value.slice q24 n25 n26)) ∧
                                             I5 i29 (w23.setCell ((a27.add (i6.toNat * (1 : Nat))).add (0 : Nat)) (Value.slice q24 n25 n26)) < I5 i6 w7) ∧
                  Rets Try.prog (62 : Nat) #[Value.pointer p0, Value.int IntKind.i64 i6] w7.drew fun (v30 : Value) (w31 : World) =>
                   ∃ (q32 : Option Addr),
                    ∃ (n33 : Nat),
                     ∃ (n34 : Nat),
                      v30 = Value.slice q32 n33 n34 ∧
                       Keeps w7.drew w31 [] ∧
                        w31.cell? (a8.add (1 : Nat)) = some (Value.slice q9 n10 n11) ∧
                         Runs Try.prog (Instr.buildSlice (25 : Nat) (0 : Nat) #[]) w31 fun (v35 : Value) (w36 : World) =>
                          ∃ (q37 : Option Addr),
                           ∃ (n38 : Nat),
                            ∃ (n39 : Nat),
                             v35 = Value.slice q37 n38 n39 ∧
                              Keeps w31 w36 [] ∧
                               w36.cell? (a8.add (1 : Nat)) = some (Value.slice q9 n10 n11) ∧
                                Runs Try.prog (Builtin.append_ #[(25 : Nat), (25 : Nat)] (25 : Nat) #[Value.slice q37 n38 n39, Value.slice q32 n33 n34]) w36
                                 fun (v40 : Value) (w41 : World) =>
                                 ∃ (q42 : Option Addr),
                                  ∃ (n43 : Nat),
                                   ∃ (n44 : Nat),
                                    v40 = Value.slice q42 n43 n44 ∧
                                     Keeps w36 w41 [] ∧
                                      w41.cell? (a8.add (1 : Nat)) = some (Value.slice q9 n10 n11) ∧
                                       ((0 : Int) ≤ i6 ∧ i6 < (↑n10 : Int)) ∧
                                        SX.Ptr q9 fun (a45 : Addr) =>
                                         (∃ (v46 : Value), w41.cell? ((a45.add (i6.toNat * (1 : Nat))).add (0 : Nat)) = some v46) ∧
                                          w41.frozen? ((a45.add (i6.toNat * (1 : Nat))).add (0 : Nat)) = false ∧
                                           Wr IntKind.i64 (i6 + (1 : Int)) fun (i47 : Int) =>
                                            I4 i47 (w41.setCell ((a45.add (i6.toNat * (1 : Nat))).add (0 : Nat)) (Value.slice q42 n43 n44)) ∧
                                             I5 i47 (w41.setCell ((a45.add (i6.toNat * (1 : Nat))).add (0 : Nat)) (Value.slice q42 n43 n44)) < I5 i6 w7
           else
            SX.Ptr p0 fun (a48 : Addr) =>
             (∃ (v49 : Value), w7.cell? ((a48.add (2 : Nat)).add (0 : Nat)) = some v49) ∧
              w7.frozen? ((a48.add (2 : Nat)).add (0 : Nat)) = false ∧ R (Ending.returned (Value.tuple #[])) (w7.setCell ((a48.add (2 : Nat)).add (0 : Nat)) (Value.slice none (0 : Nat) (0 : Nat)))
theorem vcTry16 (p0 : Option Addr) (w : World) (R : Ending → World → Prop) : SX.vcFn Try.prog [(2, ⟨[(10, .int .i64)], [0, 9], []⟩)] Try.f16 [.v (.pointer p0)] [] w R = VCTry16 p0 w R := by kernel_rfl
def VCTry17 (p0 : Option Addr) (p1 : Int) (p2 : Int) (w : World) (R : Ending → World → Prop) : Prop :=
bif p0.isNone then R (Ending.returned (Value.tuple #[Value.slice none (0 : Nat) (0 : Nat), Value.int IntKind.i64 (1 : Int)])) w
else
 Rets Try.prog (63 : Nat) #[Value.int IntKind.i64 p1, Value.int IntKind.i64 p2] w fun (v0 : Value) (w1 : World) =>
  ∃ (t2 : Bool),
   v0 = Value.bool t2 ∧
    Keeps w w1 [] ∧
     bif !t2 then R (Ending.returned (Value.tuple #[Value.slice none (0 : Nat) (0 : Nat), Value.int IntKind.i64 (1 : Int)])) w1
     else
      Runs Try.prog (Instr.makeSlice (25 : Nat) (Value.int IntKind.i64 p2) (Value.int IntKind.i64 p2)) w1 fun (v3 : Value) (w4 : World) =>
       ∃ (q5 : Option Addr),
        ∃ (n6 : Nat),
         ∃ (n7 : Nat),
          v3 = Value.slice q5 n6 n7 ∧
           Keeps w1 w4 [] ∧
            SX.Ptr p0 fun (a8 : Addr) =>
             ∃ (q9 : Option Addr),
              ∃ (n10 : Nat),
               ∃ (n11 : Nat),
                w4.cell? (a8.add (0 : Nat)) = some (Value.slice q9 n10 n11) ∧
                 bif decide (p1 < (↑n10 : Int)) then
                  SX.Ptr p0 fun (a12 : Addr) =>
                   ∃ (q13 : Option Addr),
                    ∃ (n14 : Nat),
                     ∃ (n15 : Nat),
                      w4.cell? (a12.add (0 : Nat)) = some (Value.slice q13 n14 n15) ∧
                       ((0 : Int) ≤ p1 ∧ p1 ≤ (↑n14 : Int)) ∧
                        Runs Try.prog (Builtin.copy_ #[(25 : Nat), (25 : Nat)] (3 : Nat) #[Value.slice q5 n6 n7, Value.slice (cutA q13 n15 p1.toNat (1 : Nat)) (n14 - p1.toNat) (n15 - p1.toNat)])
                         w4 fun (v16 : Value) (w17 : World) =>
                         ∃ (i18 : Int), v16 = Value.int IntKind.i64 i18 ∧ Keeps w4 w17 [] ∧ R (Ending.returned (Value.tuple #[Value.slice q5 n6 n7, Value.int IntKind.i64 (0 : Int)])) w17
                 else R (Ending.returned (Value.tuple #[Value.slice q5 n6 n7, Value.int IntKind.i64 (0 : Int)])) w4
theorem vcTry17 (p0 : Option Addr) (p1 : Int) (p2 : Int) (w : World) (R : Ending → World → Prop) : SX.vcFn Try.prog [] Try.f17 [.v (.pointer p0), .v (.int .i64 p1), .v (.int .i64 p2)] [] w R = VCTry17 p0 p1 p2 w R := by kernel_rfl
def VCTry18 (p0 : Option Addr) (w : World) (R : Ending → World → Prop) : Prop :=
bif p0.isNone then R (Ending.returned (Value.int IntKind.i64 (0 : Int))) w
else
 SX.Ptr p0 fun (a0 : Addr) =>
  ∃ (q1 : Option Addr),
   ∃ (n2 : Nat),
    ∃ (n3 : Nat), w.cell? (a0.add (0 : Nat)) = some (Value.slice q1 n2 n3) ∧ (512 : Int) ≠ (0 : Int) ∧ Wr IntKind.i64 ((↑n2 : Int).tdiv (512 : Int)) fun (i4 : Int) => R (Ending.returned (Value.int IntKind.i64 i4)) w
theorem vcTry18 (p0 : Option Addr) (w : World) (R : Ending → World → Prop) : SX.vcFn Try.prog [] Try.f18 [.v (.pointer p0)] [] w R = VCTry18 p0 w R := by kernel_rfl
def VCTry19 (p0 : Option Addr) (p1 : Option Addr) (n1 c1 : Nat) (p2 : Int) (w : World) (R : Ending → World → Prop) : Prop :=
bif p0.isNone then R (Ending.returned (Value.tuple #[])) w
else
 SX.Ptr p0 fun (a0 : Addr) =>
  ∃ (q1 : Option Addr),
   ∃ (n2 : Nat),
    ∃ (n3 : Nat),
     w.cell? (a0.add (1 : Nat)) = some (Value.slice q1 n2 n3) ∧
      ∃ (I4 : Int → World → Prop),
       ∃ (I5 : Int → World → Nat),
        I4 (0 : Int) w ∧
         ∀ (i6 : Int) (w7 : World),
          I4 i6 w7 →
           bif decide (i6 < (↑n2 : Int)) then
            ((0 : Int) ≤ i6 ∧ i6 < (↑n2 : Int)) ∧
             SX.Ptr q1 fun (a8 : Addr) =>
              ∃ (q9 : Option Addr),
               ∃ (n10 : Nat),
                ∃ (n11 : Nat),
                 w7.cell? (a8.add (i6.toNat * (1 : Nat))) = some (Value.slice q9 n10 n11) ∧
                  bif q9.isNone then
                   Rets Try.prog (62 : Nat) #[Value.pointer p0, Value.int IntKind.i64 i6] w7 fun (v12 : Value) (w13 : World) =>
                    ∃ (q14 : Option Addr),
                     ∃ (n15 : Nat),
                      ∃ (n16 : Nat),
                       v12 = Value.slice q14 n15 n16 ∧
                        Keeps w7 w13 [] ∧
                         Rets Try.prog (64 : Nat) #[Value.slice q14 n15 n16, Value.int IntKind.i64 i6, Value.int IntKind.u8 p2] w13 fun (v17 : Value) (w18 : World) =>
                          v17 = Value.tuple #[] ∧ Keeps w13 w18 [] ∧ Wr IntKind.i64 (i6 + (1 : Int)) fun (i19 : Int) => I4 i19 w18 ∧ I5 i19 w18 < I5 i6 w7
                  else
                   Rets Try.prog (62 : Nat) #[Value.pointer p0, Value.int IntKind.i64 i6] w7 fun (v20 : Value) (w21 : World) =>
                    ∃ (q22 : Option Addr),
                     ∃ (n23 : Nat),
                      ∃ (n24 : Nat),
                       v20 = Value.slice q22 n23 n24 ∧
                        Keeps w7 w21 [] ∧
                         Runs Try.prog (Builtin.copy_ #[(25 : Nat), (25 : Nat)] (3 : Nat) #[Value.slice q22 n23 n24, Value.slice q9 n10 n11]) w21 fun (v25 : Value) (w26 : World) =>
                          ∃ (i27 : Int), v25 = Value.int IntKind.i64 i27 ∧ Keeps w21 w26 [] ∧ Wr IntKind.i64 (i6 + (1 : Int)) fun (i28 : Int) => I4 i28 w26 ∧ I5 i28 w26 < I5 i6 w7
           else
            SX.Ptr p0 fun (a29 : Addr) =>
             ∃ (q30 : Option Addr),
              ∃ (n31 : Nat),
               ∃ (n32 : Nat),
                w7.cell? (a29.add (2 : Nat)) = some (Value.slice q30 n31 n32) ∧
                 ∃ (I33 : Int → World → Prop),
                  ∃ (I34 : Int → World → Nat),
                   I33 (0 : Int) w7 ∧
                    ∀ (i35 : Int) (w36 : World),
                     I33 i35 w36 →
                      bif decide (i35 < (↑n31 : Int)) then
                       ((0 : Int) ≤ i35 ∧ i35 < (↑n31 : Int)) ∧
                        SX.Ptr q30 fun (a37 : Addr) =>
                         ∃ (i38 : Int),
                          ∃ (q39 : Option Addr),
                           ∃ (n40 : Nat),
                            ∃ (n41 : Nat),
                             (w36.cell? ((a37.add (i35.toNat * (2 : Nat))).add (0 : Nat)) = some (Value.int IntKind.i64 i38) ∧
                               w36.cell? ((a37.add (i35.toNat * (2 : Nat))).add (1 : Nat)) = some (Value.slice q39 n40 n41) ∧ True) ∧
                              bif decide (i35 < (↑n1 : Int)) then
                               ((0 : Int) ≤ i35 ∧ i35 < (↑n1 : Int)) ∧
                                SX.Ptr p1 fun (a42 : Addr) =>
                                 ∃ (t43 : Bool),
                                  (((w36.alloc (Obj.cells #[Value.int IntKind.i64 (0 : Int), Value.slice none (0 : Nat) (0 : Nat)] (118 : Nat))).setCell
                                         {block := w36.heap.size, off := (0 : Nat) } (Value.int IntKind.i64 i38)).setCell
                                       {block := w36.heap.size, off := (1 : Nat) } (Value.slice q39 n40 n41)).cell?
                                     (a42.add (i35.toNat * (1 : Nat))) =
                                    some (Value.bool t43) ∧
                                   bif t43 then
                                    Known
                                      (((w36.alloc (Obj.cells #[Value.int IntKind.i64 (0 : Int), Value.slice none (0 : Nat) (0 : Nat)] (118 : Nat))).setCell
                                          {block := w36.heap.size, off := (0 : Nat) } (Value.int IntKind.i64 i38)).setCell
                                        {block := w36.heap.size, off := (1 : Nat) } (Value.slice q39 n40 n41)).drew
                                      [(w36.heap.size, [((0 : Nat), Value.int IntKind.i64 i38), ((1 : Nat), Value.slice q39 n40 n41)])] →
                                     Rets Try.prog (62 : Nat) #[Value.pointer p0, Value.int IntKind.i64 i38]
                                      (((w36.alloc (Obj.cells #[Value.int IntKind.i64 (0 : Int), Value.slice none (0 : Nat) (0 : Nat)] (118 : Nat))).setCell
                                          {block := w36.heap.size, off := (0 : Nat) } (Value.int IntKind.i64 i38)).setCell
                                        {block := w36.heap.size, off := (1 : Nat) } (Value.slice q39 n40 n41)).drew
                                      fun (v44 : Value) (w45 : World) =>
                                      ∃ (q46 : Option Addr),
                                       ∃ (n47 : Nat),
                                        ∃ (n48 : Nat),
                                         v44 = Value.slice q46 n47 n48 ∧
                                          Keeps
                                            (((w36.alloc (Obj.cells #[Value.int IntKind.i64 (0 : Int), Value.slice none (0 : Nat) (0 : Nat)] (118 : Nat))).setCell
                                                {block := w36.heap.size, off := (0 : Nat) } (Value.int IntKind.i64 i38)).setCell
                                              {block := w36.heap.size, off := (1 : Nat) } (Value.slice q39 n40 n41)).drew
                                            w45 [w36.heap.size] ∧
                                           w45.cell? { block := w36.heap.size, off := (1 : Nat) } = some (Value.slice q39 n40 n41) ∧
                                            Runs Try.prog (Builtin.copy_ #[(25 : Nat), (25 : Nat)] (3 : Nat) #[Value.slice q46 n47 n48, Value.slice q39 n40 n41]) w45
                                             fun (v49 : Value) (w50 : World) =>
                                             ∃ (i51 : Int),
                                              v49 = Value.int IntKind.i64 i51 ∧
                                               Keeps w45 w50 [w36.heap.size] ∧ Wr IntKind.i64 (i35 + (1 : Int)) fun (i52 : Int) => I33 i52 w50 ∧ I34 i52 w50 < I34 i35 w36
                                   else
                                    Wr IntKind.i64 (i35 + (1 : Int)) fun (i53 : Int) =>
                                     I33 i53
                                       (((w36.alloc (Obj.cells #[Value.int IntKind.i64 (0 : Int), Value.slice none (0 : Nat) (0 : Nat)] (118 : Nat))).setCell
                                          {block := w36.heap.size, off := (0 : Nat) } (Value.int IntKind.i64 i38)).setCell
                                        {block := w36.heap.size, off := (1 : Nat) } (Value.slice q39 n40 n41)) ∧
                                      I34 i53
                                        (((w36.alloc (Obj.cells #[Value.int IntKind.i64 (0 : Int), Value.slice none (0 : Nat) (0 : Nat)] (118 : Nat))).setCell
                                           {block := w36.heap.size, off := (0 : Nat) } (Value.int IntKind.i64 i38)).setCell
                                         {block := w36.heap.size, off := (1 : Nat) } (Value.slice q39 n40 n41)) <
                                       I34 i35 w36
                              else
                               Wr IntKind.i64 (i35 + (1 : Int)) fun (i54 : Int) =>
                                I33 i54
                                  (((w36.alloc (Obj.cells #[Value.int IntKind.i64 (0 : Int), Value.slice none (0 : Nat) (0 : Nat)] (118 : Nat))).setCell
                                     {block := w36.heap.size, off := (0 : Nat) } (Value.int IntKind.i64 i38)).setCell
                                   {block := w36.heap.size, off := (1 : Nat) } (Value.slice q39 n40 n41)) ∧
                                 I34 i54
                                   (((w36.alloc (Obj.cells #[Value.int IntKind.i64 (0 : Int), Value.slice none (0 : Nat) (0 : Nat)] (118 : Nat))).setCell
                                      {block := w36.heap.size, off := (0 : Nat) } (Value.int IntKind.i64 i38)).setCell
                                    {block := w36.heap.size, off := (1 : Nat) } (Value.slice q39 n40 n41)) <
                                  I34 i35 w36
                      else Rets Try.prog (16 : Nat) #[Value.pointer p0] w36 fun (v55 : Value) (w56 : World) => v55 = Value.tuple #[] ∧ Keeps w36 w56 [] ∧ R (Ending.returned (Value.tuple #[])) w56
theorem vcTry19 (p0 : Option Addr) (p1 : Option Addr) (n1 c1 : Nat) (p2 : Int) (w : World) (R : Ending → World → Prop) : SX.vcFn Try.prog [(9, ⟨[(41, .int .i64)], [0, 1, 39, 40], []⟩), (2, ⟨[(17, .int .i64)], [2, 0, 15, 1, 16], []⟩)] Try.f19 [.v (.pointer p0), .v (.slice p1 n1 c1), .v (.int .u8 p2)] [] w R = VCTry19 p0 p1 n1 c1 p2 w R := by kernel_rfl
def VCTry20 (p0 : Option Addr) (p1 : Int) (p2 : Option Addr) (n2 c2 : Nat) (w : World) (R : Ending → World → Prop) : Prop :=
Rets Try.prog (65 : Nat) #[Value.pointer p0, Value.int IntKind.i64 p1, Value.int IntKind.i64 (↑n2 : Int)] w fun (v0 : Value) (w1 : World) =>
 ∃ (i2 : Int),
  ∃ (t3 : Bool),
   v0 = Value.tuple #[Value.int IntKind.i64 i2, Value.bool t3] ∧
    Keeps w w1 [] ∧
     bif !t3 then R (Ending.returned (Value.int IntKind.i64 (1 : Int))) w1
     else
      bif (↑n2 : Int) == (0 : Int) then R (Ending.returned (Value.int IntKind.i64 (0 : Int))) w1
      else
       Rets Try.prog (66 : Nat) #[Value.pointer p0, Value.int IntKind.i64 i2] w1 fun (v4 : Value) (w5 : World) =>
        v4 = Value.tuple #[] ∧
         Keeps w1 w5 [] ∧
          SX.Ptr p0 fun (a6 : Addr) =>
           ∃ (q7 : Option Addr),
            ∃ (n8 : Nat),
             ∃ (n9 : Nat),
              w5.cell? (a6.add (0 : Nat)) = some (Value.slice q7 n8 n9) ∧
               ((0 : Int) ≤ p1 ∧ p1 ≤ (↑n8 : Int)) ∧
                Runs Try.prog (Builtin.copy_ #[(25 : Nat), (25 : Nat)] (3 : Nat) #[Value.slice (cutA q7 n9 p1.toNat (1 : Nat)) (n8 - p1.toNat) (n9 - p1.toNat), Value.slice p2 n2 c2]) w5
                 fun (v10 : Value) (w11 : World) =>
                 ∃ (i12 : Int),
                  v10 = Value.int IntKind.i64 i12 ∧
                   Keeps w5 w11 [] ∧
                    (512 : Int) ≠ (0 : Int) ∧
                     Wr IntKind.i64 (p1.tdiv (512 : Int)) fun (i13 : Int) =>
                      ∃ (I14 : Int → World → Prop),
                       ∃ (I15 : Int → World → Nat),
                        I14 i13 w11 ∧
                         ∀ (i16 : Int) (w17 : World),
                          I14 i16 w17 →
                           Wr IntKind.i64 (p1 + (↑n2 : Int)) fun (i18 : Int) =>
                            Rets Try.prog (67 : Nat) #[Value.int IntKind.i64 i18] w17 fun (v19 : Value) (w20 : World) =>
                             ∃ (i21 : Int),
                              v19 = Value.int IntKind.i64 i21 ∧
                               Keeps w17 w20 [] ∧
                                bif decide (i16 < i21) then
                                 SX.Ptr p0 fun (a22 : Addr) =>
                                  ∃ (q23 : Option Addr),
                                   ∃ (n24 : Nat),
                                    ∃ (n25 : Nat),
                                     w20.drew.cell? (a22.add (2 : Nat)) = some (Value.slice q23 n24 n25) ∧
                                      (Runs Try.prog (Instr.buildSlice (25 : Nat) (0 : Nat) #[]) w20.drew fun (v26 : Value) (w27 : World) =>
                                        ∃ (q28 : Option Addr),
                                         ∃ (n29 : Nat),
                                          ∃ (n30 : Nat),
                                           v26 = Value.slice q28 n29 n30 ∧
                                            Keeps w20.drew w27 [] ∧
                                             w27.cell? (a22.add (2 : Nat)) = some (Value.slice q23 n24 n25) ∧
                                              Rets Try.prog (62 : Nat) #[Value.pointer p0, Value.int IntKind.i64 i16] w27 fun (v31 : Value) (w32 : World) =>
                                               ∃ (q33 : Option Addr),
                                                ∃ (n34 : Nat),
                                                 ∃ (n35 : Nat),
                                                  v31 = Value.slice q33 n34 n35 ∧
                                                   Keeps w27 w32 [] ∧
                                                    w32.cell? (a22.add (2 : Nat)) = some (Value.slice q23 n24 n25) ∧
                                                     Runs Try.prog
                                                      (Builtin.append_ #[(25 : Nat), (25 : Nat)] (25 : Nat) #[Value.slice q28 n29 n30, Value.slice q33 n34 n35]) w32
                                                      fun (v36 : Value) (w37 : World) =>
                                                      ∃ (q38 : Option Addr),
                                                       ∃ (n39 : Nat),
                                                        ∃ (n40 : Nat),
                                                         v36 = Value.slice q38 n39 n40 ∧
                                                          Keeps w32 w37 [] ∧
                                                           w37.cell? (a22.add (2 : Nat)) = some (Value.slice q23 n24 n25) ∧
                                                            (w37.alloc (Obj.cells #[Value.int IntKind.i64 i16, Value.slice q38 n39 n40] (118 : Nat))).cell?
                                                               (a22.add (2 : Nat)) =
                                                              some (Value.slice q23 n24 n25) ∧
                                                             Runs Try.prog
                                                              (Builtin.append_ #[(27 : Nat), (27 : Nat)] (27 : Nat)
                                                               #[Value.slice q23 n24 n25,
                                                                Value.slice (some { block := w37.heap.size, off := (0 : Nat) }) (1 : Nat) (1 : Nat)])
                                                              (w37.alloc (Obj.cells #[Value.int IntKind.i64 i16, Value.slice q38 n39 n40] (118 : Nat)))
                                                              fun (v41 : Value) (w42 : World) =>
                                                              ∃ (q43 : Option Addr),
                                                               ∃ (n44 : Nat),
                                                                ∃ (n45 : Nat),
                                                                 v41 = Value.slice q43 n44 n45 ∧
                                                                  Keeps
                                                                    (w37.alloc
                                                                     (Obj.cells #[Value.int IntKind.i64 i16, Value.slice q38 n39 n40] (118 : Nat)))
                                                                    w42 [] ∧
                                                                   SX.Ptr p0 fun (a46 : Addr) =>
                                                                    (∃ (v47 : Value), w42.cell? ((a46.add (2 : Nat)).add (0 : Nat)) = some v47) ∧
                                                                     w42.frozen? ((a46.add (2 : Nat)).add (0 : Nat)) = false ∧
                                                                      Wr IntKind.i64 (i16 + (1 : Int)) fun (i48 : Int) =>
                                                                       I14 i48
                                                                         (w42.setCell ((a46.add (2 : Nat)).add (0 : Nat))
                                                                          (Value.slice q43 n44 n45)) ∧
                                                                        I15 i48
                                                                          (w42.setCell ((a46.add (2 : Nat)).add (0 : Nat))
                                                                           (Value.slice q43 n44 n45)) <
                                                                         I15 i16 w17) ∧
                                       Rets Try.prog (62 : Nat) #[Value.pointer p0, Value.int IntKind.i64 i16] w20.drew fun (v49 : Value) (w50 : World) =>
                                        ∃ (q51 : Option Addr),
                                         ∃ (n52 : Nat),
                                          ∃ (n53 : Nat),
                                           v49 = Value.slice q51 n52 n53 ∧
                                            Keeps w20.drew w50 [] ∧
                                             w50.cell? (a22.add (2 : Nat)) = some (Value.slice q23 n24 n25) ∧
                                              Runs Try.prog (Instr.buildSlice (25 : Nat) (0 : Nat) #[]) w50 fun (v54 : Value) (w55 : World) =>
                                               ∃ (q56 : Option Addr),
                                                ∃ (n57 : Nat),
                                                 ∃ (n58 : Nat),
                                                  v54 = Value.slice q56 n57 n58 ∧
                                                   Keeps w50 w55 [] ∧
                                                    w55.cell? (a22.add (2 : Nat)) = some (Value.slice q23 n24 n25) ∧
                                                     Runs Try.prog
                                                      (Builtin.append_ #[(25 : Nat), (25 : Nat)] (25 : Nat) #[Value.slice q56 n57 n58, Value.slice q51 n52 n53]) w55
                                                      fun (v59 : Value) (w60 : World) =>
                                                      ∃ (q61 : Option Addr),
                                                       ∃ (n62 : Nat),
                                                        ∃ (n63 : Nat),
                                                         v59 = Value.slice q61 n62 n63 ∧
                                                          Keeps w55 w60 [] ∧
                                                           w60.cell? (a22.add (2 : Nat)) = some (Value.slice q23 n24 n25) ∧
                                                            (w60.alloc (Obj.cells #[Value.int IntKind.i64 i16, Value.slice q61 n62 n63] (118 : Nat))).cell?
                                                               (a22.add (2 : Nat)) =
                                                              some (Value.slice q23 n24 n25) ∧
                                                             Runs Try.prog
                                                              (Builtin.append_ #[(27 : Nat), (27 : Nat)] (27 : Nat)
                                                               #[Value.slice q23 n24 n25,
                                                                Value.slice (some { block := w60.heap.size, off := (0 : Nat) }) (1 : Nat) (1 : Nat)])
                                                              (w60.alloc (Obj.cells #[Value.int IntKind.i64 i16, Value.slice q61 n62 n63] (118 : Nat)))
                                                              fun (v64 : Value) (w65 : World) =>
                                                              ∃ (q66 : Option Addr),
                                                               ∃ (n67 : Nat),
                                                                ∃ (n68 : Nat),
                                                                 v64 = Value.slice q66 n67 n68 ∧
                                                                  Keeps
                                                                    (w60.alloc
                                                                     (Obj.cells #[Value.int IntKind.i64 i16, Value.slice q61 n62 n63] (118 : Nat)))
                                                                    w65 [] ∧
                                                                   SX.Ptr p0 fun (a69 : Addr) =>
                                                                    (∃ (v70 : Value), w65.cell? ((a69.add (2 : Nat)).add (0 : Nat)) = some v70) ∧
                                                                     w65.frozen? ((a69.add (2 : Nat)).add (0 : Nat)) = false ∧
                                                                      Wr IntKind.i64 (i16 + (1 : Int)) fun (i71 : Int) =>
                                                                       I14 i71
                                                                         (w65.setCell ((a69.add (2 : Nat)).add (0 : Nat))
                                                                          (Value.slice q66 n67 n68)) ∧
                                                                        I15 i71
                                                                          (w65.setCell ((a69.add (2 : Nat)).add (0 : Nat))
                                                                           (Value.slice q66 n67 n68)) <
                                                                         I15 i16 w17
                                else R (Ending.returned (Value.int IntKind.i64 (0 : Int))) w20
theorem vcTry20 (p0 : Option Addr) (p1 : Int) (p2 : Option Addr) (n2 c2 : Nat) (w : World) (R : Ending → World → Prop) : SX.vcFn Try.prog [(9, ⟨[(9, .int .i64)], [0, 2, 1], []⟩)] Try.f20 [.v (.pointer p0), .v (.int .i64 p1), .v (.slice p2 n2 c2)] [] w R = VCTry20 p0 p1 p2 n2 c2 w R := by kernel_rfl
def VCTry21 (p0 : Option Addr) (w : World) (R : Ending → World → Prop) : Prop :=
bif p0.isNone then R (Ending.returned (Value.int IntKind.i64 (0 : Int))) w
else SX.Ptr p0 fun (a0 : Addr) => ∃ (q1 : Option Addr), ∃ (n2 : Nat), ∃ (n3 : Nat), w.cell? (a0.add (2 : Nat)) = some (Value.slice q1 n2 n3) ∧ R (Ending.returned (Value.int IntKind.i64 (↑n2 : Int))) w
theorem vcTry21 (p0 : Option Addr) (w : World) (R : Ending → World → Prop) : SX.vcFn Try.prog [] Try.f21 [.v (.pointer p0)] [] w R = VCTry21 p0 w R := by kernel_rfl
def VCTry59 (p0 : Option Addr) (w : World) (R : Ending → World → Prop) : Prop :=
∃ (I0 : Int → World → Prop),
 ∃ (I1 : Int → World → Nat),
  I0 (0 : Int) w ∧
   ∀ (i2 : Int) (w3 : World),
    I0 i2 w3 →
     SX.Ptr p0 fun (a4 : Addr) =>
      ∃ (q5 : Option Addr),
       ∃ (n6 : Nat),
        ∃ (n7 : Nat),
         w3.cell? (a4.add (0 : Nat)) = some (Value.slice q5 n6 n7) ∧
          bif decide (i2 < (↑n6 : Int)) then
           SX.Ptr p0 fun (a8 : Addr) =>
            ∃ (q9 : Option Addr),
             ∃ (n10 : Nat),
              ∃ (n11 : Nat),
               w3.drew.cell? (a8.add (1 : Nat)) = some (Value.slice q9 n10 n11) ∧
                SX.Ptr p0 fun (a12 : Addr) =>
                 ∃ (q13 : Option Addr),
                  ∃ (n14 : Nat),
                   ∃ (n15 : Nat),
                    w3.drew.cell? (a12.add (0 : Nat)) = some (Value.slice q13 n14 n15) ∧
                     ((0 : Int) ≤ i2 ∧ i2 < (↑n14 : Int)) ∧
                      SX.Ptr q13 fun (a16 : Addr) =>
                       ∃ (s17 : ByteArray),
                        w3.drew.cell? (a16.add (i2.toNat * (1 : Nat))) = some (Value.string s17) ∧
                         ((0 : Int) ≤ i2 ∧ i2 < (↑n10 : Int)) ∧
                          SX.Ptr q9 fun (a18 : Addr) =>
                           (∃ (v19 : Value), w3.drew.cell? ((a18.add (i2.toNat * (1 : Nat))).add (0 : Nat)) = some v19) ∧
                            w3.drew.frozen? ((a18.add (i2.toNat * (1 : Nat))).add (0 : Nat)) = false ∧
                             SX.Ptr p0 fun (a20 : Addr) =>
                              ∃ (q21 : Option Addr),
                               ∃ (n22 : Nat),
                                ∃ (n23 : Nat),
                                 (w3.drew.setCell ((a18.add (i2.toNat * (1 : Nat))).add (0 : Nat)) (Value.string s17)).cell? (a20.add (2 : Nat)) = some (Value.slice q21 n22 n23) ∧
                                  ((0 : Int) ≤ i2 ∧ i2 < (↑n22 : Int)) ∧
                                   SX.Ptr q21 fun (a24 : Addr) =>
                                    (∃ (v25 : Value),
                                      (w3.drew.setCell ((a18.add (i2.toNat * (1 : Nat))).add (0 : Nat)) (Value.string s17)).cell? ((a24.add (i2.toNat * (1 : Nat))).add (0 : Nat)) =
                                       some v25) ∧
                                     (w3.drew.setCell ((a18.add (i2.toNat * (1 : Nat))).add (0 : Nat)) (Value.string s17)).frozen? ((a24.add (i2.toNat * (1 : Nat))).add (0 : Nat)) =
                                       false ∧
                                      Wr IntKind.i64 (i2 + (1 : Int)) fun (i26 : Int) =>
                                       I0 i26
                                         ((w3.drew.setCell ((a18.add (i2.toNat * (1 : Nat))).add (0 : Nat)) (Value.string s17)).setCell
                                          ((a24.add (i2.toNat * (1 : Nat))).add (0 : Nat)) (Value.bool true)) ∧
                                        I1 i26
                                          ((w3.drew.setCell ((a18.add (i2.toNat * (1 : Nat))).add (0 : Nat)) (Value.string s17)).setCell
                                           ((a24.add (i2.toNat * (1 : Nat))).add (0 : Nat)) (Value.bool true)) <
                                         I1 i2 w3
          else
           SX.Ptr p0 fun (a27 : Addr) =>
            (∃ (v28 : Value), w3.cell? ((a27.add (3 : Nat)).add (0 : Nat)) = some v28) ∧
             w3.frozen? ((a27.add (3 : Nat)).add (0 : Nat)) = false ∧ R (Ending.returned (Value.tuple #[])) (w3.setCell ((a27.add (3 : Nat)).add (0 : Nat)) (Value.slice none (0 : Nat) (0 : Nat)))
theorem vcTry59 (p0 : Option Addr) (w : World) (R : Ending → World → Prop) : SX.vcFn Try.prog [(1, ⟨[(2, .int .i64)], [0], []⟩)] Try.f59 [.v (.pointer p0)] [] w R = VCTry59 p0 w R := by kernel_rfl
def VCTry60 (p0 : Option Addr) (p1 : Option Addr) (n1 c1 : Nat) (p2 : Int) (w : World) (R : Ending → World → Prop) : Prop :=
∃ (I0 : Int → World → Prop),
 ∃ (I1 : Int → World → Nat),
  I0 (0 : Int) w ∧
   ∀ (i2 : Int) (w3 : World),
    I0 i2 w3 →
     SX.Ptr p0 fun (a4 : Addr) =>
      ∃ (q5 : Option Addr),
       ∃ (n6 : Nat),
        ∃ (n7 : Nat),
         w3.cell? (a4.add (0 : Nat)) = some (Value.slice q5 n6 n7) ∧
          bif decide (i2 < (↑n6 : Int)) then
           SX.Ptr p0 fun (a8 : Addr) =>
            ∃ (q9 : Option Addr),
             ∃ (n10 : Nat),
              ∃ (n11 : Nat),
               w3.drew.cell? (a8.add (0 : Nat)) = some (Value.slice q9 n10 n11) ∧
                SX.Ptr p0 fun (a12 : Addr) =>
                 ∃ (q13 : Option Addr),
                  ∃ (n14 : Nat),
                   ∃ (n15 : Nat),
                    w3.drew.cell? (a12.add (1 : Nat)) = some (Value.slice q13 n14 n15) ∧
                     ((0 : Int) ≤ i2 ∧ i2 < (↑n14 : Int)) ∧
                      SX.Ptr q13 fun (a16 : Addr) =>
                       ∃ (s17 : ByteArray),
                        w3.drew.cell? (a16.add (i2.toNat * (1 : Nat))) = some (Value.string s17) ∧
                         ((0 : Int) ≤ i2 ∧ i2 < (↑n10 : Int)) ∧
                          SX.Ptr q9 fun (a18 : Addr) =>
                           (∃ (v19 : Value), w3.drew.cell? ((a18.add (i2.toNat * (1 : Nat))).add (0 : Nat)) = some v19) ∧
                            w3.drew.frozen? ((a18.add (i2.toNat * (1 : Nat))).add (0 : Nat)) = false ∧
                             SX.Ptr p0 fun (a20 : Addr) =>
                              ∃ (q21 : Option Addr),
                               ∃ (n22 : Nat),
                                ∃ (n23 : Nat),
                                 (w3.drew.setCell ((a18.add (i2.toNat * (1 : Nat))).add (0 : Nat)) (Value.string s17)).cell? (a20.add (2 : Nat)) = some (Value.slice q21 n22 n23) ∧
                                  ((0 : Int) ≤ i2 ∧ i2 < (↑n22 : Int)) ∧
                                   SX.Ptr q21 fun (a24 : Addr) =>
                                    ∃ (t25 : Bool),
                                     (w3.drew.setCell ((a18.add (i2.toNat * (1 : Nat))).add (0 : Nat)) (Value.string s17)).cell? (a24.add (i2.toNat * (1 : Nat))) =
                                       some (Value.bool t25) ∧
                                      bif !t25 then
                                       SX.Ptr p0 fun (a26 : Addr) =>
                                        ∃ (q27 : Option Addr),
                                         ∃ (n28 : Nat),
                                          ∃ (n29 : Nat),
                                           (w3.drew.setCell ((a18.add (i2.toNat * (1 : Nat))).add (0 : Nat)) (Value.string s17)).drew.cell? (a26.add (0 : Nat)) =
                                             some (Value.slice q27 n28 n29) ∧
                                            Rets Try.prog (98 : Nat) #[Value.int IntKind.i64 i2, Value.int IntKind.u8 p2]
                                             (w3.drew.setCell ((a18.add (i2.toNat * (1 : Nat))).add (0 : Nat)) (Value.string s17)).drew fun (v30 : Value) (w31 : World) =>
                                             ∃ (s32 : ByteArray),
                                              v30 = Value.string s32 ∧
                                               Keeps (w3.drew.setCell ((a18.add (i2.toNat * (1 : Nat))).add (0 : Nat)) (Value.string s17)).drew w31 [] ∧
                                                w31.cell? (a26.add (0 : Nat)) = some (Value.slice q27 n28 n29) ∧
                                                 ((0 : Int) ≤ i2 ∧ i2 < (↑n28 : Int)) ∧
                                                  SX.Ptr q27 fun (a33 : Addr) =>
                                                   (∃ (v34 : Value), w31.cell? ((a33.add (i2.toNat * (1 : Nat))).add (0 : Nat)) = some v34) ∧
                                                    w31.frozen? ((a33.add (i2.toNat * (1 : Nat))).add (0 : Nat)) = false ∧
                                                     Wr IntKind.i64 (i2 + (1 : Int)) fun (i35 : Int) =>
                                                      I0 i35 (w31.setCell ((a33.add (i2.toNat * (1 : Nat))).add (0 : Nat)) (Value.string s32)) ∧
                                                       I1 i35 (w31.setCell ((a33.add (i2.toNat * (1 : Nat))).add (0 : Nat)) (Value.string s32)) < I1 i2 w3
                                      else
                                       Wr IntKind.i64 (i2 + (1 : Int)) fun (i36 : Int) =>
                                        I0 i36 (w3.drew.setCell ((a18.add (i2.toNat * (1 : Nat))).add (0 : Nat)) (Value.string s17)) ∧
                                         I1 i36 (w3.drew.setCell ((a18.add (i2.toNat * (1 : Nat))).add (0 : Nat)) (Value.string s17)) < I1 i2 w3
          else
           ∃ (I37 : Int → World → Prop),
            ∃ (I38 : Int → World → Nat),
             I37 (0 : Int) w3 ∧
              ∀ (i39 : Int) (w40 : World),
               I37 i39 w40 →
                SX.Ptr p0 fun (a41 : Addr) =>
                 ∃ (q42 : Option Addr),
                  ∃ (n43 : Nat),
                   ∃ (n44 : Nat),
                    w40.cell? (a41.add (3 : Nat)) = some (Value.slice q42 n43 n44) ∧
                     bif decide (i39 < (↑n43 : Int)) then
                      bif decide (i39 < (↑n1 : Int)) then
                       ((0 : Int) ≤ i39 ∧ i39 < (↑n1 : Int)) ∧
                        SX.Ptr p1 fun (a45 : Addr) =>
                         ∃ (t46 : Bool),
                          w40.cell? (a45.add (i39.toNat * (1 : Nat))) = some (Value.bool t46) ∧
                           bif t46 then
                            SX.Ptr p0 fun (a47 : Addr) =>
                             ∃ (q48 : Option Addr),
                              ∃ (n49 : Nat),
                               ∃ (n50 : Nat),
                                w40.drew.cell? (a47.add (0 : Nat)) = some (Value.slice q48 n49 n50) ∧
                                 SX.Ptr p0 fun (a51 : Addr) =>
                                  ∃ (q52 : Option Addr),
                                   ∃ (n53 : Nat),
                                    ∃ (n54 : Nat),
                                     w40.drew.cell? (a51.add (3 : Nat)) = some (Value.slice q52 n53 n54) ∧
                                      ((0 : Int) ≤ i39 ∧ i39 < (↑n53 : Int)) ∧
                                       SX.Ptr q52 fun (a55 : Addr) =>
                                        ∃ (i56 : Int),
                                         w40.drew.cell? ((a55.add (i39.toNat * (2 : Nat))).add (0 : Nat)) = some (Value.int IntKind.i64 i56) ∧
                                          SX.Ptr p0 fun (a57 : Addr) =>
                                           ∃ (q58 : Option Addr),
                                            ∃ (n59 : Nat),
                                             ∃ (n60 : Nat),
                                              w40.drew.cell? (a57.add (3 : Nat)) = some (Value.slice q58 n59 n60) ∧
                                               ((0 : Int) ≤ i39 ∧ i39 < (↑n59 : Int)) ∧
                                                SX.Ptr q58 fun (a61 : Addr) =>
                                                 ∃ (s62 : ByteArray),
                                                  w40.drew.cell? ((a61.add (i39.toNat * (2 : Nat))).add (1 : Nat)) = some (Value.string s62) ∧
                                                   ((0 : Int) ≤ i56 ∧ i56 < (↑n49 : Int)) ∧
                                                    SX.Ptr q48 fun (a63 : Addr) =>
                                                     (∃ (v64 : Value), w40.drew.cell? ((a63.add (i56.toNat * (1 : Nat))).add (0 : Nat)) = some v64) ∧
                                                      w40.drew.frozen? ((a63.add (i56.toNat * (1 : Nat))).add (0 : Nat)) = false ∧
                                                       Wr IntKind.i64 (i39 + (1 : Int)) fun (i65 : Int) =>
                                                        I37 i65 (w40.drew.setCell ((a63.add (i56.toNat * (1 : Nat))).add (0 : Nat)) (Value.string s62)) ∧
                                                         I38 i65 (w40.drew.setCell ((a63.add (i56.toNat * (1 : Nat))).add (0 : Nat)) (Value.string s62)) <
                                                          I38 i39 w40
                           else Wr IntKind.i64 (i39 + (1 : Int)) fun (i66 : Int) => I37 i66 w40 ∧ I38 i66 w40 < I38 i39 w40
                      else Rets Try.prog (59 : Nat) #[Value.pointer p0] w40 fun (v67 : Value) (w68 : World) => v67 = Value.tuple #[] ∧ Keeps w40 w68 [] ∧ R (Ending.returned (Value.tuple #[])) w68
                     else Rets Try.prog (59 : Nat) #[Value.pointer p0] w40 fun (v69 : Value) (w70 : World) => v69 = Value.tuple #[] ∧ Keeps w40 w70 [] ∧ R (Ending.returned (Value.tuple #[])) w70
theorem vcTry60 (p0 : Option Addr) (p1 : Option Addr) (n1 c1 : Nat) (p2 : Int) (w : World) (R : Ending → World → Prop) : SX.vcFn Try.prog [(7, ⟨[(7, .int .i64)], [0, 1], []⟩), (1, ⟨[(6, .int .i64)], [2, 0, 1], []⟩)] Try.f60 [.v (.pointer p0), .v (.slice p1 n1 c1), .v (.int .u8 p2)] [] w R = VCTry60 p0 p1 n1 c1 p2 w R := by kernel_rfl
def VCTry61 (p0 : Option Addr) (p1 : Int) (p2 : Int) (w : World) (R : Ending → World → Prop) : Prop :=
Runs Try.prog (Instr.makeSlice (25 : Nat) (Value.int IntKind.i64 (0 : Int)) (Value.int IntKind.i64 p2)) w fun (v0 : Value) (w1 : World) =>
 ∃ (q2 : Option Addr),
  ∃ (n3 : Nat),
   ∃ (n4 : Nat),
    v0 = Value.slice q2 n3 n4 ∧
     Keeps w w1 [] ∧
      ∃ (I5 : Option Addr → Nat → Nat → Int → World → Prop),
       ∃ (I6 : Option Addr → Nat → Nat → Int → World → Nat),
        I5 q2 n3 n4 p1 w1 ∧
         ∀ (q7 : Option Addr) (n8 n9 : Nat) (i10 : Int) (w11 : World),
          I5 q7 n8 n9 i10 w11 →
           bif decide ((↑n8 : Int) < p2) then
            (512 : Int) ≠ (0 : Int) ∧
             Wr IntKind.i64 (i10.tdiv (512 : Int)) fun (i12 : Int) =>
              SX.Ptr p0 fun (a13 : Addr) =>
               ∃ (q14 : Option Addr),
                ∃ (n15 : Nat),
                 ∃ (n16 : Nat),
                  w11.cell? (a13.add (0 : Nat)) = some (Value.slice q14 n15 n16) ∧
                   bif decide (i12 ≥ (↑n15 : Int)) then
                    Wr IntKind.i64 (p2 - (↑n8 : Int)) fun (i17 : Int) =>
                     Runs Try.prog (Builtin.append_ #[(25 : Nat), (3 : Nat)] (25 : Nat) #[Value.slice q7 n8 n9, Value.int IntKind.i64 i17]) w11 fun (v18 : Value) (w19 : World) =>
                      ∃ (q20 : Option Addr), ∃ (n21 : Nat), ∃ (n22 : Nat), v18 = Value.slice q20 n21 n22 ∧ Keeps w11 w19 [] ∧ R (Ending.returned (Value.slice q20 n21 n22)) w19
                   else
                    SX.Ptr p0 fun (a23 : Addr) =>
                     ∃ (q24 : Option Addr),
                      ∃ (n25 : Nat),
                       ∃ (n26 : Nat),
                        w11.cell? (a23.add (0 : Nat)) = some (Value.slice q24 n25 n26) ∧
                         ((0 : Int) ≤ i12 ∧ i12 < (↑n25 : Int)) ∧
                          SX.Ptr q24 fun (a27 : Addr) =>
                           ∃ (s28 : ByteArray),
                            w11.cell? (a27.add (i12.toNat * (1 : Nat))) = some (Value.string s28) ∧
                             (512 : Int) ≠ (0 : Int) ∧
                              ((0 : Int) ≤ i10.tmod (512 : Int) ∧ i10.tmod (512 : Int) ≤ (↑s28.size : Int)) ∧
                               Wr IntKind.i64 (p2 - (↑n8 : Int)) fun (i29 : Int) =>
                                bif decide ((↑(s28.extract (i10.tmod (512 : Int)).toNat s28.size).size : Int) > i29) then
                                 Wr IntKind.i64 (p2 - (↑n8 : Int)) fun (i30 : Int) =>
                                  ((0 : Int) ≤ i30 ∧ i30 ≤ (↑(s28.extract (i10.tmod (512 : Int)).toNat s28.size).size : Int)) ∧
                                   Runs Try.prog
                                    (Builtin.append_ #[(25 : Nat), (9 : Nat)] (25 : Nat)
                                     #[Value.slice q7 n8 n9, Value.string ((s28.extract (i10.tmod (512 : Int)).toNat s28.size).extract (0 : Nat) i30.toNat)])
                                    w11 fun (v31 : Value) (w32 : World) =>
                                    ∃ (q33 : Option Addr),
                                     ∃ (n34 : Nat),
                                      ∃ (n35 : Nat),
                                       v31 = Value.slice q33 n34 n35 ∧
                                        Keeps w11 w32 [] ∧
                                         Wr IntKind.i64 (i10 + (↑((s28.extract (i10.tmod (512 : Int)).toNat s28.size).extract (0 : Nat) i30.toNat).size : Int)) fun (i36 : Int) =>
                                          I5 q33 n34 n35 i36 w32 ∧ I6 q33 n34 n35 i36 w32 < I6 q7 n8 n9 i10 w11
                                else
                                 Runs Try.prog
                                  (Builtin.append_ #[(25 : Nat), (9 : Nat)] (25 : Nat) #[Value.slice q7 n8 n9, Value.string (s28.extract (i10.tmod (512 : Int)).toNat s28.size)]) w11
                                  fun (v37 : Value) (w38 : World) =>
                                  ∃ (q39 : Option Addr),
                                   ∃ (n40 : Nat),
                                    ∃ (n41 : Nat),
                                     v37 = Value.slice q39 n40 n41 ∧
                                      Keeps w11 w38 [] ∧
                                       Wr IntKind.i64 (i10 + (↑(s28.extract (i10.tmod (512 : Int)).toNat s28.size).size : Int)) fun (i42 : Int) =>
                                        I5 q39 n40 n41 i42 w38 ∧ I6 q39 n40 n41 i42 w38 < I6 q7 n8 n9 i10 w11
           else R (Ending.returned (Value.slice q7 n8 n9)) w11
theorem vcTry61 (p0 : Option Addr) (p1 : Int) (p2 : Int) (w : World) (R : Ending → World → Prop) : SX.vcFn Try.prog [(2, ⟨[(7, .slice), (1, .int .i64)], [2, 0], []⟩)] Try.f61 [.v (.pointer p0), .v (.int .i64 p1), .v (.int .i64 p2)] [] w R = VCTry61 p0 p1 p2 w R := by kernel_rfl
def VCTry62 (p0 : Option Addr) (p1 : Int) (w : World) (R : Ending → World → Prop) : Prop :=
Wr IntKind.i64 (p1 * (512 : Int)) fun (i0 : Int) =>
 Wr IntKind.i64 (p1 + (1 : Int)) fun (i1 : Int) =>
  Wr IntKind.i64 (i1 * (512 : Int)) fun (i2 : Int) =>
   SX.Ptr p0 fun (a3 : Addr) =>
    ∃ (q4 : Option Addr),
     ∃ (n5 : Nat),
      ∃ (n6 : Nat),
       w.cell? (a3.add (0 : Nat)) = some (Value.slice q4 n5 n6) ∧
        ((0 : Int) ≤ i2 ∧ i2 ≤ (↑n6 : Int)) ∧
         ((0 : Int) ≤ i2 ∧
           i2 ≤
            (↑(match some (SV.v (Value.int IntKind.i64 i2)) with
              | some x8 => i2.toNat
              | none => n6) :
             Int)) ∧
          ((0 : Int) ≤ i0 ∧ i0 ≤ (↑i2.toNat : Int)) ∧ R (Ending.returned (Value.slice (cutA q4 i2.toNat i0.toNat (1 : Nat)) (i2.toNat - i0.toNat) (i2.toNat - i0.toNat))) w
theorem vcTry62 (p0 : Option Addr) (p1 : Int) (w : World) (R : Ending → World → Prop) : SX.vcFn Try.prog [] Try.f62 [.v (.pointer p0), .v (.int .i64 p1)] [] w R = VCTry62 p0 p1 w R := by kernel_rfl
def VCTry63 (p0 : Int) (p1 : Int) (w : World) (R : Ending → World → Prop) : Prop :=
bif decide (p0 ≥ (0 : Int)) then
 bif decide (p1 ≥ (0 : Int)) then
  bif decide (p1 ≤ (2097152 : Int)) then Wr IntKind.i64 ((2097152 : Int) - p1) fun (i0 : Int) => R (Ending.returned (Value.bool (decide (p0 ≤ i0)))) w else R (Ending.returned (Value.bool false)) w
 else R (Ending.returned (Value.bool false)) w
else R (Ending.returned (Value.bool false)) w
theorem vcTry63 (p0 : Int) (p1 : Int) (w : World) (R : Ending → World → Prop) : SX.vcFn Try.prog [] Try.f63 [.v (.int .i64 p0), .v (.int .i64 p1)] [] w R = VCTry63 p0 p1 w R := by kernel_rfl
def VCTry64 (p0 : Option Addr) (n0 c0 : Nat) (p1 : Int) (p2 : Int) (w : World) (R : Ending → World → Prop) : Prop :=
∃ (I0 : Int → World → Prop),
 ∃ (I1 : Int → World → Nat),
  I0 (0 : Int) w ∧
   ∀ (i2 : Int) (w3 : World),
    I0 i2 w3 →
     bif decide (i2 < (↑n0 : Int)) then
      Wr IntKind.i64 ((7 : Int) * p1) fun (i4 : Int) =>
       Wr IntKind.u8 i4 fun (i5 : Int) =>
        Wr IntKind.u8 (p2 + i5) fun (i6 : Int) =>
         Wr IntKind.u8 i2 fun (i7 : Int) =>
          Wr IntKind.u8 (i6 + i7) fun (i8 : Int) =>
           ((0 : Int) ≤ i2 ∧ i2 < (↑n0 : Int)) ∧
            SX.Ptr p0 fun (a9 : Addr) =>
             (∃ (v10 : Value), w3.cell? ((a9.add (i2.toNat * (1 : Nat))).add (0 : Nat)) = some v10) ∧
              w3.frozen? ((a9.add (i2.toNat * (1 : Nat))).add (0 : Nat)) = false ∧
               Wr IntKind.i64 (i2 + (1 : Int)) fun (i11 : Int) =>
                I0 i11 (w3.setCell ((a9.add (i2.toNat * (1 : Nat))).add (0 : Nat)) (Value.int IntKind.u8 i8)) ∧
                 I1 i11 (w3.setCell ((a9.add (i2.toNat * (1 : Nat))).add (0 : Nat)) (Value.int IntKind.u8 i8)) < I1 i2 w3
     else R (Ending.returned (Value.tuple #[])) w3
theorem vcTry64 (p0 : Option Addr) (n0 c0 : Nat) (p1 : Int) (p2 : Int) (w : World) (R : Ending → World → Prop) : SX.vcFn Try.prog [(1, ⟨[(9, .int .i64)], [1, 2, 0, 8], []⟩)] Try.f64 [.v (.slice p0 n0 c0), .v (.int .i64 p1), .v (.int .u8 p2)] [] w R = VCTry64 p0 n0 c0 p1 p2 w R := by kernel_rfl
def VCTry65 (p0 : Option Addr) (p1 : Int) (p2 : Int) (w : World) (R : Ending → World → Prop) : Prop :=
bif p0.isNone then R (Ending.returned (Value.tuple #[Value.int IntKind.i64 (0 : Int), Value.bool false])) w
else
 Rets Try.prog (63 : Nat) #[Value.int IntKind.i64 p1, Value.int IntKind.i64 p2] w fun (v0 : Value) (w1 : World) =>
  ∃ (t2 : Bool),
   v0 = Value.bool t2 ∧
    Keeps w w1 [] ∧
     bif !t2 then R (Ending.returned (Value.tuple #[Value.int IntKind.i64 (0 : Int), Value.bool false])) w1
     else
      bif p2 == (0 : Int) then
       Rets Try.prog (18 : Nat) #[Value.pointer p0] w1 fun (v3 : Value) (w4 : World) =>
        ∃ (i5 : Int), v3 = Value.int IntKind.i64 i5 ∧ Keeps w1 w4 [] ∧ R (Ending.returned (Value.tuple #[Value.int IntKind.i64 i5, Value.bool true])) w4
      else
       Rets Try.prog (18 : Nat) #[Value.pointer p0] w1 fun (v6 : Value) (w7 : World) =>
        ∃ (i8 : Int),
         v6 = Value.int IntKind.i64 i8 ∧
          Keeps w1 w7 [] ∧
           Wr IntKind.i64 (p1 + p2) fun (i9 : Int) =>
            Rets Try.prog (67 : Nat) #[Value.int IntKind.i64 i9] w7 fun (v10 : Value) (w11 : World) =>
             ∃ (i12 : Int), v10 = Value.int IntKind.i64 i12 ∧ Keeps w7 w11 [] ∧ R (Ending.returned (Value.tuple #[Value.int IntKind.i64 (maxI i8 i12), Value.bool true])) w11
theorem vcTry65 (p0 : Option Addr) (p1 : Int) (p2 : Int) (w : World) (R : Ending → World → Prop) : SX.vcFn Try.prog [] Try.f65 [.v (.pointer p0), .v (.int .i64 p1), .v (.int .i64 p2)] [] w R = VCTry65 p0 p1 p2 w R := by kernel_rfl
def VCTry66 (p0 : Option Addr) (p1 : Int) (w : World) (R : Ending → World → Prop) : Prop :=
Rets Try.prog (18 : Nat) #[Value.pointer p0] w fun (v0 : Value) (w1 : World) =>
 ∃ (i2 : Int),
  v0 = Value.int IntKind.i64 i2 ∧
   Keeps w w1 [] ∧
    Wr IntKind.i64 (p1 - i2) fun (i3 : Int) =>
     bif decide (i3 > (0 : Int)) then
      SX.Ptr p0 fun (a4 : Addr) =>
       ∃ (q5 : Option Addr),
        ∃ (n6 : Nat),
         ∃ (n7 : Nat),
          w1.cell? (a4.add (0 : Nat)) = some (Value.slice q5 n6 n7) ∧
           Wr IntKind.i64 (i3 * (512 : Int)) fun (i8 : Int) =>
            Runs Try.prog (Builtin.append_ #[(25 : Nat), (3 : Nat)] (25 : Nat) #[Value.slice q5 n6 n7, Value.int IntKind.i64 i8]) w1 fun (v9 : Value) (w10 : World) =>
             ∃ (q11 : Option Addr),
              ∃ (n12 : Nat),
               ∃ (n13 : Nat),
                v9 = Value.slice q11 n12 n13 ∧
                 Keeps w1 w10 [] ∧
                  SX.Ptr p0 fun (a14 : Addr) =>
                   (∃ (v15 : Value), w10.cell? ((a14.add (0 : Nat)).add (0 : Nat)) = some v15) ∧
                    w10.frozen? ((a14.add (0 : Nat)).add (0 : Nat)) = false ∧
                     SX.Ptr p0 fun (a16 : Addr) =>
                      ∃ (q17 : Option Addr),
                       ∃ (n18 : Nat),
                        ∃ (n19 : Nat),
                         (w10.setCell ((a14.add (0 : Nat)).add (0 : Nat)) (Value.slice q11 n12 n13)).cell? (a16.add (1 : Nat)) = some (Value.slice q17 n18 n19) ∧
                          Runs Try.prog (Builtin.append_ #[(26 : Nat), (3 : Nat)] (26 : Nat) #[Value.slice q17 n18 n19, Value.int IntKind.i64 i3])
                           (w10.setCell ((a14.add (0 : Nat)).add (0 : Nat)) (Value.slice q11 n12 n13)) fun (v20 : Value) (w21 : World) =>
                           ∃ (q22 : Option Addr),
                            ∃ (n23 : Nat),
                             ∃ (n24 : Nat),
                              v20 = Value.slice q22 n23 n24 ∧
                               Keeps (w10.setCell ((a14.add (0 : Nat)).add (0 : Nat)) (Value.slice q11 n12 n13)) w21 [] ∧
                                SX.Ptr p0 fun (a25 : Addr) =>
                                 (∃ (v26 : Value), w21.cell? ((a25.add (1 : Nat)).add (0 : Nat)) = some v26) ∧
                                  w21.frozen? ((a25.add (1 : Nat)).add (0 : Nat)) = false ∧
                                   R (Ending.returned (Value.tuple #[])) (w21.setCell ((a25.add (1 : Nat)).add (0 : Nat)) (Value.slice q22 n23 n24))
     else R (Ending.returned (Value.tuple #[])) w1
theorem vcTry66 (p0 : Option Addr) (p1 : Int) (w : World) (R : Ending → World → Prop) : SX.vcFn Try.prog [] Try.f66 [.v (.pointer p0), .v (.int .i64 p1)] [] w R = VCTry66 p0 p1 w R := by kernel_rfl
def VCTry67 (p0 : Int) (w : World) (R : Ending → World → Prop) : Prop :=
Wr IntKind.i64 (p0 + (512 : Int)) fun (i0 : Int) =>
 Wr IntKind.i64 (i0 - (1 : Int)) fun (i1 : Int) => (512 : Int) ≠ (0 : Int) ∧ Wr IntKind.i64 (i1.tdiv (512 : Int)) fun (i2 : Int) => R (Ending.returned (Value.int IntKind.i64 i2)) w
theorem vcTry67 (p0 : Int) (w : World) (R : Ending → World → Prop) : SX.vcFn Try.prog [] Try.f67 [.v (.int .i64 p0)] [] w R = VCTry67 p0 w R := by kernel_rfl
def VCTry95 (p0 : Int) (p1 : Int) (w : World) (R : Ending → World → Prop) : Prop :=
bif decide (p0 ≥ (0 : Int)) then
 bif decide (p1 ≥ (0 : Int)) then
  bif decide (p1 ≤ (2097152 : Int)) then Wr IntKind.i64 ((2097152 : Int) - p1) fun (i0 : Int) => R (Ending.returned (Value.bool (decide (p0 ≤ i0)))) w else R (Ending.returned (Value.bool false)) w
 else R (Ending.returned (Value.bool false)) w
else R (Ending.returned (Value.bool false)) w
theorem vcTry95 (p0 : Int) (p1 : Int) (w : World) (R : Ending → World → Prop) : SX.vcFn Try.prog [] Try.f95 [.v (.int .i64 p0), .v (.int .i64 p1)] [] w R = VCTry95 p0 p1 w R := by kernel_rfl
def VCTry96 (p0 : Option Addr) (p1 : Int) (p2 : Int) (w : World) (R : Ending → World → Prop) : Prop :=
SX.Ptr p0 fun (a0 : Addr) =>
 ∃ (q1 : Option Addr),
  ∃ (n2 : Nat),
   ∃ (n3 : Nat),
    w.cell? (a0.add (0 : Nat)) = some (Value.slice q1 n2 n3) ∧
     bif decide (p2 > (0 : Int)) then
      Wr IntKind.i64 (p1 + p2) fun (i4 : Int) =>
       Wr IntKind.i64 (i4 + (511 : Int)) fun (i5 : Int) =>
        (512 : Int) ≠ (0 : Int) ∧
         Wr IntKind.i64 (i5.tdiv (512 : Int)) fun (i6 : Int) =>
          bif decide (i6 > (↑n2 : Int)) then
           Wr IntKind.i64 (p1 + p2) fun (i7 : Int) =>
            Wr IntKind.i64 (i7 + (511 : Int)) fun (i8 : Int) => (512 : Int) ≠ (0 : Int) ∧ Wr IntKind.i64 (i8.tdiv (512 : Int)) fun (i9 : Int) => R (Ending.returned (Value.int IntKind.i64 i9)) w
          else R (Ending.returned (Value.int IntKind.i64 (↑n2 : Int))) w
     else R (Ending.returned (Value.int IntKind.i64 (↑n2 : Int))) w
theorem vcTry96 (p0 : Option Addr) (p1 : Int) (p2 : Int) (w : World) (R : Ending → World → Prop) : SX.vcFn Try.prog [] Try.f96 [.v (.pointer p0), .v (.int .i64 p1), .v (.int .i64 p2)] [] w R = VCTry96 p0 p1 p2 w R := by kernel_rfl
def VCTry97 (w : World) (R : Ending → World → Prop) : Prop :=
Runs Try.prog (Instr.makeSlice (25 : Nat) (Value.int IntKind.i64 (512 : Int)) (Value.int IntKind.i64 (512 : Int))) w fun (v0 : Value) (w1 : World) =>
 ∃ (q2 : Option Addr), ∃ (n3 : Nat), ∃ (n4 : Nat), v0 = Value.slice q2 n3 n4 ∧ Keeps w w1 [] ∧ ∃ (s5 : ByteArray), s5.size = n3 ∧ BytesAt w1 q2 s5 ∧ R (Ending.returned (Value.string s5)) w1
theorem vcTry97 (w : World) (R : Ending → World → Prop) : SX.vcFn Try.prog [] Try.f97 [] [] w R = VCTry97  w R := by kernel_rfl
def VCTry98 (p0 : Int) (p1 : Int) (w : World) (R : Ending → World → Prop) : Prop :=
Runs Try.prog (Instr.makeSlice (25 : Nat) (Value.int IntKind.i64 (512 : Int)) (Value.int IntKind.i64 (512 : Int))) w fun (v0 : Value) (w1 : World) =>
 ∃ (q2 : Option Addr),
  ∃ (n3 : Nat),
   ∃ (n4 : Nat),
    v0 = Value.slice q2 n3 n4 ∧
     Keeps w w1 [] ∧
      ∃ (I5 : Int → World → Prop),
       ∃ (I6 : Int → World → Nat),
        I5 (0 : Int) w1 ∧
         ∀ (i7 : Int) (w8 : World),
          I5 i7 w8 →
           bif decide (i7 < (512 : Int)) then
            Wr IntKind.i64 p1 fun (i9 : Int) =>
             Wr IntKind.i64 ((7 : Int) * p0) fun (i10 : Int) =>
              Wr IntKind.i64 (i9 + i10) fun (i11 : Int) =>
               Wr IntKind.i64 (i11 + i7) fun (i12 : Int) =>
                (256 : Int) ≠ (0 : Int) ∧
                 Wr IntKind.u8 (i12.tmod (256 : Int)) fun (i13 : Int) =>
                  ((0 : Int) ≤ i7 ∧ i7 < (↑n3 : Int)) ∧
                   SX.Ptr q2 fun (a14 : Addr) =>
                    (∃ (v15 : Value), w8.cell? ((a14.add (i7.toNat * (1 : Nat))).add (0 : Nat)) = some v15) ∧
                     w8.frozen? ((a14.add (i7.toNat * (1 : Nat))).add (0 : Nat)) = false ∧
                      Wr IntKind.i64 (i7 + (1 : Int)) fun (i16 : Int) =>
                       I5 i16 (w8.setCell ((a14.add (i7.toNat * (1 : Nat))).add (0 : Nat)) (Value.int IntKind.u8 i13)) ∧
                        I6 i16 (w8.setCell ((a14.add (i7.toNat * (1 : Nat))).add (0 : Nat)) (Value.int IntKind.u8 i13)) < I6 i7 w8
           else ∃ (s17 : ByteArray), s17.size = n3 ∧ BytesAt w8 q2 s17 ∧ R (Ending.returned (Value.string s17)) w8
theorem vcTry98 (p0 : Int) (p1 : Int) (w : World) (R : Ending → World → Prop) : SX.vcFn Try.prog [(3, ⟨[(6, .int .i64)], [0, 1, 5], []⟩)] Try.f98 [.v (.int .i64 p0), .v (.int .u8 p1)] [] w R = VCTry98 p0 p1 w R := by kernel_rfl
end Go.Proofs.Ytlgkcbdpaffigaa
