/- The conditions of functions, as the executor computes them: each is equal to what 'vcFn' says. -/
import Derived.Test.YtlgkcbdpaffigaaSxLib
import Derived.Test.YtlgkcbdpaffigaaProg
namespace Go.Proofs.Ytlgkcbdpaffigaa
open Go Go.SX Go.Proofs
set_option maxRecDepth 100000
set_option linter.unusedVariables false
def VCTry87 (p0 : ByteArray) (w : World) (R : Ending → World → Prop) : Prop :=
bif decide ((↑p0.size : Int) ≥ (1 : Int)) then R (Ending.returned (Value.bool (decide ((↑p0.size : Int) ≤ (100 : Int))))) w else R (Ending.returned (Value.bool false)) w
theorem vcTry87 (p0 : ByteArray) (w : World) (R : Ending → World → Prop) : SX.vcFn Try.prog [] Try.f87 [.v (.string p0)] [] w R = VCTry87 p0 w R := by kernel_rfl
def VCTry44 (p0 : ByteArray) (w : World) (R : Ending → World → Prop) : Prop :=
bif decide ((↑p0.size : Int) > (0 : Int)) then R (Ending.returned (Value.bool (decide ((↑p0.size : Int) < (101 : Int))))) w else R (Ending.returned (Value.bool false)) w
theorem vcTry44 (p0 : ByteArray) (w : World) (R : Ending → World → Prop) : SX.vcFn Try.prog [] Try.f44 [.v (.string p0)] [] w R = VCTry44 p0 w R := by kernel_rfl
def VCTry49 (p0 : Option Addr) (n0 c0 : Nat) (p1 : ByteArray) (w : World) (R : Ending → World → Prop) : Prop :=
∃ (I0 : Int → World → Prop),
 ∃ (I1 : Int → World → Nat),
  I0 (0 : Int) w ∧
   ∀ (i2 : Int) (w3 : World),
    I0 i2 w3 →
     bif decide (i2 < (↑n0 : Int)) then
      ((0 : Int) ≤ i2 ∧ i2 < (↑n0 : Int)) ∧
       SX.Ptr p0 fun (a4 : Addr) =>
        ∃ (s5 : ByteArray),
         w3.cell? ((a4.add (i2.toNat * (2 : Nat))).add (0 : Nat)) = some (Value.string s5) ∧
          bif s5.toList == p1.toList then R (Ending.returned (Value.int IntKind.i64 i2)) w3 else Wr IntKind.i64 (i2 + (1 : Int)) fun (i6 : Int) => I0 i6 w3 ∧ I1 i6 w3 < I1 i2 w3
     else R (Ending.returned (Value.int IntKind.i64 (-1 : Int))) w3
theorem vcTry49 (p0 : Option Addr) (n0 c0 : Nat) (p1 : ByteArray) (w : World) (R : Ending → World → Prop) : SX.vcFn Try.prog [(2, ⟨[(5, .int .i64)], [1, 0], []⟩)] Try.f49 [.v (.slice p0 n0 c0), .v (.string p1)] [] w R = VCTry49 p0 n0 c0 p1 w R := by kernel_rfl
def VCTry94 (p0 : Option Addr) (n0 c0 : Nat) (p1 : Int) (w : World) (R : Ending → World → Prop) : Prop :=
∃ (I0 : Int → World → Prop),
 ∃ (I1 : Int → World → Nat),
  I0 (0 : Int) w ∧
   ∀ (i2 : Int) (w3 : World),
    I0 i2 w3 →
     bif decide (i2 < (↑n0 : Int)) then
      ((0 : Int) ≤ i2 ∧ i2 < (↑n0 : Int)) ∧
       SX.Ptr p0 fun (a4 : Addr) =>
        ∃ (i5 : Int),
         w3.cell? ((a4.add (i2.toNat * (2 : Nat))).add (1 : Nat)) = some (Value.int IntKind.i64 i5) ∧
          bif i5 == p1 then R (Ending.returned (Value.bool true)) w3 else Wr IntKind.i64 (i2 + (1 : Int)) fun (i6 : Int) => I0 i6 w3 ∧ I1 i6 w3 < I1 i2 w3
     else R (Ending.returned (Value.bool false)) w3
theorem vcTry94 (p0 : Option Addr) (n0 c0 : Nat) (p1 : Int) (w : World) (R : Ending → World → Prop) : SX.vcFn Try.prog [(2, ⟨[(5, .int .i64)], [1, 0], []⟩)] Try.f94 [.v (.slice p0 n0 c0), .v (.int .i64 p1)] [] w R = VCTry94 p0 n0 c0 p1 w R := by kernel_rfl
def VCTry104 (p0 : Option Addr) (n0 c0 : Nat) (p1 : ByteArray) (w : World) (R : Ending → World → Prop) : Prop :=
∃ (I0 : Int → Option Addr → Nat → Nat → World → Prop),
 ∃ (I1 : Int → Option Addr → Nat → Nat → World → Nat),
  I0 (0 : Int) none (0 : Nat) (0 : Nat) w ∧
   ∀ (i2 : Int) (q3 : Option Addr) (n4 n5 : Nat) (w6 : World),
    I0 i2 q3 n4 n5 w6 →
     bif decide (i2 < (↑n0 : Int)) then
      ((0 : Int) ≤ i2 ∧ i2 < (↑n0 : Int)) ∧
       SX.Ptr p0 fun (a7 : Addr) =>
        ∃ (s8 : ByteArray),
         w6.cell? ((a7.add (i2.toNat * (2 : Nat))).add (0 : Nat)) = some (Value.string s8) ∧
          bif !s8.toList == p1.toList then
           ((0 : Int) ≤ i2 ∧ i2 < (↑n0 : Int)) ∧
            SX.Ptr p0 fun (a9 : Addr) =>
             ∃ (s10 : ByteArray),
              ∃ (i11 : Int),
               (w6.cell? ((a9.add (i2.toNat * (2 : Nat))).add (0 : Nat)) = some (Value.string s10) ∧ w6.cell? ((a9.add (i2.toNat * (2 : Nat))).add (1 : Nat)) = some (Value.int IntKind.i64 i11) ∧ True) ∧
                Runs Try.prog (Builtin.append_ #[(80 : Nat), (80 : Nat)] (80 : Nat) #[Value.slice q3 n4 n5, Value.slice (some { block := w6.heap.size, off := (0 : Nat) }) (1 : Nat) (1 : Nat)])
                 (w6.alloc (Obj.cells #[Value.string s10, Value.int IntKind.i64 i11] (105 : Nat))) fun (v12 : Value) (w13 : World) =>
                 ∃ (q14 : Option Addr),
                  ∃ (n15 : Nat),
                   ∃ (n16 : Nat),
                    v12 = Value.slice q14 n15 n16 ∧
                     Keeps (w6.alloc (Obj.cells #[Value.string s10, Value.int IntKind.i64 i11] (105 : Nat))) w13 [] ∧
                      Wr IntKind.i64 (i2 + (1 : Int)) fun (i17 : Int) => I0 i17 q14 n15 n16 w13 ∧ I1 i17 q14 n15 n16 w13 < I1 i2 q3 n4 n5 w6
          else Wr IntKind.i64 (i2 + (1 : Int)) fun (i18 : Int) => I0 i18 q3 n4 n5 w6 ∧ I1 i18 q3 n4 n5 w6 < I1 i2 q3 n4 n5 w6
     else R (Ending.returned (Value.slice q3 n4 n5)) w6
theorem vcTry104 (p0 : Option Addr) (n0 c0 : Nat) (p1 : ByteArray) (w : World) (R : Ending → World → Prop) : SX.vcFn Try.prog [(3, ⟨[(6, .int .i64), (5, .slice)], [0, 1], []⟩)] Try.f104 [.v (.slice p0 n0 c0), .v (.string p1)] [] w R = VCTry104 p0 n0 c0 p1 w R := by kernel_rfl
def VCTry103 (p0 : Option Addr) (n0 c0 : Nat) (p1 : ByteArray) (p2 : Int) (w : World) (R : Ending → World → Prop) : Prop :=
Rets Try.prog (104 : Nat) #[Value.slice p0 n0 c0, Value.string p1] w fun (v0 : Value) (w1 : World) =>
 ∃ (q2 : Option Addr),
  ∃ (n3 : Nat),
   ∃ (n4 : Nat),
    v0 = Value.slice q2 n3 n4 ∧
     Keeps w w1 [] ∧
      ∃ (I5 : Int → Option Addr → Nat → Nat → Bool → World → Prop),
       ∃ (I6 : Int → Option Addr → Nat → Nat → Bool → World → Nat),
        I5 (0 : Int) none (0 : Nat) (0 : Nat) false w1 ∧
         ∀ (i7 : Int) (q8 : Option Addr) (n9 n10 : Nat) (t11 : Bool) (w12 : World),
          I5 i7 q8 n9 n10 t11 w12 →
           bif decide (i7 < (↑n3 : Int)) then
            bif !t11 then
             ((0 : Int) ≤ i7 ∧ i7 < (↑n3 : Int)) ∧
              SX.Ptr q2 fun (a13 : Addr) =>
               ∃ (s14 : ByteArray),
                w12.cell? ((a13.add (i7.toNat * (2 : Nat))).add (0 : Nat)) = some (Value.string s14) ∧
                 bif Op.bytesLess p1.toList s14.toList then
                  Runs Try.prog (Builtin.append_ #[(80 : Nat), (80 : Nat)] (80 : Nat) #[Value.slice q8 n9 n10, Value.slice (some { block := w12.heap.size, off := (0 : Nat) }) (1 : Nat) (1 : Nat)])
                   (w12.alloc (Obj.cells #[Value.string p1, Value.int IntKind.i64 p2] (105 : Nat))) fun (v15 : Value) (w16 : World) =>
                   ∃ (q17 : Option Addr),
                    ∃ (n18 : Nat),
                     ∃ (n19 : Nat),
                      v15 = Value.slice q17 n18 n19 ∧
                       Keeps (w12.alloc (Obj.cells #[Value.string p1, Value.int IntKind.i64 p2] (105 : Nat))) w16 [] ∧
                        ((0 : Int) ≤ i7 ∧ i7 < (↑n3 : Int)) ∧
                         SX.Ptr q2 fun (a20 : Addr) =>
                          ∃ (s21 : ByteArray),
                           ∃ (i22 : Int),
                            (w16.cell? ((a20.add (i7.toNat * (2 : Nat))).add (0 : Nat)) = some (Value.string s21) ∧
                              w16.cell? ((a20.add (i7.toNat * (2 : Nat))).add (1 : Nat)) = some (Value.int IntKind.i64 i22) ∧ True) ∧
                             Runs Try.prog
                              (Builtin.append_ #[(80 : Nat), (80 : Nat)] (80 : Nat)
                               #[Value.slice q17 n18 n19, Value.slice (some { block := w16.heap.size, off := (0 : Nat) }) (1 : Nat) (1 : Nat)])
                              (w16.alloc (Obj.cells #[Value.string s21, Value.int IntKind.i64 i22] (105 : Nat))) fun (v23 : Value) (w24 : World) =>
                              ∃ (q25 : Option Addr),
                               ∃ (n26 : Nat),
                                ∃ (n27 : Nat),
                                 v23 = Value.slice q25 n26 n27 ∧
                                  Keeps (w16.alloc (Obj.cells #[Value.string s21, Value.int IntKind.i64 i22] (105 : Nat))) w24 [] ∧
                                   Wr IntKind.i64 (i7 + (1 : Int)) fun (i28 : Int) => I5 i28 q25 n26 n27 true w24 ∧ I6 i28 q25 n26 n27 true w24 < I6 i7 q8 n9 n10 t11 w12
                 else
                  ((0 : Int) ≤ i7 ∧ i7 < (↑n3 : Int)) ∧
                   SX.Ptr q2 fun (a29 : Addr) =>
                    ∃ (s30 : ByteArray),
                     ∃ (i31 : Int),
                      (w12.cell? ((a29.add (i7.toNat * (2 : Nat))).add (0 : Nat)) = some (Value.string s30) ∧
                        w12.cell? ((a29.add (i7.toNat * (2 : Nat))).add (1 : Nat)) = some (Value.int IntKind.i64 i31) ∧ True) ∧
                       Runs Try.prog
                        (Builtin.append_ #[(80 : Nat), (80 : Nat)] (80 : Nat) #[Value.slice q8 n9 n10, Value.slice (some { block := w12.heap.size, off := (0 : Nat) }) (1 : Nat) (1 : Nat)])
                        (w12.alloc (Obj.cells #[Value.string s30, Value.int IntKind.i64 i31] (105 : Nat))) fun (v32 : Value) (w33 : World) =>
                        ∃ (q34 : Option Addr),
                         ∃ (n35 : Nat),
                          ∃ (n36 : Nat),
                           v32 = Value.slice q34 n35 n36 ∧
                            Keeps (w12.alloc (Obj.cells #[Value.string s30, Value.int IntKind.i64 i31] (105 : Nat))) w33 [] ∧
                             Wr IntKind.i64 (i7 + (1 : Int)) fun (i37 : Int) => I5 i37 q34 n35 n36 t11 w33 ∧ I6 i37 q34 n35 n36 t11 w33 < I6 i7 q8 n9 n10 t11 w12
            else
             ((0 : Int) ≤ i7 ∧ i7 < (↑n3 : Int)) ∧
              SX.Ptr q2 fun (a38 : Addr) =>
               ∃ (s39 : ByteArray),
                ∃ (i40 : Int),
                 (w12.cell? ((a38.add (i7.toNat * (2 : Nat))).add (0 : Nat)) = some (Value.string s39) ∧
                   w12.cell? ((a38.add (i7.toNat * (2 : Nat))).add (1 : Nat)) = some (Value.int IntKind.i64 i40) ∧ True) ∧
                  Runs Try.prog (Builtin.append_ #[(80 : Nat), (80 : Nat)] (80 : Nat) #[Value.slice q8 n9 n10, Value.slice (some { block := w12.heap.size, off := (0 : Nat) }) (1 : Nat) (1 : Nat)])
                   (w12.alloc (Obj.cells #[Value.string s39, Value.int IntKind.i64 i40] (105 : Nat))) fun (v41 : Value) (w42 : World) =>
                   ∃ (q43 : Option Addr),
                    ∃ (n44 : Nat),
                     ∃ (n45 : Nat),
                      v41 = Value.slice q43 n44 n45 ∧
                       Keeps (w12.alloc (Obj.cells #[Value.string s39, Value.int IntKind.i64 i40] (105 : Nat))) w42 [] ∧
                        Wr IntKind.i64 (i7 + (1 : Int)) fun (i46 : Int) => I5 i46 q43 n44 n45 t11 w42 ∧ I6 i46 q43 n44 n45 t11 w42 < I6 i7 q8 n9 n10 t11 w12
           else
            bif !t11 then
             Runs Try.prog (Builtin.append_ #[(80 : Nat), (80 : Nat)] (80 : Nat) #[Value.slice q8 n9 n10, Value.slice (some { block := w12.heap.size, off := (0 : Nat) }) (1 : Nat) (1 : Nat)])
              (w12.alloc (Obj.cells #[Value.string p1, Value.int IntKind.i64 p2] (105 : Nat))) fun (v47 : Value) (w48 : World) =>
              ∃ (q49 : Option Addr),
               ∃ (n50 : Nat),
                ∃ (n51 : Nat),
                 v47 = Value.slice q49 n50 n51 ∧ Keeps (w12.alloc (Obj.cells #[Value.string p1, Value.int IntKind.i64 p2] (105 : Nat))) w48 [] ∧ R (Ending.returned (Value.slice q49 n50 n51)) w48
            else R (Ending.returned (Value.slice q8 n9 n10)) w12
theorem vcTry103 (p0 : Option Addr) (n0 c0 : Nat) (p1 : ByteArray) (p2 : Int) (w : World) (R : Ending → World → Prop) : SX.vcFn Try.prog [(5, ⟨[(9, .int .i64), (7, .slice), (8, .bool)], [0, 2, 1], []⟩)] Try.f103 [.v (.slice p0 n0 c0), .v (.string p1), .v (.int .i64 p2)] [] w R = VCTry103 p0 n0 c0 p1 p2 w R := by kernel_rfl
def VCTry102 (p0 : Option Addr) (p1 : Option Addr) (n1 c1 : Nat) (w : World) (R : Ending → World → Prop) : Prop :=
SX.Ptr p0 fun (a0 : Addr) =>
 ∃ (q1 : Option Addr),
  ∃ (n2 : Nat),
   ∃ (n3 : Nat),
    w.drew.cell? (a0.add (1 : Nat)) = some (Value.slice q1 n2 n3) ∧
     SX.Ptr p0 fun (a4 : Addr) =>
      ∃ (q5 : Option Addr),
       ∃ (n6 : Nat),
        ∃ (n7 : Nat),
         w.drew.cell? (a4.add (0 : Nat)) = some (Value.slice q5 n6 n7) ∧
          (w.drew.alloc (Obj.cells #[Value.slice q5 n6 n7] (80 : Nat))).cell? (a0.add (1 : Nat)) = some (Value.slice q1 n2 n3) ∧
           Runs Try.prog (Builtin.append_ #[(81 : Nat), (81 : Nat)] (81 : Nat) #[Value.slice q1 n2 n3, Value.slice (some { block := w.drew.heap.size, off := (0 : Nat) }) (1 : Nat) (1 : Nat)])
            (w.drew.alloc (Obj.cells #[Value.slice q5 n6 n7] (80 : Nat))) fun (v8 : Value) (w9 : World) =>
            ∃ (q10 : Option Addr),
             ∃ (n11 : Nat),
              ∃ (n12 : Nat),
               v8 = Value.slice q10 n11 n12 ∧
                Keeps (w.drew.alloc (Obj.cells #[Value.slice q5 n6 n7] (80 : Nat))) w9 [] ∧
                 SX.Ptr p0 fun (a13 : Addr) =>
                  (∃ (v14 : Value), w9.cell? ((a13.add (1 : Nat)).add (0 : Nat)) = some v14) ∧
                   w9.frozen? ((a13.add (1 : Nat)).add (0 : Nat)) = false ∧
                    SX.Ptr p0 fun (a15 : Addr) =>
                     (∃ (v16 : Value), (w9.setCell ((a13.add (1 : Nat)).add (0 : Nat)) (Value.slice q10 n11 n12)).cell? ((a15.add (0 : Nat)).add (0 : Nat)) = some v16) ∧
                      (w9.setCell ((a13.add (1 : Nat)).add (0 : Nat)) (Value.slice q10 n11 n12)).frozen? ((a15.add (0 : Nat)).add (0 : Nat)) = false ∧
                       R (Ending.returned (Value.int IntKind.i64 (0 : Int)))
                        ((w9.setCell ((a13.add (1 : Nat)).add (0 : Nat)) (Value.slice q10 n11 n12)).setCell ((a15.add (0 : Nat)).add (0 : Nat)) (Value.slice p1 n1 c1))
theorem vcTry102 (p0 : Option Addr) (p1 : Option Addr) (n1 c1 : Nat) (w : World) (R : Ending → World → Prop) : SX.vcFn Try.prog [] Try.f102 [.v (.pointer p0), .v (.slice p1 n1 c1)] [] w R = VCTry102 p0 p1 n1 c1 w R := by kernel_rfl
def VCTry78 (p0 : Option Addr) (p1 : ByteArray) (p2 : Int) (w : World) (R : Ending → World → Prop) : Prop :=
Rets Try.prog (44 : Nat) #[Value.string p1] w fun (v0 : Value) (w1 : World) =>
 ∃ (t2 : Bool),
  v0 = Value.bool t2 ∧
   Keeps w w1 [] ∧
    bif !t2 then R (Ending.returned (Value.int IntKind.i64 (6 : Int))) w1
    else
     SX.Ptr p0 fun (a3 : Addr) =>
      ∃ (q4 : Option Addr),
       ∃ (n5 : Nat),
        ∃ (n6 : Nat),
         w1.cell? (a3.add (0 : Nat)) = some (Value.slice q4 n5 n6) ∧
          Rets Try.prog (49 : Nat) #[Value.slice q4 n5 n6, Value.string p1] w1 fun (v7 : Value) (w8 : World) =>
           ∃ (i9 : Int),
            v7 = Value.int IntKind.i64 i9 ∧
             Keeps w1 w8 [] ∧
              bif decide (i9 ≥ (0 : Int)) then R (Ending.returned (Value.int IntKind.i64 (16 : Int))) w8
              else
               SX.Ptr p0 fun (a10 : Addr) =>
                ∃ (q11 : Option Addr),
                 ∃ (n12 : Nat),
                  ∃ (n13 : Nat),
                   w8.cell? (a10.add (0 : Nat)) = some (Value.slice q11 n12 n13) ∧
                    bif decide ((↑n12 : Int) ≥ (16 : Int)) then R (Ending.returned (Value.int IntKind.i64 (14 : Int))) w8
                    else
                     SX.Ptr p0 fun (a14 : Addr) =>
                      ∃ (q15 : Option Addr),
                       ∃ (n16 : Nat),
                        ∃ (n17 : Nat),
                         w8.cell? (a14.add (0 : Nat)) = some (Value.slice q15 n16 n17) ∧
                          Rets Try.prog (103 : Nat) #[Value.slice q15 n16 n17, Value.string p1, Value.int IntKind.i64 p2] w8 fun (v18 : Value) (w19 : World) =>
                           ∃ (q20 : Option Addr),
                            ∃ (n21 : Nat),
                             ∃ (n22 : Nat),
                              v18 = Value.slice q20 n21 n22 ∧
                               Keeps w8 w19 [] ∧
                                Rets Try.prog (102 : Nat) #[Value.pointer p0, Value.slice q20 n21 n22] w19 fun (v23 : Value) (w24 : World) =>
                                 ∃ (i25 : Int), v23 = Value.int IntKind.i64 i25 ∧ Keeps w19 w24 [] ∧ R (Ending.returned (Value.int IntKind.i64 i25)) w24
theorem vcTry78 (p0 : Option Addr) (p1 : ByteArray) (p2 : Int) (w : World) (R : Ending → World → Prop) : SX.vcFn Try.prog [] Try.f78 [.v (.pointer p0), .v (.string p1), .v (.int .i64 p2)] [] w R = VCTry78 p0 p1 p2 w R := by kernel_rfl
def VCTry79 (p0 : Option Addr) (p1 : ByteArray) (p2 : ByteArray) (w : World) (R : Ending → World → Prop) : Prop :=
Rets Try.prog (44 : Nat) #[Value.string p2] w fun (v0 : Value) (w1 : World) =>
 ∃ (t2 : Bool),
  v0 = Value.bool t2 ∧
   Keeps w w1 [] ∧
    bif !t2 then R (Ending.returned (Value.int IntKind.i64 (6 : Int))) w1
    else
     SX.Ptr p0 fun (a3 : Addr) =>
      ∃ (q4 : Option Addr),
       ∃ (n5 : Nat),
        ∃ (n6 : Nat),
         w1.cell? (a3.add (0 : Nat)) = some (Value.slice q4 n5 n6) ∧
          Rets Try.prog (49 : Nat) #[Value.slice q4 n5 n6, Value.string p1] w1 fun (v7 : Value) (w8 : World) =>
           ∃ (i9 : Int),
            v7 = Value.int IntKind.i64 i9 ∧
             Keeps w1 w8 [] ∧
              bif decide (i9 < (0 : Int)) then R (Ending.returned (Value.int IntKind.i64 (7 : Int))) w8
              else
               SX.Ptr p0 fun (a10 : Addr) =>
                ∃ (q11 : Option Addr),
                 ∃ (n12 : Nat),
                  ∃ (n13 : Nat),
                   w8.drew.cell? (a10.add (0 : Nat)) = some (Value.slice q11 n12 n13) ∧
                    SX.Ptr p0 fun (a14 : Addr) =>
                     ∃ (q15 : Option Addr),
                      ∃ (n16 : Nat),
                       ∃ (n17 : Nat),
                        w8.drew.cell? (a14.add (0 : Nat)) = some (Value.slice q15 n16 n17) ∧
                         ((0 : Int) ≤ i9 ∧ i9 < (↑n16 : Int)) ∧
                          SX.Ptr q15 fun (a18 : Addr) =>
                           ∃ (i19 : Int),
                            w8.drew.cell? ((a18.add (i9.toNat * (2 : Nat))).add (1 : Nat)) = some (Value.int IntKind.i64 i19) ∧
                             Rets Try.prog (104 : Nat) #[Value.slice q11 n12 n13, Value.string p1] w8.drew fun (v20 : Value) (w21 : World) =>
                              ∃ (q22 : Option Addr),
                               ∃ (n23 : Nat),
                                ∃ (n24 : Nat),
                                 v20 = Value.slice q22 n23 n24 ∧
                                  Keeps w8.drew w21 [] ∧
                                   w21.cell? ((a18.add (i9.toNat * (2 : Nat))).add (1 : Nat)) = some (Value.int IntKind.i64 i19) ∧
                                    w21.cell? (a14.add (0 : Nat)) = some (Value.slice q15 n16 n17) ∧
                                     Rets Try.prog (103 : Nat) #[Value.slice q22 n23 n24, Value.string p2, Value.int IntKind.i64 i19] w21 fun (v25 : Value) (w26 : World) =>
                                      ∃ (q27 : Option Addr),
                                       ∃ (n28 : Nat),
                                        ∃ (n29 : Nat),
                                         v25 = Value.slice q27 n28 n29 ∧
                                          Keeps w21 w26 [] ∧
                                           Rets Try.prog (102 : Nat) #[Value.pointer p0, Value.slice q27 n28 n29] w26 fun (v30 : Value) (w31 : World) =>
                                            ∃ (i32 : Int), v30 = Value.int IntKind.i64 i32 ∧ Keeps w26 w31 [] ∧ R (Ending.returned (Value.int IntKind.i64 i32)) w31
theorem vcTry79 (p0 : Option Addr) (p1 : ByteArray) (p2 : ByteArray) (w : World) (R : Ending → World → Prop) : SX.vcFn Try.prog [] Try.f79 [.v (.pointer p0), .v (.string p1), .v (.string p2)] [] w R = VCTry79 p0 p1 p2 w R := by kernel_rfl
def VCTry80 (p0 : Option Addr) (p1 : ByteArray) (w : World) (R : Ending → World → Prop) : Prop :=
SX.Ptr p0 fun (a0 : Addr) =>
 ∃ (q1 : Option Addr),
  ∃ (n2 : Nat),
   ∃ (n3 : Nat),
    w.cell? (a0.add (0 : Nat)) = some (Value.slice q1 n2 n3) ∧
     Rets Try.prog (49 : Nat) #[Value.slice q1 n2 n3, Value.string p1] w fun (v4 : Value) (w5 : World) =>
      ∃ (i6 : Int),
       v4 = Value.int IntKind.i64 i6 ∧
        Keeps w w5 [] ∧
         bif decide (i6 < (0 : Int)) then R (Ending.returned (Value.int IntKind.i64 (7 : Int))) w5
         else
          SX.Ptr p0 fun (a7 : Addr) =>
           ∃ (q8 : Option Addr),
            ∃ (n9 : Nat),
             ∃ (n10 : Nat),
              w5.cell? (a7.add (0 : Nat)) = some (Value.slice q8 n9 n10) ∧
               Rets Try.prog (104 : Nat) #[Value.slice q8 n9 n10, Value.string p1] w5 fun (v11 : Value) (w12 : World) =>
                ∃ (q13 : Option Addr),
                 ∃ (n14 : Nat),
                  ∃ (n15 : Nat),
                   v11 = Value.slice q13 n14 n15 ∧
                    Keeps w5 w12 [] ∧
                     Rets Try.prog (102 : Nat) #[Value.pointer p0, Value.slice q13 n14 n15] w12 fun (v16 : Value) (w17 : World) =>
                      ∃ (i18 : Int), v16 = Value.int IntKind.i64 i18 ∧ Keeps w12 w17 [] ∧ R (Ending.returned (Value.int IntKind.i64 i18)) w17
theorem vcTry80 (p0 : Option Addr) (p1 : ByteArray) (w : World) (R : Ending → World → Prop) : SX.vcFn Try.prog [] Try.f80 [.v (.pointer p0), .v (.string p1)] [] w R = VCTry80 p0 p1 w R := by kernel_rfl
def VCTry81 (p0 : Option Addr) (p1 : Int) (w : World) (R : Ending → World → Prop) : Prop :=
bif decide (p1 < (0 : Int)) then
 SX.Ptr p0 fun (a0 : Addr) =>
  ∃ (q1 : Option Addr),
   ∃ (n2 : Nat),
    ∃ (n3 : Nat),
     w.cell? (a0.add (1 : Nat)) = some (Value.slice q1 n2 n3) ∧
      bif decide ((0 : Int) < (↑n2 : Int)) then
       SX.Ptr p0 fun (a4 : Addr) =>
        ∃ (q5 : Option Addr),
         ∃ (n6 : Nat),
          ∃ (n7 : Nat),
           w.cell? (a4.add (1 : Nat)) = some (Value.slice q5 n6 n7) ∧
            ((0 : Int) ≤ (0 : Int) ∧ (0 : Int) < (↑n6 : Int)) ∧
             SX.Ptr q5 fun (a8 : Addr) =>
              ∃ (q9 : Option Addr),
               ∃ (n10 : Nat),
                ∃ (n11 : Nat),
                 w.cell? (a8.add (0 : Nat)) = some (Value.slice q9 n10 n11) ∧
                  SX.Ptr p0 fun (a12 : Addr) =>
                   (∃ (v13 : Value), w.cell? ((a12.add (0 : Nat)).add (0 : Nat)) = some v13) ∧
                    w.frozen? ((a12.add (0 : Nat)).add (0 : Nat)) = false ∧
                     SX.Ptr p0 fun (a14 : Addr) =>
                      (∃ (v15 : Value), (w.setCell ((a12.add (0 : Nat)).add (0 : Nat)) (Value.slice q9 n10 n11)).cell? ((a14.add (1 : Nat)).add (0 : Nat)) = some v15) ∧
                       (w.setCell ((a12.add (0 : Nat)).add (0 : Nat)) (Value.slice q9 n10 n11)).frozen? ((a14.add (1 : Nat)).add (0 : Nat)) = false ∧
                        R (Ending.returned (Value.tuple #[]))
                         ((w.setCell ((a12.add (0 : Nat)).add (0 : Nat)) (Value.slice q9 n10 n11)).setCell ((a14.add (1 : Nat)).add (0 : Nat)) (Value.slice none (0 : Nat) (0 : Nat)))
      else
       SX.Ptr p0 fun (a16 : Addr) =>
        (∃ (v17 : Value), w.cell? ((a16.add (1 : Nat)).add (0 : Nat)) = some v17) ∧
         w.frozen? ((a16.add (1 : Nat)).add (0 : Nat)) = false ∧ R (Ending.returned (Value.tuple #[])) (w.setCell ((a16.add (1 : Nat)).add (0 : Nat)) (Value.slice none (0 : Nat) (0 : Nat)))
else
 SX.Ptr p0 fun (a18 : Addr) =>
  ∃ (q19 : Option Addr),
   ∃ (n20 : Nat),
    ∃ (n21 : Nat),
     w.cell? (a18.add (1 : Nat)) = some (Value.slice q19 n20 n21) ∧
      bif decide (p1 < (↑n20 : Int)) then
       SX.Ptr p0 fun (a22 : Addr) =>
        ∃ (q23 : Option Addr),
         ∃ (n24 : Nat),
          ∃ (n25 : Nat),
           w.cell? (a22.add (1 : Nat)) = some (Value.slice q23 n24 n25) ∧
            ((0 : Int) ≤ p1 ∧ p1 < (↑n24 : Int)) ∧
             SX.Ptr q23 fun (a26 : Addr) =>
              ∃ (q27 : Option Addr),
               ∃ (n28 : Nat),
                ∃ (n29 : Nat),
                 w.cell? (a26.add (p1.toNat * (1 : Nat))) = some (Value.slice q27 n28 n29) ∧
                  SX.Ptr p0 fun (a30 : Addr) =>
                   (∃ (v31 : Value), w.cell? ((a30.add (0 : Nat)).add (0 : Nat)) = some v31) ∧
                    w.frozen? ((a30.add (0 : Nat)).add (0 : Nat)) = false ∧
                     SX.Ptr p0 fun (a32 : Addr) =>
                      (∃ (v33 : Value), (w.setCell ((a30.add (0 : Nat)).add (0 : Nat)) (Value.slice q27 n28 n29)).cell? ((a32.add (1 : Nat)).add (0 : Nat)) = some v33) ∧
                       (w.setCell ((a30.add (0 : Nat)).add (0 : Nat)) (Value.slice q27 n28 n29)).frozen? ((a32.add (1 : Nat)).add (0 : Nat)) = false ∧
                        R (Ending.returned (Value.tuple #[]))
                         ((w.setCell ((a30.add (0 : Nat)).add (0 : Nat)) (Value.slice q27 n28 n29)).setCell ((a32.add (1 : Nat)).add (0 : Nat)) (Value.slice none (0 : Nat) (0 : Nat)))
      else
       SX.Ptr p0 fun (a34 : Addr) =>
        (∃ (v35 : Value), w.cell? ((a34.add (1 : Nat)).add (0 : Nat)) = some v35) ∧
         w.frozen? ((a34.add (1 : Nat)).add (0 : Nat)) = false ∧ R (Ending.returned (Value.tuple #[])) (w.setCell ((a34.add (1 : Nat)).add (0 : Nat)) (Value.slice none (0 : Nat) (0 : Nat)))
theorem vcTry81 (p0 : Option Addr) (p1 : Int) (w : World) (R : Ending → World → Prop) : SX.vcFn Try.prog [] Try.f81 [.v (.pointer p0), .v (.int .i64 p1)] [] w R = VCTry81 p0 p1 w R := by kernel_rfl
def VCTry50 (p0 : Option Addr) (p1 : Int) (w : World) (R : Ending → World → Prop) : Prop :=
∃ (I0 : Int → World → Prop),
 ∃ (I1 : Int → World → Nat),
  I0 (0 : Int) w ∧
   ∀ (i2 : Int) (w3 : World),
    I0 i2 w3 →
     SX.Ptr p0 fun (a4 : Addr) =>
      ∃ (q5 : Option Addr),
       ∃ (n6 : Nat),
        ∃ (n7 : Nat),
         w3.cell? (a4.add (1 : Nat)) = some (Value.slice q5 n6 n7) ∧
          bif decide (i2 < (↑n6 : Int)) then
           SX.Ptr p0 fun (a8 : Addr) =>
            ∃ (q9 : Option Addr),
             ∃ (n10 : Nat),
              ∃ (n11 : Nat),
               w3.cell? (a8.add (1 : Nat)) = some (Value.slice q9 n10 n11) ∧
                ((0 : Int) ≤ i2 ∧ i2 < (↑n10 : Int)) ∧
                 SX.Ptr q9 fun (a12 : Addr) =>
                  ∃ (q13 : Option Addr),
                   ∃ (n14 : Nat),
                    ∃ (n15 : Nat),
                     w3.cell? (a12.add (i2.toNat * (1 : Nat))) = some (Value.slice q13 n14 n15) ∧
                      Rets Try.prog (94 : Nat) #[Value.slice q13 n14 n15, Value.int IntKind.i64 p1] w3 fun (v16 : Value) (w17 : World) =>
                       ∃ (t18 : Bool),
                        v16 = Value.bool t18 ∧
                         Keeps w3 w17 [] ∧ bif t18 then R (Ending.returned (Value.bool true)) w17 else Wr IntKind.i64 (i2 + (1 : Int)) fun (i19 : Int) => I0 i19 w17 ∧ I1 i19 w17 < I1 i2 w3
          else
           SX.Ptr p0 fun (a20 : Addr) =>
            ∃ (q21 : Option Addr),
             ∃ (n22 : Nat),
              ∃ (n23 : Nat),
               w3.cell? (a20.add (0 : Nat)) = some (Value.slice q21 n22 n23) ∧
                Rets Try.prog (94 : Nat) #[Value.slice q21 n22 n23, Value.int IntKind.i64 p1] w3 fun (v24 : Value) (w25 : World) =>
                 ∃ (t26 : Bool), v24 = Value.bool t26 ∧ Keeps w3 w25 [] ∧ R (Ending.returned (Value.bool t26)) w25
theorem vcTry50 (p0 : Option Addr) (p1 : Int) (w : World) (R : Ending → World → Prop) : SX.vcFn Try.prog [(2, ⟨[(5, .int .i64)], [1, 0], []⟩)] Try.f50 [.v (.pointer p0), .v (.int .i64 p1)] [] w R = VCTry50 p0 p1 w R := by kernel_rfl
def VCTry47 (p0 : Option Addr) (p1 : ByteArray) (p2 : Int) (w : World) (R : Ending → World → Prop) : Prop :=
bif p0.isNone then R (Ending.returned (Value.int IntKind.i64 (1 : Int))) w
else
 SX.Ptr p0 fun (a0 : Addr) =>
  ∃ (q1 : Option Nat),
   w.cell? (a0.add (0 : Nat)) = some (Value.map q1) ∧
    Runs Try.prog (Instr.lookup (76 : Nat) (Value.map q1) (Value.string p1) true) w fun (v2 : Value) (w3 : World) =>
     ∃ (i4 : Int),
      ∃ (t5 : Bool),
       v2 = Value.tuple #[Value.int IntKind.i64 i4, Value.bool t5] ∧
        Keeps w w3 [] ∧
         Rets Try.prog (87 : Nat) #[Value.string p1] w3 fun (v6 : Value) (w7 : World) =>
          ∃ (t8 : Bool),
           v6 = Value.bool t8 ∧
            Keeps w3 w7 [] ∧
             bif !t8 then R (Ending.returned (Value.int IntKind.i64 (6 : Int))) w7
             else
              bif t5 then R (Ending.returned (Value.int IntKind.i64 (16 : Int))) w7
              else
               SX.Ptr p0 fun (a9 : Addr) =>
                ∃ (q10 : Option Nat),
                 w7.cell? (a9.add (0 : Nat)) = some (Value.map q10) ∧
                  Runs Try.prog (Builtin.len_ #[(76 : Nat)] (3 : Nat) #[Value.map q10]) w7 fun (v11 : Value) (w12 : World) =>
                   ∃ (i13 : Int),
                    v11 = Value.int IntKind.i64 i13 ∧
                     Keeps w7 w12 [] ∧
                      bif decide (i13 ≥ (16 : Int)) then R (Ending.returned (Value.int IntKind.i64 (14 : Int))) w12
                      else
                       Rets Try.prog (88 : Nat) #[Value.pointer p0, Value.agg #[Value.string { data := #[] }, Value.string p1, Value.int IntKind.i64 p2]] w12 fun (v14 : Value) (w15 : World) =>
                        ∃ (i16 : Int), v14 = Value.int IntKind.i64 i16 ∧ Keeps w12 w15 [] ∧ R (Ending.returned (Value.int IntKind.i64 i16)) w15
theorem vcTry47 (p0 : Option Addr) (p1 : ByteArray) (p2 : Int) (w : World) (R : Ending → World → Prop) : SX.vcFn Try.prog [] Try.f47 [.v (.pointer p0), .v (.string p1), .v (.int .i64 p2)] [] w R = VCTry47 p0 p1 p2 w R := by kernel_rfl
def VCTry43 (p0 : Option Addr) (p1 : ByteArray) (p2 : ByteArray) (w : World) (R : Ending → World → Prop) : Prop :=
bif p0.isNone then R (Ending.returned (Value.int IntKind.i64 (1 : Int))) w
else
 SX.Ptr p0 fun (a0 : Addr) =>
  ∃ (q1 : Option Nat),
   w.cell? (a0.add (0 : Nat)) = some (Value.map q1) ∧
    Runs Try.prog (Instr.lookup (76 : Nat) (Value.map q1) (Value.string p1) true) w fun (v2 : Value) (w3 : World) =>
     ∃ (i4 : Int),
      ∃ (t5 : Bool),
       v2 = Value.tuple #[Value.int IntKind.i64 i4, Value.bool t5] ∧
        Keeps w w3 [] ∧
         Rets Try.prog (87 : Nat) #[Value.string p2] w3 fun (v6 : Value) (w7 : World) =>
          ∃ (t8 : Bool),
           v6 = Value.bool t8 ∧
            Keeps w3 w7 [] ∧
             bif !t8 then R (Ending.returned (Value.int IntKind.i64 (6 : Int))) w7
             else
              bif !t5 then R (Ending.returned (Value.int IntKind.i64 (7 : Int))) w7
              else
               Rets Try.prog (88 : Nat) #[Value.pointer p0, Value.agg #[Value.string p1, Value.string p2, Value.int IntKind.i64 (0 : Int)]] w7 fun (v9 : Value) (w10 : World) =>
                ∃ (i11 : Int), v9 = Value.int IntKind.i64 i11 ∧ Keeps w7 w10 [] ∧ R (Ending.returned (Value.int IntKind.i64 i11)) w10
theorem vcTry43 (p0 : Option Addr) (p1 : ByteArray) (p2 : ByteArray) (w : World) (R : Ending → World → Prop) : SX.vcFn Try.prog [] Try.f43 [.v (.pointer p0), .v (.string p1), .v (.string p2)] [] w R = VCTry43 p0 p1 p2 w R := by kernel_rfl
def VCTry48 (p0 : Option Addr) (p1 : ByteArray) (w : World) (R : Ending → World → Prop) : Prop :=
bif p0.isNone then R (Ending.returned (Value.int IntKind.i64 (1 : Int))) w
else
 SX.Ptr p0 fun (a0 : Addr) =>
  ∃ (q1 : Option Nat),
   w.cell? (a0.add (0 : Nat)) = some (Value.map q1) ∧
    Runs Try.prog (Instr.lookup (76 : Nat) (Value.map q1) (Value.string p1) true) w fun (v2 : Value) (w3 : World) =>
     ∃ (i4 : Int),
      ∃ (t5 : Bool),
       v2 = Value.tuple #[Value.int IntKind.i64 i4, Value.bool t5] ∧
        Keeps w w3 [] ∧
         bif !t5 then R (Ending.returned (Value.int IntKind.i64 (7 : Int))) w3
         else
          Rets Try.prog (88 : Nat) #[Value.pointer p0, Value.agg #[Value.string p1, Value.string { data := #[] }, Value.int IntKind.i64 (0 : Int)]] w3 fun (v6 : Value) (w7 : World) =>
           ∃ (i8 : Int), v6 = Value.int IntKind.i64 i8 ∧ Keeps w3 w7 [] ∧ R (Ending.returned (Value.int IntKind.i64 i8)) w7
theorem vcTry48 (p0 : Option Addr) (p1 : ByteArray) (w : World) (R : Ending → World → Prop) : SX.vcFn Try.prog [] Try.f48 [.v (.pointer p0), .v (.string p1)] [] w R = VCTry48 p0 p1 w R := by kernel_rfl
def VCTry42 (p0 : Option Addr) (p1 : ByteArray) (w : World) (R : Ending → World → Prop) : Prop :=
bif p0.isNone then R (Ending.returned (Value.tuple #[Value.int IntKind.i64 (0 : Int), Value.bool false])) w
else
 SX.Ptr p0 fun (a0 : Addr) =>
  ∃ (q1 : Option Nat),
   w.cell? (a0.add (0 : Nat)) = some (Value.map q1) ∧
    Runs Try.prog (Instr.lookup (76 : Nat) (Value.map q1) (Value.string p1) true) w fun (v2 : Value) (w3 : World) =>
     ∃ (i4 : Int), ∃ (t5 : Bool), v2 = Value.tuple #[Value.int IntKind.i64 i4, Value.bool t5] ∧ Keeps w w3 [] ∧ R (Ending.returned (Value.tuple #[Value.int IntKind.i64 i4, Value.bool t5])) w3
theorem vcTry42 (p0 : Option Addr) (p1 : ByteArray) (w : World) (R : Ending → World → Prop) : SX.vcFn Try.prog [] Try.f42 [.v (.pointer p0), .v (.string p1)] [] w R = VCTry42 p0 p1 w R := by kernel_rfl
def VCTry39 (p0 : Option Addr) (w : World) (R : Ending → World → Prop) : Prop :=
bif p0.isNone then R (Ending.returned (Value.slice none (0 : Nat) (0 : Nat))) w
else
 SX.Ptr p0 fun (a0 : Addr) =>
  ∃ (q1 : Option Nat),
   w.cell? (a0.add (0 : Nat)) = some (Value.map q1) ∧
    Rets Try.prog (84 : Nat) #[Value.map q1] w fun (v2 : Value) (w3 : World) =>
     ∃ (v4 : Value),
      v2 = v4 ∧
       Keeps w w3 [] ∧
        Rets Try.prog (83 : Nat) #[v4] w3 fun (v5 : Value) (w6 : World) =>
         ∃ (q7 : Option Addr), ∃ (n8 : Nat), ∃ (n9 : Nat), v5 = Value.slice q7 n8 n9 ∧ Keeps w3 w6 [] ∧ R (Ending.returned (Value.slice q7 n8 n9)) w6
theorem vcTry39 (p0 : Option Addr) (w : World) (R : Ending → World → Prop) : SX.vcFn Try.prog [] Try.f39 [.v (.pointer p0)] [] w R = VCTry39 p0 w R := by kernel_rfl
def VCTry46 (p0 : Option Addr) (p1 : Int) (w : World) (R : Ending → World → Prop) : Prop :=
bif p0.isNone then
 Known (w.alloc (Obj.cells #[Value.int IntKind.i64 p1] (3 : Nat))) [(w.heap.size, [((0 : Nat), Value.int IntKind.i64 p1)])] →
  R (Ending.returned (Value.bool false)) (w.alloc (Obj.cells #[Value.int IntKind.i64 p1] (3 : Nat)))
else
 SX.Ptr p0 fun (a0 : Addr) =>
  ∃ (q1 : Option Addr),
   ∃ (n2 : Nat),
    ∃ (n3 : Nat),
     (w.alloc (Obj.cells #[Value.int IntKind.i64 p1] (3 : Nat))).cell? (a0.add (2 : Nat)) = some (Value.slice q1 n2 n3) ∧
      (Known (w.alloc (Obj.cells #[Value.int IntKind.i64 p1] (3 : Nat))) [(w.heap.size, [((0 : Nat), Value.int IntKind.i64 p1)])] →
       Rets Try.prog (89 : Nat) #[Value.slice q1 n2 n3, Value.func (Fn.func (90 : Nat)) #[] #[Value.pointer (some { block := w.heap.size, off := (0 : Nat) })]]
        (w.alloc (Obj.cells #[Value.int IntKind.i64 p1] (3 : Nat))) fun (v4 : Value) (w5 : World) =>
        ∃ (t6 : Bool),
         v4 = Value.bool t6 ∧
          Keeps (w.alloc (Obj.cells #[Value.int IntKind.i64 p1] (3 : Nat))) w5 [] ∧
           ∃ (i7 : Int),
            w5.cell? { block := w.heap.size, off := (0 : Nat) } = some (Value.int IntKind.i64 i7) ∧
             w5.frozen? { block := w.heap.size, off := (0 : Nat) } = false ∧
              bif t6 then Known w5.drew [(w.heap.size, [((0 : Nat), Value.int IntKind.i64 i7)])] → R (Ending.returned (Value.bool true)) w5.drew
              else
               SX.Ptr p0 fun (a8 : Addr) =>
                ∃ (q9 : Option Nat),
                 w5.drew.cell? (a8.add (0 : Nat)) = some (Value.map q9) ∧
                  (Known w5.drew [(w.heap.size, [((0 : Nat), Value.int IntKind.i64 i7)])] →
                   Rets Try.prog (93 : Nat) #[Value.map q9] w5.drew fun (v10 : Value) (w11 : World) =>
                    ∃ (v12 : Value),
                     v10 = v12 ∧
                      Keeps w5.drew w11 [] ∧
                       ∃ (i13 : Int),
                        w11.cell? { block := w.heap.size, off := (0 : Nat) } = some (Value.int IntKind.i64 i13) ∧
                         w11.frozen? { block := w.heap.size, off := (0 : Nat) } = false ∧
                          w11.cell? { block := w.heap.size, off := (0 : Nat) } = some (Value.int IntKind.i64 i7) ∧
                           (Known w11 [(w.heap.size, [((0 : Nat), Value.int IntKind.i64 i13)])] →
                            Rets Try.prog (92 : Nat) #[v12] w11 fun (v14 : Value) (w15 : World) =>
                             ∃ (q16 : Option Addr),
                              ∃ (n17 : Nat),
                               ∃ (n18 : Nat),
                                v14 = Value.slice q16 n17 n18 ∧
                                 Keeps w11 w15 [] ∧
                                  ∃ (i19 : Int),
                                   w15.cell? { block := w.heap.size, off := (0 : Nat) } = some (Value.int IntKind.i64 i19) ∧
                                    w15.frozen? { block := w.heap.size, off := (0 : Nat) } = false ∧
                                     w15.cell? { block := w.heap.size, off := (0 : Nat) } = some (Value.int IntKind.i64 i7) ∧
                                      (Known w15 [(w.heap.size, [((0 : Nat), Value.int IntKind.i64 i19)])] →
                                       Rets Try.prog (91 : Nat) #[Value.slice q16 n17 n18, Value.int IntKind.i64 i7] w15 fun (v20 : Value) (w21 : World) =>
                                        ∃ (t22 : Bool),
                                         v20 = Value.bool t22 ∧
                                          Keeps w15 w21 [] ∧
                                           ∃ (i23 : Int),
                                            w21.cell? { block := w.heap.size, off := (0 : Nat) } = some (Value.int IntKind.i64 i23) ∧
                                             w21.frozen? { block := w.heap.size, off := (0 : Nat) } = false ∧
                                              bif t22 then Known w21 [(w.heap.size, [((0 : Nat), Value.int IntKind.i64 i23)])] → R (Ending.returned (Value.bool true)) w21
                                              else
                                               SX.Ptr p0 fun (a24 : Addr) =>
                                                ∃ (q25 : Option Nat),
                                                 w21.cell? (a24.add (1 : Nat)) = some (Value.map q25) ∧
                                                  (Known w21 [(w.heap.size, [((0 : Nat), Value.int IntKind.i64 i23)])] →
                                                   Rets Try.prog (93 : Nat) #[Value.map q25] w21 fun (v26 : Value) (w27 : World) =>
                                                    ∃ (v28 : Value),
                                                     v26 = v28 ∧
                                                      Keeps w21 w27 [] ∧
                                                       ∃ (i29 : Int),
                                                        w27.cell? { block := w.heap.size, off := (0 : Nat) } = some (Value.int IntKind.i64 i29) ∧
                                                         w27.frozen? { block := w.heap.size, off := (0 : Nat) } = false ∧
                                                          w27.cell? { block := w.heap.size, off := (0 : Nat) } = some (Value.int IntKind.i64 i23) ∧
                                                           (Known w27 [(w.heap.size, [((0 : Nat), Value.int IntKind.i64 i29)])] →
                                                            Rets Try.prog (92 : Nat) #[v28] w27 fun (v30 : Value) (w31 : World) =>
                                                             ∃ (q32 : Option Addr),
                                                              ∃ (n33 : Nat),
                                                               ∃ (n34 : Nat),
                                                                v30 = Value.slice q32 n33 n34 ∧
                                                                 Keeps w27 w31 [] ∧
                                                                  ∃ (i35 : Int),
                                                                   w31.cell? { block := w.heap.size, off := (0 : Nat) } =
                                                                     some (Value.int IntKind.i64 i35) ∧
                                                                    w31.frozen? { block := w.heap.size, off := (0 : Nat) } = false ∧
                                                                     w31.cell? { block := w.heap.size, off := (0 : Nat) } =
                                                                       some (Value.int IntKind.i64 i23) ∧
                                                                      (Known w31 [(w.heap.size, [((0 : Nat), Value.int IntKind.i64 i35)])] →
                                                                       Rets Try.prog (91 : Nat) #[Value.slice q32 n33 n34, Value.int IntKind.i64 i23]
                                                                        w31 fun (v36 : Value) (w37 : World) =>
                                                                        ∃ (t38 : Bool),
                                                                         v36 = Value.bool t38 ∧
                                                                          Keeps w31 w37 [] ∧
                                                                           ∃ (i39 : Int),
                                                                            w37.cell? { block := w.heap.size, off := (0 : Nat) } =
                                                                              some (Value.int IntKind.i64 i39) ∧
                                                                             w37.frozen? { block := w.heap.size, off := (0 : Nat) } = false ∧
                                                                              (Known w37
                                                                                [(w.heap.size, [((0 : Nat), Value.int IntKind.i64 i39)])] →
                                                                               R (Ending.returned (Value.bool t38)) w37))))))))
theorem vcTry46 (p0 : Option Addr) (p1 : Int) (w : World) (R : Ending → World → Prop) : SX.vcFn Try.prog [] Try.f46 [.v (.pointer p0), .v (.int .i64 p1)] [] w R = VCTry46 p0 p1 w R := by kernel_rfl
def VCTry41 (p0 : Option Addr) (w : World) (R : Ending → World → Prop) : Prop :=
bif p0.isNone then R (Ending.returned (Value.int IntKind.i64 (0 : Int))) w
else SX.Ptr p0 fun (a0 : Addr) => ∃ (q1 : Option Addr), ∃ (n2 : Nat), ∃ (n3 : Nat), w.cell? (a0.add (2 : Nat)) = some (Value.slice q1 n2 n3) ∧ R (Ending.returned (Value.int IntKind.i64 (↑n2 : Int))) w
theorem vcTry41 (p0 : Option Addr) (w : World) (R : Ending → World → Prop) : SX.vcFn Try.prog [] Try.f41 [.v (.pointer p0)] [] w R = VCTry41 p0 w R := by kernel_rfl
def VCTry38 (p0 : Option Addr) (w : World) (R : Ending → World → Prop) : Prop :=
bif !p0.isNone then
 SX.Ptr p0 fun (a0 : Addr) =>
  ∃ (q1 : Option Nat),
   w.cell? (a0.add (0 : Nat)) = some (Value.map q1) ∧
    Rets Try.prog (82 : Nat) #[Value.map q1] w fun (v2 : Value) (w3 : World) =>
     ∃ (q4 : Option Nat),
      v2 = Value.map q4 ∧
       Keeps w w3 [] ∧
        SX.Ptr p0 fun (a5 : Addr) =>
         (∃ (v6 : Value), w3.cell? ((a5.add (1 : Nat)).add (0 : Nat)) = some v6) ∧
          w3.frozen? ((a5.add (1 : Nat)).add (0 : Nat)) = false ∧
           SX.Ptr p0 fun (a7 : Addr) =>
            (∃ (v8 : Value), (w3.setCell ((a5.add (1 : Nat)).add (0 : Nat)) (Value.map q4)).cell? ((a7.add (2 : Nat)).add (0 : Nat)) = some v8) ∧
             (w3.setCell ((a5.add (1 : Nat)).add (0 : Nat)) (Value.map q4)).frozen? ((a7.add (2 : Nat)).add (0 : Nat)) = false ∧
              R (Ending.returned (Value.tuple #[])) ((w3.setCell ((a5.add (1 : Nat)).add (0 : Nat)) (Value.map q4)).setCell ((a7.add (2 : Nat)).add (0 : Nat)) (Value.slice none (0 : Nat) (0 : Nat)))
else R (Ending.returned (Value.tuple #[])) w
theorem vcTry38 (p0 : Option Addr) (w : World) (R : Ending → World → Prop) : SX.vcFn Try.prog [] Try.f38 [.v (.pointer p0)] [] w R = VCTry38 p0 w R := by kernel_rfl
def VCTry40 (p0 : Option Addr) (p1 : Int) (w : World) (R : Ending → World → Prop) : Prop :=
bif p0.isNone then R (Ending.returned (Value.tuple #[])) w
else
 SX.Ptr p0 fun (a0 : Addr) =>
  (∃ (v1 : Value), (w.alloc (Obj.map #[] (0 : Nat))).cell? ((a0.add (0 : Nat)).add (0 : Nat)) = some v1) ∧
   (w.alloc (Obj.map #[] (0 : Nat))).frozen? ((a0.add (0 : Nat)).add (0 : Nat)) = false ∧
    SX.Ptr p0 fun (a2 : Addr) =>
     ∃ (q3 : Option Nat),
      ((w.alloc (Obj.map #[] (0 : Nat))).setCell ((a0.add (0 : Nat)).add (0 : Nat)) (Value.map (some w.heap.size))).drew.cell? (a2.add (0 : Nat)) = some (Value.map q3) ∧
       SX.Ptr p0 fun (a4 : Addr) =>
        ∃ (q5 : Option Nat),
         ((w.alloc (Obj.map #[] (0 : Nat))).setCell ((a0.add (0 : Nat)).add (0 : Nat)) (Value.map (some w.heap.size))).drew.cell? (a4.add (1 : Nat)) = some (Value.map q5) ∧
          Rets Try.prog (85 : Nat) #[Value.map q3, Value.map q5] ((w.alloc (Obj.map #[] (0 : Nat))).setCell ((a0.add (0 : Nat)).add (0 : Nat)) (Value.map (some w.heap.size))).drew
           fun (v6 : Value) (w7 : World) =>
           v6 = Value.tuple #[] ∧
            Keeps ((w.alloc (Obj.map #[] (0 : Nat))).setCell ((a0.add (0 : Nat)).add (0 : Nat)) (Value.map (some w.heap.size))).drew w7 [] ∧
             SX.Ptr p0 fun (a8 : Addr) =>
              ∃ (q9 : Option Addr),
               ∃ (n10 : Nat),
                ∃ (n11 : Nat),
                 w7.cell? (a8.add (2 : Nat)) = some (Value.slice q9 n10 n11) ∧
                  ∃ (I12 : Int → World → Prop),
                   ∃ (I13 : Int → World → Nat),
                    I12 (0 : Int) w7 ∧
                     ∀ (i14 : Int) (w15 : World),
                      I12 i14 w15 →
                       bif decide (i14 < (↑n10 : Int)) then
                        ((0 : Int) ≤ i14 ∧ i14 < (↑n10 : Int)) ∧
                         SX.Ptr q9 fun (a16 : Addr) =>
                          ∃ (s17 : ByteArray),
                           ∃ (s18 : ByteArray),
                            ∃ (i19 : Int),
                             (w15.cell? ((a16.add (i14.toNat * (3 : Nat))).add (0 : Nat)) = some (Value.string s17) ∧
                               w15.cell? ((a16.add (i14.toNat * (3 : Nat))).add (1 : Nat)) = some (Value.string s18) ∧
                                w15.cell? ((a16.add (i14.toNat * (3 : Nat))).add (2 : Nat)) = some (Value.int IntKind.i64 i19) ∧ True) ∧
                              bif decide (i14 ≥ p1) then
                               Known
                                 ((((w15.alloc (Obj.cells #[Value.string { data := #[] }, Value.string { data := #[] }, Value.int IntKind.i64 (0 : Int)] (135 : Nat))).setCell
                                      {block := w15.heap.size, off := (0 : Nat) } (Value.string s17)).setCell
                                    {block := w15.heap.size, off := (1 : Nat) } (Value.string s18)).setCell
                                  {block := w15.heap.size, off := (2 : Nat) } (Value.int IntKind.i64 i19))
                                 [(w15.heap.size, [((0 : Nat), Value.string s17), ((1 : Nat), Value.string s18), ((2 : Nat), Value.int IntKind.i64 i19)])] →
                                Rets Try.prog (38 : Nat) #[Value.pointer p0]
                                 ((((w15.alloc (Obj.cells #[Value.string { data := #[] }, Value.string { data := #[] }, Value.int IntKind.i64 (0 : Int)] (135 : Nat))).setCell
                                      {block := w15.heap.size, off := (0 : Nat) } (Value.string s17)).setCell
                                    {block := w15.heap.size, off := (1 : Nat) } (Value.string s18)).setCell
                                  {block := w15.heap.size, off := (2 : Nat) } (Value.int IntKind.i64 i19))
                                 fun (v20 : Value) (w21 : World) =>
                                 v20 = Value.tuple #[] ∧
                                  Keeps
                                    ((((w15.alloc (Obj.cells #[Value.string { data := #[] }, Value.string { data := #[] }, Value.int IntKind.i64 (0 : Int)] (135 : Nat))).setCell
                                         {block := w15.heap.size, off := (0 : Nat) } (Value.string s17)).setCell
                                       {block := w15.heap.size, off := (1 : Nat) } (Value.string s18)).setCell
                                     {block := w15.heap.size, off := (2 : Nat) } (Value.int IntKind.i64 i19))
                                    w21 [w15.heap.size] ∧
                                   (Known w21 [(w15.heap.size, [((0 : Nat), Value.string s17), ((1 : Nat), Value.string s18), ((2 : Nat), Value.int IntKind.i64 i19)])] →
                                    R (Ending.returned (Value.tuple #[])) w21)
                              else
                               SX.Ptr p0 fun (a22 : Addr) =>
                                ∃ (q23 : Option Nat),
                                 ((((w15.alloc (Obj.cells #[Value.string { data := #[] }, Value.string { data := #[] }, Value.int IntKind.i64 (0 : Int)] (135 : Nat))).setCell
                                           {block := w15.heap.size, off := (0 : Nat) } (Value.string s17)).setCell
                                         {block := w15.heap.size, off := (1 : Nat) } (Value.string s18)).setCell
                                       {block := w15.heap.size, off := (2 : Nat) } (Value.int IntKind.i64 i19)).drew.cell?
                                    (a22.add (0 : Nat)) =
                                   some (Value.map q23) ∧
                                  (Known
                                    ((((w15.alloc (Obj.cells #[Value.string { data := #[] }, Value.string { data := #[] }, Value.int IntKind.i64 (0 : Int)] (135 : Nat))).setCell
                                          {block := w15.heap.size, off := (0 : Nat) } (Value.string s17)).setCell
                                        {block := w15.heap.size, off := (1 : Nat) } (Value.string s18)).setCell
                                      {block := w15.heap.size, off := (2 : Nat) } (Value.int IntKind.i64 i19)).drew
                                    [(w15.heap.size, [((0 : Nat), Value.string s17), ((1 : Nat), Value.string s18), ((2 : Nat), Value.int IntKind.i64 i19)])] →
                                   Rets Try.prog (86 : Nat) #[Value.map q23, Value.agg #[Value.string s17, Value.string s18, Value.int IntKind.i64 i19]]
                                    ((((w15.alloc (Obj.cells #[Value.string { data := #[] }, Value.string { data := #[] }, Value.int IntKind.i64 (0 : Int)] (135 : Nat))).setCell
                                          {block := w15.heap.size, off := (0 : Nat) } (Value.string s17)).setCell
                                        {block := w15.heap.size, off := (1 : Nat) } (Value.string s18)).setCell
                                      {block := w15.heap.size, off := (2 : Nat) } (Value.int IntKind.i64 i19)).drew
                                    fun (v24 : Value) (w25 : World) =>
                                    v24 = Value.tuple #[] ∧
                                     Keeps
                                       ((((w15.alloc (Obj.cells #[Value.string { data := #[] }, Value.string { data := #[] }, Value.int IntKind.i64 (0 : Int)] (135 : Nat))).setCell
                                            {block := w15.heap.size, off := (0 : Nat) } (Value.string s17)).setCell
                                           {block := w15.heap.size, off := (1 : Nat) } (Value.string s18)).setCell
                                         {block := w15.heap.size, off := (2 : Nat) } (Value.int IntKind.i64 i19)).drew
                                       w25 [w15.heap.size] ∧
                                      Wr IntKind.i64 (i14 + (1 : Int)) fun (i26 : Int) => I12 i26 w25 ∧ I13 i26 w25 < I13 i14 w15)
                       else Rets Try.prog (38 : Nat) #[Value.pointer p0] w15 fun (v27 : Value) (w28 : World) => v27 = Value.tuple #[] ∧ Keeps w15 w28 [] ∧ R (Ending.returned (Value.tuple #[])) w28
theorem vcTry40 (p0 : Option Addr) (p1 : Int) (w : World) (R : Ending → World → Prop) : SX.vcFn Try.prog [(4, ⟨[(26, .int .i64)], [0, 1, 24, 25], []⟩)] Try.f40 [.v (.pointer p0), .v (.int .i64 p1)] [] w R = VCTry40 p0 p1 w R := by kernel_rfl
def VCTry83 (p0 : Value) (w : World) (R : Ending → World → Prop) : Prop :=
Rets Try.prog (106 : Nat) #[p0] w fun (v0 : Value) (w1 : World) =>
 ∃ (q2 : Option Addr),
  ∃ (n3 : Nat),
   ∃ (n4 : Nat),
    v0 = Value.slice q2 n3 n4 ∧
     Keeps w w1 [] ∧ Rets Try.prog (107 : Nat) #[Value.slice q2 n3 n4] w1 fun (v5 : Value) (w6 : World) => v5 = Value.tuple #[] ∧ Keeps w1 w6 [] ∧ R (Ending.returned (Value.slice q2 n3 n4)) w6
theorem vcTry83 (p0 : Value) (w : World) (R : Ending → World → Prop) : SX.vcFn Try.prog [] Try.f83 [.v p0] [] w R = VCTry83 p0 w R := by kernel_rfl
def VCTry84 (p0 : Option Nat) (w : World) (R : Ending → World → Prop) : Prop :=
Known (w.alloc (Obj.cells #[Value.map p0] (76 : Nat))) [(w.heap.size, [((0 : Nat), Value.map p0)])] →
 R (Ending.returned (Value.func (Fn.func (108 : Nat)) #[] #[Value.pointer (some { block := w.heap.size, off := (0 : Nat) })])) (w.alloc (Obj.cells #[Value.map p0] (76 : Nat)))
theorem vcTry84 (p0 : Option Nat) (w : World) (R : Ending → World → Prop) : SX.vcFn Try.prog [] Try.f84 [.v (.map p0)] [] w R = VCTry84 p0 w R := by kernel_rfl
def VCTry85 (p0 : Option Nat) (p1 : Option Nat) (w : World) (R : Ending → World → Prop) : Prop :=
Runs Try.prog (Instr.range (76 : Nat) (Value.map p1)) w fun (v0 : Value) (w1 : World) =>
 ∃ (q2 : Option Addr),
  v0 = Value.pointer q2 ∧
   Keeps w w1 [] ∧
    ∃ (I3 : World → Prop),
     ∃ (I4 : World → Nat),
      I3 w1 ∧
       ∀ (w5 : World),
        I3 w5 →
         Runs Try.prog (Instr.next (Value.pointer q2) false (0 : Nat)) w5 fun (v6 : Value) (w7 : World) =>
          v6 = Value.tuple #[Value.bool false] ∧ Keeps w5 w7 [] ∧ R (Ending.returned (Value.tuple #[])) w7 ∨
           ∃ (v8 : Value),
            ∃ (v9 : Value),
             v6 = Value.tuple #[Value.bool true, v8, v9] ∧
              Keeps w5 w7 [] ∧
               Runs Try.prog (Instr.entry (Value.pointer q2)) w7 fun (v10 : Value) (w11 : World) =>
                ∃ (v12 : Value),
                 ∃ (v13 : Value),
                  v10 = Value.tuple #[v12, v13] ∧
                   Keeps w7 w11 [] ∧ Runs Try.prog (Instr.mapUpdate (76 : Nat) (Value.map p0) v12 v13) w11 fun (x14 : Unit) (w15 : World) => Keeps w11 w15 [] ∧ I3 w15 ∧ I4 w15 < I4 w5
theorem vcTry85 (p0 : Option Nat) (p1 : Option Nat) (w : World) (R : Ending → World → Prop) : SX.vcFn Try.prog [(1, ⟨[], [0, 7], []⟩)] Try.f85 [.v (.map p0), .v (.map p1)] [] w R = VCTry85 p0 p1 w R := by kernel_rfl
def VCTry106 (p0 : Value) (w : World) (R : Ending → World → Prop) : Prop :=
Rets Try.prog (113 : Nat) #[Value.slice none (0 : Nat) (0 : Nat), p0] w fun (v0 : Value) (w1 : World) =>
 ∃ (q2 : Option Addr), ∃ (n3 : Nat), ∃ (n4 : Nat), v0 = Value.slice q2 n3 n4 ∧ Keeps w w1 [] ∧ R (Ending.returned (Value.slice q2 n3 n4)) w1
theorem vcTry106 (p0 : Value) (w : World) (R : Ending → World → Prop) : SX.vcFn Try.prog [] Try.f106 [.v p0] [] w R = VCTry106 p0 w R := by kernel_rfl
def VCTry92 (p0 : Value) (w : World) (R : Ending → World → Prop) : Prop :=
Rets Try.prog (111 : Nat) #[Value.slice none (0 : Nat) (0 : Nat), p0] w fun (v0 : Value) (w1 : World) =>
 ∃ (q2 : Option Addr), ∃ (n3 : Nat), ∃ (n4 : Nat), v0 = Value.slice q2 n3 n4 ∧ Keeps w w1 [] ∧ R (Ending.returned (Value.slice q2 n3 n4)) w1
theorem vcTry92 (p0 : Value) (w : World) (R : Ending → World → Prop) : SX.vcFn Try.prog [] Try.f92 [.v p0] [] w R = VCTry92 p0 w R := by kernel_rfl
def VCTry93 (p0 : Option Nat) (w : World) (R : Ending → World → Prop) : Prop :=
Known (w.alloc (Obj.cells #[Value.map p0] (76 : Nat))) [(w.heap.size, [((0 : Nat), Value.map p0)])] →
 R (Ending.returned (Value.func (Fn.func (112 : Nat)) #[] #[Value.pointer (some { block := w.heap.size, off := (0 : Nat) })])) (w.alloc (Obj.cells #[Value.map p0] (76 : Nat)))
theorem vcTry93 (p0 : Option Nat) (w : World) (R : Ending → World → Prop) : SX.vcFn Try.prog [] Try.f93 [.v (.map p0)] [] w R = VCTry93 p0 w R := by kernel_rfl
def VCTry89 (p0 : Option Addr) (n0 c0 : Nat) (p1 : Value) (w : World) (R : Ending → World → Prop) : Prop :=
Rets Try.prog (109 : Nat) #[Value.slice p0 n0 c0, p1] w fun (v0 : Value) (w1 : World) => ∃ (i2 : Int), v0 = Value.int IntKind.i64 i2 ∧ Keeps w w1 [] ∧ R (Ending.returned (Value.bool (decide (i2 ≥ (0 : Int))))) w1
theorem vcTry89 (p0 : Option Addr) (n0 c0 : Nat) (p1 : Value) (w : World) (R : Ending → World → Prop) : SX.vcFn Try.prog [] Try.f89 [.v (.slice p0 n0 c0), .v p1] [] w R = VCTry89 p0 n0 c0 p1 w R := by kernel_rfl
def VCTry109 (p0 : Option Addr) (n0 c0 : Nat) (p1 : Value) (w : World) (R : Ending → World → Prop) : Prop :=
∃ (I0 : Int → World → Prop),
 ∃ (I1 : Int → World → Nat),
  I0 (0 : Int) w ∧
   ∀ (i2 : Int) (w3 : World),
    I0 i2 w3 →
     bif decide (i2 < (↑n0 : Int)) then
      ((0 : Int) ≤ i2 ∧ i2 < (↑n0 : Int)) ∧
       SX.Ptr p0 fun (a4 : Addr) =>
        ∃ (s5 : ByteArray),
         ∃ (s6 : ByteArray),
          ∃ (i7 : Int),
           (w3.cell? ((a4.add (i2.toNat * (3 : Nat))).add (0 : Nat)) = some (Value.string s5) ∧
             w3.cell? ((a4.add (i2.toNat * (3 : Nat))).add (1 : Nat)) = some (Value.string s6) ∧ w3.cell? ((a4.add (i2.toNat * (3 : Nat))).add (2 : Nat)) = some (Value.int IntKind.i64 i7) ∧ True) ∧
            CallsVal Try.prog p1 #[Value.agg #[Value.string s5, Value.string s6, Value.int IntKind.i64 i7]] w3 fun (v8 : Value) (w9 : World) =>
             ∃ (t10 : Bool),
              v8 = Value.bool t10 ∧ Keeps w3 w9 [] ∧ bif t10 then R (Ending.returned (Value.int IntKind.i64 i2)) w9 else Wr IntKind.i64 (i2 + (1 : Int)) fun (i11 : Int) => I0 i11 w9 ∧ I1 i11 w9 < I1 i2 w3
     else R (Ending.returned (Value.int IntKind.i64 (-1 : Int))) w3
theorem vcTry109 (p0 : Option Addr) (n0 c0 : Nat) (p1 : Value) (w : World) (R : Ending → World → Prop) : SX.vcFn Try.prog [(2, ⟨[(8, .int .i64)], [0, 1, 7], []⟩)] Try.f109 [.v (.slice p0 n0 c0), .v p1] [] w R = VCTry109 p0 n0 c0 p1 w R := by kernel_rfl
def VCTry91 (p0 : Option Addr) (n0 c0 : Nat) (p1 : Int) (w : World) (R : Ending → World → Prop) : Prop :=
Rets Try.prog (110 : Nat) #[Value.slice p0 n0 c0, Value.int IntKind.i64 p1] w fun (v0 : Value) (w1 : World) =>
 ∃ (i2 : Int), v0 = Value.int IntKind.i64 i2 ∧ Keeps w w1 [] ∧ R (Ending.returned (Value.bool (decide (i2 ≥ (0 : Int))))) w1
theorem vcTry91 (p0 : Option Addr) (n0 c0 : Nat) (p1 : Int) (w : World) (R : Ending → World → Prop) : SX.vcFn Try.prog [] Try.f91 [.v (.slice p0 n0 c0), .v (.int .i64 p1)] [] w R = VCTry91 p0 n0 c0 p1 w R := by kernel_rfl
def VCTry110 (p0 : Option Addr) (n0 c0 : Nat) (p1 : Int) (w : World) (R : Ending → World → Prop) : Prop :=
∃ (I0 : Int → World → Prop),
 ∃ (I1 : Int → World → Nat),
  I0 (0 : Int) w ∧
   ∀ (i2 : Int) (w3 : World),
    I0 i2 w3 →
     bif decide (i2 < (↑n0 : Int)) then
      ((0 : Int) ≤ i2 ∧ i2 < (↑n0 : Int)) ∧
       SX.Ptr p0 fun (a4 : Addr) =>
        ∃ (i5 : Int),
         w3.cell? (a4.add (i2.toNat * (1 : Nat))) = some (Value.int IntKind.i64 i5) ∧
          bif p1 == i5 then R (Ending.returned (Value.int IntKind.i64 i2)) w3 else Wr IntKind.i64 (i2 + (1 : Int)) fun (i6 : Int) => I0 i6 w3 ∧ I1 i6 w3 < I1 i2 w3
     else R (Ending.returned (Value.int IntKind.i64 (-1 : Int))) w3
theorem vcTry110 (p0 : Option Addr) (n0 c0 : Nat) (p1 : Int) (w : World) (R : Ending → World → Prop) : SX.vcFn Try.prog [(2, ⟨[(8, .int .i64)], [0, 1, 7], []⟩)] Try.f110 [.v (.slice p0 n0 c0), .v (.int .i64 p1)] [] w R = VCTry110 p0 n0 c0 p1 w R := by kernel_rfl
def VCTry108 (y : Value) (p1 : Option Addr) (w : World) (R : Ending → World → Prop) : Prop :=
SX.Ptr p1 fun (a0 : Addr) =>
 ∃ (q1 : Option Nat),
  w.cell? a0 = some (Value.map q1) ∧
   Runs Try.prog (Instr.range (76 : Nat) (Value.map q1)) w fun (v2 : Value) (w3 : World) =>
    ∃ (q4 : Option Addr),
     v2 = Value.pointer q4 ∧
      Keeps w w3 [] ∧
       ∃ (I5 : World → Prop),
        ∃ (I6 : World → Nat),
         I5 w3 ∧
          ∀ (w7 : World),
           I5 w7 →
            Runs Try.prog (Instr.next (Value.pointer q4) false (0 : Nat)) w7 fun (v8 : Value) (w9 : World) =>
             v8 = Value.tuple #[Value.bool false] ∧ Keeps w7 w9 [] ∧ R (Ending.returned (Value.tuple #[])) w9 ∨
              ∃ (v10 : Value),
               ∃ (v11 : Value),
                v8 = Value.tuple #[Value.bool true, v10, v11] ∧
                 Keeps w7 w9 [] ∧
                  Runs Try.prog (Instr.entry (Value.pointer q4)) w9 fun (v12 : Value) (w13 : World) =>
                   ∃ (v14 : Value),
                    ∃ (v15 : Value),
                     v12 = Value.tuple #[v14, v15] ∧
                      Keeps w9 w13 [] ∧
                       CallsVal Try.prog y #[v14] w13 fun (v16 : Value) (w17 : World) =>
                        ∃ (t18 : Bool), v16 = Value.bool t18 ∧ Keeps w13 w17 [] ∧ bif !t18 then R (Ending.returned (Value.tuple #[])) w17 else I5 w17 ∧ I6 w17 < I6 w7
theorem vcTry108 (y : Value) (p1 : Option Addr) (w : World) (R : Ending → World → Prop) : SX.vcFn Try.prog [(1, ⟨[], [0, 5], []⟩)] Try.f108 [.v y, .v (.pointer p1)] [] w R = VCTry108 y p1 w R := by kernel_rfl
def VCTry112 (y : Value) (p1 : Option Addr) (w : World) (R : Ending → World → Prop) : Prop :=
SX.Ptr p1 fun (a0 : Addr) =>
 ∃ (q1 : Option Nat),
  w.cell? a0 = some (Value.map q1) ∧
   Runs Try.prog (Instr.range (76 : Nat) (Value.map q1)) w fun (v2 : Value) (w3 : World) =>
    ∃ (q4 : Option Addr),
     v2 = Value.pointer q4 ∧
      Keeps w w3 [] ∧
       ∃ (I5 : World → Prop),
        ∃ (I6 : World → Nat),
         I5 w3 ∧
          ∀ (w7 : World),
           I5 w7 →
            Runs Try.prog (Instr.next (Value.pointer q4) false (0 : Nat)) w7 fun (v8 : Value) (w9 : World) =>
             v8 = Value.tuple #[Value.bool false] ∧ Keeps w7 w9 [] ∧ R (Ending.returned (Value.tuple #[])) w9 ∨
              ∃ (v10 : Value),
               ∃ (v11 : Value),
                v8 = Value.tuple #[Value.bool true, v10, v11] ∧
                 Keeps w7 w9 [] ∧
                  Runs Try.prog (Instr.entry (Value.pointer q4)) w9 fun (v12 : Value) (w13 : World) =>
                   ∃ (v14 : Value),
                    ∃ (v15 : Value),
                     v12 = Value.tuple #[v14, v15] ∧
                      Keeps w9 w13 [] ∧
                       CallsVal Try.prog y #[v15] w13 fun (v16 : Value) (w17 : World) =>
                        ∃ (t18 : Bool), v16 = Value.bool t18 ∧ Keeps w13 w17 [] ∧ bif !t18 then R (Ending.returned (Value.tuple #[])) w17 else I5 w17 ∧ I6 w17 < I6 w7
theorem vcTry112 (y : Value) (p1 : Option Addr) (w : World) (R : Ending → World → Prop) : SX.vcFn Try.prog [(1, ⟨[], [0, 6], []⟩)] Try.f112 [.v y, .v (.pointer p1)] [] w R = VCTry112 y p1 w R := by kernel_rfl
def VCTry113 (q : Option Addr) (n c : Nat) (y : Value) (w : World) (R : Ending → World → Prop) : Prop :=
Known (w.alloc (Obj.cells #[Value.slice q n c] (30 : Nat))) [(w.heap.size, [((0 : Nat), Value.slice q n c)])] →
 ∀ (I0 : LoopState → Option Code → Obj),
  (∀ (x1 : LoopState) (q2 : Option Code), (I0 x1 q2).isCells = false) →
   (∀ (s3 : ByteArray) (q4 : Option Addr) (n5 n6 : Nat) (w7 : World) (I8 : Value → World → Prop),
     w7.heap[(w.alloc (Obj.cells #[Value.slice q n c] (30 : Nat))).heap.size + (1 : Nat)]? = some (I0 LoopState.ready none) →
      Known w7 [(w.heap.size, [((0 : Nat), Value.slice q4 n5 n6)])] →
       (w7.heap[(w.alloc (Obj.cells #[Value.slice q n c] (30 : Nat))).heap.size + (1 : Nat)]? = some (I0 LoopState.ready none) ∧
         Runs Try.prog
          (Builtin.append_ #[(30 : Nat), (30 : Nat)] (30 : Nat)
           #[Value.slice q4 n5 n6,
            Value.slice (some { block := (w7.putObj ((w.alloc (Obj.cells #[Value.slice q n c] (30 : Nat))).heap.size + (1 : Nat)) (I0 LoopState.busy none)).heap.size, off := (0 : Nat) }) (1 : Nat) (1 : Nat)])
          ((w7.putObj ((w.alloc (Obj.cells #[Value.slice q n c] (30 : Nat))).heap.size + (1 : Nat)) (I0 LoopState.busy none)).alloc (Obj.cells #[Value.string s3] (9 : Nat))) fun (v13 : Value) (w14 : World) =>
          ∃ (q15 : Option Addr),
           ∃ (n16 : Nat),
            ∃ (n17 : Nat),
             v13 = Value.slice q15 n16 n17 ∧
              Keeps ((w7.putObj ((w.alloc (Obj.cells #[Value.slice q n c] (30 : Nat))).heap.size + (1 : Nat)) (I0 LoopState.busy none)).alloc (Obj.cells #[Value.string s3] (9 : Nat))) w14 [w.heap.size] ∧
               (Known (w14.setCell { block := w.heap.size, off := (0 : Nat) } (Value.slice q15 n16 n17)) [(w.heap.size, [((0 : Nat), Value.slice q15 n16 n17)])] →
                (w14.setCell { block := w.heap.size, off := (0 : Nat) } (Value.slice q15 n16 n17)).heap[(w.alloc (Obj.cells #[Value.slice q n c] (30 : Nat))).heap.size + (1 : Nat)]? =
                  some (I0 LoopState.busy none) ∧
                 I8 (Value.bool true)
                  ((w14.setCell { block := w.heap.size, off := (0 : Nat) } (Value.slice q15 n16 n17)).putObj ((w.alloc (Obj.cells #[Value.slice q n c] (30 : Nat))).heap.size + (1 : Nat))
                   (I0 LoopState.ready none)))) →
        CallsVal Try.prog (Value.func (Fn.yield ((w.alloc (Obj.cells #[Value.slice q n c] (30 : Nat))).heap.size + (1 : Nat))) #[] #[]) #[Value.string s3] w7 I8) →
    RangeVal Try.prog y (Value.func (Fn.yield ((w.alloc (Obj.cells #[Value.slice q n c] (30 : Nat))).heap.size + (1 : Nat))) #[] #[])
     (((w.alloc (Obj.cells #[Value.slice q n c] (30 : Nat))).alloc (Obj.deferred (some []))).alloc (I0 LoopState.ready none)) fun (w20 : World) =>
     ∃ (q21 : Option Addr),
      ∃ (n22 : Nat),
       ∃ (n23 : Nat),
        Known w20 [(w.heap.size, [((0 : Nat), Value.slice q21 n22 n23)])] ∧
         w20.heap[(w.alloc (Obj.cells #[Value.slice q n c] (30 : Nat))).heap.size + (1 : Nat)]? = some (I0 LoopState.ready none) ∧
          (Known (w20.putObj ((w.alloc (Obj.cells #[Value.slice q n c] (30 : Nat))).heap.size + (1 : Nat)) (I0 LoopState.exhausted none)) [(w.heap.size, [((0 : Nat), Value.slice q21 n22 n23)])] →
           (w20.putObj ((w.alloc (Obj.cells #[Value.slice q n c] (30 : Nat))).heap.size + (1 : Nat)) (I0 LoopState.exhausted none)).heap[(w.alloc (Obj.cells #[Value.slice q n c] (30 : Nat))).heap.size]? =
             some (Obj.deferred (some [])) ∧
            R (Ending.returned (Value.slice q21 n22 n23))
             ((w20.putObj ((w.alloc (Obj.cells #[Value.slice q n c] (30 : Nat))).heap.size + (1 : Nat)) (I0 LoopState.exhausted none)).putObj (w.alloc (Obj.cells #[Value.slice q n c] (30 : Nat))).heap.size
              (Obj.deferred none)))
theorem vcTry113 (q : Option Addr) (n c : Nat) (y : Value) (w : World) (R : Ending → World → Prop) : SX.vcFn Try.prog [(3, ⟨[(7, .str)], [], [(0, 0, .slice)]⟩)] Try.f113 [.v (.slice q n c), .v y] [] w R = VCTry113 q n c y w R := by kernel_rfl
def VCTry111 (q : Option Addr) (n c : Nat) (y : Value) (w : World) (R : Ending → World → Prop) : Prop :=
Known (w.alloc (Obj.cells #[Value.slice q n c] (62 : Nat))) [(w.heap.size, [((0 : Nat), Value.slice q n c)])] →
 ∀ (I0 : LoopState → Option Code → Obj),
  (∀ (x1 : LoopState) (q2 : Option Code), (I0 x1 q2).isCells = false) →
   (∀ (i3 : Int) (q4 : Option Addr) (n5 n6 : Nat) (w7 : World) (I8 : Value → World → Prop),
     w7.heap[(w.alloc (Obj.cells #[Value.slice q n c] (62 : Nat))).heap.size + (1 : Nat)]? = some (I0 LoopState.ready none) →
      Known w7 [(w.heap.size, [((0 : Nat), Value.slice q4 n5 n6)])] →
       (w7.heap[(w.alloc (Obj.cells #[Value.slice q n c] (62 : Nat))).heap.size + (1 : Nat)]? = some (I0 LoopState.ready none) ∧
         Runs Try.prog
          (Builtin.append_ #[(62 : Nat), (62 : Nat)] (62 : Nat)
           #[Value.slice q4 n5 n6,
            Value.slice (some { block := (w7.putObj ((w.alloc (Obj.cells #[Value.slice q n c] (62 : Nat))).heap.size + (1 : Nat)) (I0 LoopState.busy none)).heap.size, off := (0 : Nat) }) (1 : Nat) (1 : Nat)])
          ((w7.putObj ((w.alloc (Obj.cells #[Value.slice q n c] (62 : Nat))).heap.size + (1 : Nat)) (I0 LoopState.busy none)).alloc (Obj.cells #[Value.int IntKind.i64 i3] (3 : Nat)))
          fun (v13 : Value) (w14 : World) =>
          ∃ (q15 : Option Addr),
           ∃ (n16 : Nat),
            ∃ (n17 : Nat),
             v13 = Value.slice q15 n16 n17 ∧
              Keeps ((w7.putObj ((w.alloc (Obj.cells #[Value.slice q n c] (62 : Nat))).heap.size + (1 : Nat)) (I0 LoopState.busy none)).alloc (Obj.cells #[Value.int IntKind.i64 i3] (3 : Nat))) w14
                [w.heap.size] ∧
               (Known (w14.setCell { block := w.heap.size, off := (0 : Nat) } (Value.slice q15 n16 n17)) [(w.heap.size, [((0 : Nat), Value.slice q15 n16 n17)])] →
                (w14.setCell { block := w.heap.size, off := (0 : Nat) } (Value.slice q15 n16 n17)).heap[(w.alloc (Obj.cells #[Value.slice q n c] (62 : Nat))).heap.size + (1 : Nat)]? =
                  some (I0 LoopState.busy none) ∧
                 I8 (Value.bool true)
                  ((w14.setCell { block := w.heap.size, off := (0 : Nat) } (Value.slice q15 n16 n17)).putObj ((w.alloc (Obj.cells #[Value.slice q n c] (62 : Nat))).heap.size + (1 : Nat))
                   (I0 LoopState.ready none)))) →
        CallsVal Try.prog (Value.func (Fn.yield ((w.alloc (Obj.cells #[Value.slice q n c] (62 : Nat))).heap.size + (1 : Nat))) #[] #[]) #[Value.int IntKind.i64 i3] w7 I8) →
    RangeVal Try.prog y (Value.func (Fn.yield ((w.alloc (Obj.cells #[Value.slice q n c] (62 : Nat))).heap.size + (1 : Nat))) #[] #[])
     (((w.alloc (Obj.cells #[Value.slice q n c] (62 : Nat))).alloc (Obj.deferred (some []))).alloc (I0 LoopState.ready none)) fun (w20 : World) =>
     ∃ (q21 : Option Addr),
      ∃ (n22 : Nat),
       ∃ (n23 : Nat),
        Known w20 [(w.heap.size, [((0 : Nat), Value.slice q21 n22 n23)])] ∧
         w20.heap[(w.alloc (Obj.cells #[Value.slice q n c] (62 : Nat))).heap.size + (1 : Nat)]? = some (I0 LoopState.ready none) ∧
          (Known (w20.putObj ((w.alloc (Obj.cells #[Value.slice q n c] (62 : Nat))).heap.size + (1 : Nat)) (I0 LoopState.exhausted none)) [(w.heap.size, [((0 : Nat), Value.slice q21 n22 n23)])] →
           (w20.putObj ((w.alloc (Obj.cells #[Value.slice q n c] (62 : Nat))).heap.size + (1 : Nat)) (I0 LoopState.exhausted none)).heap[(w.alloc (Obj.cells #[Value.slice q n c] (62 : Nat))).heap.size]? =
             some (Obj.deferred (some [])) ∧
            R (Ending.returned (Value.slice q21 n22 n23))
             ((w20.putObj ((w.alloc (Obj.cells #[Value.slice q n c] (62 : Nat))).heap.size + (1 : Nat)) (I0 LoopState.exhausted none)).putObj (w.alloc (Obj.cells #[Value.slice q n c] (62 : Nat))).heap.size
              (Obj.deferred none)))
theorem vcTry111 (q : Option Addr) (n c : Nat) (y : Value) (w : World) (R : Ending → World → Prop) : SX.vcFn Try.prog [(3, ⟨[(7, .int .i64)], [], [(0, 0, .slice)]⟩)] Try.f111 [.v (.slice q n c), .v y] [] w R = VCTry111 q n c y w R := by kernel_rfl
def VCTry86 (p : Option Nat) (f t : ByteArray) (i : Int) (w : World) (R : Ending → World → Prop) : Prop :=
Runs Try.prog (Instr.lookup (76 : Nat) (Value.map p) (Value.string f) true) (w.alloc (Obj.cells #[Value.string f, Value.string t, Value.int IntKind.i64 i] (135 : Nat))) fun (v0 : Value) (w1 : World) =>
 ∃ (i2 : Int),
  ∃ (t3 : Bool),
   v0 = Value.tuple #[Value.int IntKind.i64 i2, Value.bool t3] ∧
    Keeps (w.alloc (Obj.cells #[Value.string f, Value.string t, Value.int IntKind.i64 i] (135 : Nat))) w1 [w.heap.size] ∧
     bif !t3 then
      Runs Try.prog (Builtin.delete_ #[(76 : Nat), (9 : Nat)] (0 : Nat) #[Value.map p, Value.string f]) w1 fun (v4 : Value) (w5 : World) =>
       v4 = Value.tuple #[] ∧
        Keeps w1 w5 [w.heap.size] ∧
         bif !t.toList == ({ data := #[] } : ByteArray).toList then
          Runs Try.prog (Instr.mapUpdate (76 : Nat) (Value.map p) (Value.string t) (Value.int IntKind.i64 i)) w5 fun (x6 : Unit) (w7 : World) =>
           Keeps w5 w7 [w.heap.size] ∧ (Known w7 [(w.heap.size, [((0 : Nat), Value.string f), ((1 : Nat), Value.string t), ((2 : Nat), Value.int IntKind.i64 i)])] → R (Ending.returned (Value.tuple #[])) w7)
         else Known w5 [(w.heap.size, [((0 : Nat), Value.string f), ((1 : Nat), Value.string t), ((2 : Nat), Value.int IntKind.i64 i)])] → R (Ending.returned (Value.tuple #[])) w5
     else
      Runs Try.prog (Builtin.delete_ #[(76 : Nat), (9 : Nat)] (0 : Nat) #[Value.map p, Value.string f]) w1 fun (v8 : Value) (w9 : World) =>
       v8 = Value.tuple #[] ∧
        Keeps w1 w9 [w.heap.size] ∧
         bif !t.toList == ({ data := #[] } : ByteArray).toList then
          Runs Try.prog (Instr.mapUpdate (76 : Nat) (Value.map p) (Value.string t) (Value.int IntKind.i64 i2)) w9 fun (x10 : Unit) (w11 : World) =>
           Keeps w9 w11 [w.heap.size] ∧ (Known w11 [(w.heap.size, [((0 : Nat), Value.string f), ((1 : Nat), Value.string t), ((2 : Nat), Value.int IntKind.i64 i)])] → R (Ending.returned (Value.tuple #[])) w11)
         else Known w9 [(w.heap.size, [((0 : Nat), Value.string f), ((1 : Nat), Value.string t), ((2 : Nat), Value.int IntKind.i64 i)])] → R (Ending.returned (Value.tuple #[])) w9
theorem vcTry86 (p : Option Nat) (f t : ByteArray) (i : Int) (w : World) (R : Ending → World → Prop) : SX.vcFn Try.prog [] Try.f86 [.v (.map p), .v (.agg #[.string f, .string t, .int .i64 i])] [] w R = VCTry86 p f t i w R := by kernel_rfl
def VCTry88 (p : Option Addr) (f t : ByteArray) (i : Int) (w : World) (R : Ending → World → Prop) : Prop :=
SX.Ptr p fun (a0 : Addr) =>
 ∃ (q1 : Option Nat),
  (w.alloc (Obj.cells #[Value.string f, Value.string t, Value.int IntKind.i64 i] (135 : Nat))).cell? (a0.add (0 : Nat)) = some (Value.map q1) ∧
   bif q1.isNone then
    SX.Ptr p fun (a2 : Addr) =>
     (∃ (v3 : Value), ((w.alloc (Obj.cells #[Value.string f, Value.string t, Value.int IntKind.i64 i] (135 : Nat))).alloc (Obj.map #[] (0 : Nat))).cell? ((a2.add (0 : Nat)).add (0 : Nat)) = some v3) ∧
      ((w.alloc (Obj.cells #[Value.string f, Value.string t, Value.int IntKind.i64 i] (135 : Nat))).alloc (Obj.map #[] (0 : Nat))).frozen? ((a2.add (0 : Nat)).add (0 : Nat)) = false ∧
       Apart ((a2.add (0 : Nat)).add (0 : Nat)) w.heap.size [(0 : Nat), (1 : Nat), (2 : Nat)] ∧
        SX.Ptr p fun (a4 : Addr) =>
         ∃ (q5 : Option Nat),
          (((w.alloc (Obj.cells #[Value.string f, Value.string t, Value.int IntKind.i64 i] (135 : Nat))).alloc (Obj.map #[] (0 : Nat))).setCell ((a2.add (0 : Nat)).add (0 : Nat))
                (Value.map (some (w.alloc (Obj.cells #[Value.string f, Value.string t, Value.int IntKind.i64 i] (135 : Nat))).heap.size))).drew.cell?
             (a4.add (0 : Nat)) =
            some (Value.map q5) ∧
           (Known
             (((w.alloc (Obj.cells #[Value.string f, Value.string t, Value.int IntKind.i64 i] (135 : Nat))).alloc (Obj.map #[] (0 : Nat))).setCell ((a2.add (0 : Nat)).add (0 : Nat))
               (Value.map (some (w.alloc (Obj.cells #[Value.string f, Value.string t, Value.int IntKind.i64 i] (135 : Nat))).heap.size))).drew
             [(w.heap.size, [((0 : Nat), Value.string f), ((1 : Nat), Value.string t), ((2 : Nat), Value.int IntKind.i64 i)])] →
            Rets Try.prog (86 : Nat) #[Value.map q5, Value.agg #[Value.string f, Value.string t, Value.int IntKind.i64 i]]
             (((w.alloc (Obj.cells #[Value.string f, Value.string t, Value.int IntKind.i64 i] (135 : Nat))).alloc (Obj.map #[] (0 : Nat))).setCell ((a2.add (0 : Nat)).add (0 : Nat))
               (Value.map (some (w.alloc (Obj.cells #[Value.string f, Value.string t, Value.int IntKind.i64 i] (135 : Nat))).heap.size))).drew
             fun (v6 : Value) (w7 : World) =>
             v6 = Value.tuple #[] ∧
              Keeps
                (((w.alloc (Obj.cells #[Value.string f, Value.string t, Value.int IntKind.i64 i] (135 : Nat))).alloc (Obj.map #[] (0 : Nat))).setCell ((a2.add (0 : Nat)).add (0 : Nat))
                  (Value.map (some (w.alloc (Obj.cells #[Value.string f, Value.string t, Value.int IntKind.i64 i] (135 : Nat))).heap.size))).drew
                w7 [w.heap.size] ∧
               SX.Ptr p fun (a8 : Addr) =>
                ∃ (q9 : Option Addr),
                 ∃ (n10 : Nat),
                  ∃ (n11 : Nat),
                   w7.drew.cell? (a8.add (2 : Nat)) = some (Value.slice q9 n10 n11) ∧
                    (w7.drew.alloc (Obj.cells #[Value.string f, Value.string t, Value.int IntKind.i64 i] (135 : Nat))).cell? (a8.add (2 : Nat)) = some (Value.slice q9 n10 n11) ∧
                     Runs Try.prog
                      (Builtin.append_ #[(77 : Nat), (77 : Nat)] (77 : Nat) #[Value.slice q9 n10 n11, Value.slice (some { block := w7.drew.heap.size, off := (0 : Nat) }) (1 : Nat) (1 : Nat)])
                      (w7.drew.alloc (Obj.cells #[Value.string f, Value.string t, Value.int IntKind.i64 i] (135 : Nat))) fun (v12 : Value) (w13 : World) =>
                      ∃ (q14 : Option Addr),
                       ∃ (n15 : Nat),
                        ∃ (n16 : Nat),
                         v12 = Value.slice q14 n15 n16 ∧
                          Keeps (w7.drew.alloc (Obj.cells #[Value.string f, Value.string t, Value.int IntKind.i64 i] (135 : Nat))) w13 [w.heap.size] ∧
                           SX.Ptr p fun (a17 : Addr) =>
                            (∃ (v18 : Value), w13.cell? ((a17.add (2 : Nat)).add (0 : Nat)) = some v18) ∧
                             w13.frozen? ((a17.add (2 : Nat)).add (0 : Nat)) = false ∧
                              Apart ((a17.add (2 : Nat)).add (0 : Nat)) w.heap.size [(0 : Nat), (1 : Nat), (2 : Nat)] ∧
                               (Known (w13.setCell ((a17.add (2 : Nat)).add (0 : Nat)) (Value.slice q14 n15 n16))
                                 [(w.heap.size, [((0 : Nat), Value.string f), ((1 : Nat), Value.string t), ((2 : Nat), Value.int IntKind.i64 i)])] →
                                R (Ending.returned (Value.int IntKind.i64 (0 : Int))) (w13.setCell ((a17.add (2 : Nat)).add (0 : Nat)) (Value.slice q14 n15 n16))))
   else
    SX.Ptr p fun (a19 : Addr) =>
     ∃ (q20 : Option Nat),
      (w.alloc (Obj.cells #[Value.string f, Value.string t, Value.int IntKind.i64 i] (135 : Nat))).drew.cell? (a19.add (0 : Nat)) = some (Value.map q20) ∧
       (Known (w.alloc (Obj.cells #[Value.string f, Value.string t, Value.int IntKind.i64 i] (135 : Nat))).drew
         [(w.heap.size, [((0 : Nat), Value.string f), ((1 : Nat), Value.string t), ((2 : Nat), Value.int IntKind.i64 i)])] →
        Rets Try.prog (86 : Nat) #[Value.map q20, Value.agg #[Value.string f, Value.string t, Value.int IntKind.i64 i]]
         (w.alloc (Obj.cells #[Value.string f, Value.string t, Value.int IntKind.i64 i] (135 : Nat))).drew fun (v21 : Value) (w22 : World) =>
         v21 = Value.tuple #[] ∧
          Keeps (w.alloc (Obj.cells #[Value.string f, Value.string t, Value.int IntKind.i64 i] (135 : Nat))).drew w22 [w.heap.size] ∧
           SX.Ptr p fun (a23 : Addr) =>
            ∃ (q24 : Option Addr),
             ∃ (n25 : Nat),
              ∃ (n26 : Nat),
               w22.drew.cell? (a23.add (2 : Nat)) = some (Value.slice q24 n25 n26) ∧
                (w22.drew.alloc (Obj.cells #[Value.string f, Value.string t, Value.int IntKind.i64 i] (135 : Nat))).cell? (a23.add (2 : Nat)) = some (Value.slice q24 n25 n26) ∧
                 Runs Try.prog (Builtin.append_ #[(77 : Nat), (77 : Nat)] (77 : Nat) #[Value.slice q24 n25 n26, Value.slice (some { block := w22.drew.heap.size, off := (0 : Nat) }) (1 : Nat) (1 : Nat)])
                  (w22.drew.alloc (Obj.cells #[Value.string f, Value.string t, Value.int IntKind.i64 i] (135 : Nat))) fun (v27 : Value) (w28 : World) =>
                  ∃ (q29 : Option Addr),
                   ∃ (n30 : Nat),
                    ∃ (n31 : Nat),
                     v27 = Value.slice q29 n30 n31 ∧
                      Keeps (w22.drew.alloc (Obj.cells #[Value.string f, Value.string t, Value.int IntKind.i64 i] (135 : Nat))) w28 [w.heap.size] ∧
                       SX.Ptr p fun (a32 : Addr) =>
                        (∃ (v33 : Value), w28.cell? ((a32.add (2 : Nat)).add (0 : Nat)) = some v33) ∧
                         w28.frozen? ((a32.add (2 : Nat)).add (0 : Nat)) = false ∧
                          Apart ((a32.add (2 : Nat)).add (0 : Nat)) w.heap.size [(0 : Nat), (1 : Nat), (2 : Nat)] ∧
                           (Known (w28.setCell ((a32.add (2 : Nat)).add (0 : Nat)) (Value.slice q29 n30 n31))
                             [(w.heap.size, [((0 : Nat), Value.string f), ((1 : Nat), Value.string t), ((2 : Nat), Value.int IntKind.i64 i)])] →
                            R (Ending.returned (Value.int IntKind.i64 (0 : Int))) (w28.setCell ((a32.add (2 : Nat)).add (0 : Nat)) (Value.slice q29 n30 n31))))
theorem vcTry88 (p : Option Addr) (f t : ByteArray) (i : Int) (w : World) (R : Ending → World → Prop) : SX.vcFn Try.prog [] Try.f88 [.v (.pointer p), .v (.agg #[.string f, .string t, .int .i64 i])] [] w R = VCTry88 p f t i w R := by kernel_rfl
def VCTry90 (f t : ByteArray) (i : Int) (p : Option Addr) (w : World) (R : Ending → World → Prop) : Prop :=
bif f.toList == ({ data := #[] } : ByteArray).toList then
 SX.Ptr p fun (a0 : Addr) =>
  ∃ (i1 : Int),
   (w.alloc (Obj.cells #[Value.string f, Value.string t, Value.int IntKind.i64 i] (135 : Nat))).cell? a0 = some (Value.int IntKind.i64 i1) ∧
    (Known (w.alloc (Obj.cells #[Value.string f, Value.string t, Value.int IntKind.i64 i] (135 : Nat)))
      [(w.heap.size, [((0 : Nat), Value.string f), ((1 : Nat), Value.string t), ((2 : Nat), Value.int IntKind.i64 i)])] →
     R (Ending.returned (Value.bool (i == i1))) (w.alloc (Obj.cells #[Value.string f, Value.string t, Value.int IntKind.i64 i] (135 : Nat))))
else
 Known (w.alloc (Obj.cells #[Value.string f, Value.string t, Value.int IntKind.i64 i] (135 : Nat))) [(w.heap.size, [((0 : Nat), Value.string f), ((1 : Nat), Value.string t), ((2 : Nat), Value.int IntKind.i64 i)])] →
  R (Ending.returned (Value.bool false)) (w.alloc (Obj.cells #[Value.string f, Value.string t, Value.int IntKind.i64 i] (135 : Nat)))
theorem vcTry90 (f t : ByteArray) (i : Int) (p : Option Addr) (w : World) (R : Ending → World → Prop) : SX.vcFn Try.prog [] Try.f90 [.v (.agg #[.string f, .string t, .int .i64 i]), .v (.pointer p)] [] w R = VCTry90 f t i p w R := by kernel_rfl
end Go.Proofs.Ytlgkcbdpaffigaa
