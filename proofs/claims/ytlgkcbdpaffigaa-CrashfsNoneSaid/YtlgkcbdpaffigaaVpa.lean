/- The conditions of functions, as the executor computes them: each is equal to what 'vcFn' says. -/
import Derived.Test.YtlgkcbdpaffigaaSxLib
import Derived.Test.YtlgkcbdpaffigaaProg
namespace Go.Proofs.Ytlgkcbdpaffigaa
open Go Go.SX Go.Proofs
set_option maxRecDepth 100000
set_option linter.unusedVariables false
def VCTry24 (p0 : Int) (w : World) (R : Ending → World → Prop) : Prop :=
Known
  (w.alloc
   (Obj.cells
    #[Value.slice none (0 : Nat) (0 : Nat), Value.map none, Value.map none, Value.slice none (0 : Nat) (0 : Nat), Value.int IntKind.i64 (maxI (0 : Int) (minI (65536 : Int) p0)), Value.int IntKind.i64 (0 : Int),
     Value.int IntKind.i64 (0 : Int), Value.slice none (0 : Nat) (0 : Nat)]
    (122 : Nat)))
  [(w.heap.size,
    [((0 : Nat), Value.slice none (0 : Nat) (0 : Nat)), ((1 : Nat), Value.map none), ((2 : Nat), Value.map none), ((3 : Nat), Value.slice none (0 : Nat) (0 : Nat)),
     ((4 : Nat), Value.int IntKind.i64 (maxI (0 : Int) (minI (65536 : Int) p0))), ((5 : Nat), Value.int IntKind.i64 (0 : Int)), ((6 : Nat), Value.int IntKind.i64 (0 : Int)),
     ((7 : Nat), Value.slice none (0 : Nat) (0 : Nat))])] →
 R (Ending.returned (Value.pointer (some { block := w.heap.size, off := (0 : Nat) })))
  (w.alloc
   (Obj.cells
    #[Value.slice none (0 : Nat) (0 : Nat), Value.map none, Value.map none, Value.slice none (0 : Nat) (0 : Nat), Value.int IntKind.i64 (maxI (0 : Int) (minI (65536 : Int) p0)), Value.int IntKind.i64 (0 : Int),
     Value.int IntKind.i64 (0 : Int), Value.slice none (0 : Nat) (0 : Nat)]
    (122 : Nat)))
theorem vcTry24 (p0 : Int) (w : World) (R : Ending → World → Prop) : SX.vcFn Try.prog [] Try.f24 [.v (.int .i64 p0)] [] w R = VCTry24 p0 w R := by kernel_rfl
def VCTry27 (p0 : Option Addr) (p1 : Option Addr) (n1 c1 : Nat) (w : World) (R : Ending → World → Prop) : Prop :=
bif !p0.isNone then
 Rets Try.prog (75 : Nat) #[Value.slice p1 n1 c1] w fun (v0 : Value) (w1 : World) =>
  ∃ (q2 : Option Addr),
   ∃ (n3 : Nat),
    ∃ (n4 : Nat),
     v0 = Value.slice q2 n3 n4 ∧
      Keeps w w1 [] ∧
       SX.Ptr p0 fun (a5 : Addr) =>
        (∃ (v6 : Value), w1.cell? ((a5.add (7 : Nat)).add (0 : Nat)) = some v6) ∧
         w1.frozen? ((a5.add (7 : Nat)).add (0 : Nat)) = false ∧ R (Ending.returned (Value.tuple #[])) (w1.setCell ((a5.add (7 : Nat)).add (0 : Nat)) (Value.slice q2 n3 n4))
else R (Ending.returned (Value.tuple #[])) w
theorem vcTry27 (p0 : Option Addr) (p1 : Option Addr) (n1 c1 : Nat) (w : World) (R : Ending → World → Prop) : SX.vcFn Try.prog [] Try.f27 [.v (.pointer p0), .v (.slice p1 n1 c1)] [] w R = VCTry27 p0 p1 n1 c1 w R := by kernel_rfl
def VCTry28 (p0 : Option Addr) (p1 : ByteArray) (w : World) (R : Ending → World → Prop) : Prop :=
Rets Try.prog (76 : Nat) #[Value.pointer p0] w fun (v0 : Value) (w1 : World) =>
 ∃ (i2 : Int),
  v0 = Value.int IntKind.i64 i2 ∧
   Keeps w w1 [] ∧
    bif i2 != (0 : Int) then R (Ending.returned (Value.tuple #[Value.int IntKind.i64 (0 : Int), Value.int IntKind.i64 i2])) w1
    else
     SX.Ptr p0 fun (a3 : Addr) =>
      ∃ (q4 : Option Addr),
       ∃ (n5 : Nat),
        ∃ (n6 : Nat),
         w1.cell? (a3.add (0 : Nat)) = some (Value.slice q4 n5 n6) ∧
          bif decide ((↑n5 : Int) ≥ (1000 : Int)) then R (Ending.returned (Value.tuple #[Value.int IntKind.i64 (0 : Int), Value.int IntKind.i64 (14 : Int)])) w1
          else
           SX.Ptr p0 fun (a7 : Addr) =>
            Rets Try.prog (47 : Nat) #[Value.pointer (some (a7.add (1 : Nat))), Value.string p1, Value.int IntKind.i64 (↑n5 : Int)] w1 fun (v8 : Value) (w9 : World) =>
             ∃ (i10 : Int),
              v8 = Value.int IntKind.i64 i10 ∧
               Keeps w1 w9 [] ∧
                bif i10 != (0 : Int) then R (Ending.returned (Value.tuple #[Value.int IntKind.i64 (0 : Int), Value.int IntKind.i64 i10])) w9
                else
                 SX.Ptr p0 fun (a11 : Addr) =>
                  ∃ (q12 : Option Addr),
                   ∃ (n13 : Nat),
                    ∃ (n14 : Nat),
                     w9.cell? (a11.add (0 : Nat)) = some (Value.slice q12 n13 n14) ∧
                      Runs Try.prog
                       (Builtin.append_ #[(120 : Nat), (120 : Nat)] (120 : Nat)
                        #[Value.slice q12 n13 n14,
                         Value.slice
                          (some
                           {
                            block :=
                             (w9.alloc (Obj.cells #[Value.slice none (0 : Nat) (0 : Nat), Value.slice none (0 : Nat) (0 : Nat), Value.slice none (0 : Nat) (0 : Nat)] (29 : Nat))).heap.size,
                            off := (0 : Nat) })
                          (1 : Nat) (1 : Nat)])
                       ((w9.alloc (Obj.cells #[Value.slice none (0 : Nat) (0 : Nat), Value.slice none (0 : Nat) (0 : Nat), Value.slice none (0 : Nat) (0 : Nat)] (29 : Nat))).alloc
                        (Obj.cells #[Value.pointer (some { block := w9.heap.size, off := (0 : Nat) })] (36 : Nat)))
                       fun (v15 : Value) (w16 : World) =>
                       ∃ (q17 : Option Addr),
                        ∃ (n18 : Nat),
                         ∃ (n19 : Nat),
                          v15 = Value.slice q17 n18 n19 ∧
                           Keeps
                             ((w9.alloc (Obj.cells #[Value.slice none (0 : Nat) (0 : Nat), Value.slice none (0 : Nat) (0 : Nat), Value.slice none (0 : Nat) (0 : Nat)] (29 : Nat))).alloc
                              (Obj.cells #[Value.pointer (some { block := w9.heap.size, off := (0 : Nat) })] (36 : Nat)))
                             w16 [w9.heap.size] ∧
                            SX.Ptr p0 fun (a20 : Addr) =>
                             (∃ (v21 : Value), w16.cell? ((a20.add (0 : Nat)).add (0 : Nat)) = some v21) ∧
                              w16.frozen? ((a20.add (0 : Nat)).add (0 : Nat)) = false ∧
                               Apart ((a20.add (0 : Nat)).add (0 : Nat)) w9.heap.size [(0 : Nat), (1 : Nat), (2 : Nat)] ∧
                                (Known (w16.setCell ((a20.add (0 : Nat)).add (0 : Nat)) (Value.slice q17 n18 n19))
                                  [(w9.heap.size,
                                   [((0 : Nat), Value.slice none (0 : Nat) (0 : Nat)), ((1 : Nat), Value.slice none (0 : Nat) (0 : Nat)),
                                    ((2 : Nat), Value.slice none (0 : Nat) (0 : Nat))])] →
                                 R (Ending.returned (Value.tuple #[Value.int IntKind.i64 (↑n5 : Int), Value.int IntKind.i64 (0 : Int)]))
                                  (w16.setCell ((a20.add (0 : Nat)).add (0 : Nat)) (Value.slice q17 n18 n19)))
theorem vcTry28 (p0 : Option Addr) (p1 : ByteArray) (w : World) (R : Ending → World → Prop) : SX.vcFn Try.prog [] Try.f28 [.v (.pointer p0), .v (.string p1)] [] w R = VCTry28 p0 p1 w R := by kernel_rfl
def VCTry29 (p0 : Option Addr) (p1 : Int) (p2 : Int) (p3 : Option Addr) (n3 c3 : Nat) (w : World) (R : Ending → World → Prop) : Prop :=
Rets Try.prog (76 : Nat) #[Value.pointer p0] w fun (v0 : Value) (w1 : World) =>
 ∃ (i2 : Int),
  v0 = Value.int IntKind.i64 i2 ∧
   Keeps w w1 [] ∧
    bif i2 != (0 : Int) then R (Ending.returned (Value.int IntKind.i64 i2)) w1
    else
     Rets Try.prog (77 : Nat) #[Value.pointer p0, Value.int IntKind.i64 p1] w1 fun (v3 : Value) (w4 : World) =>
      ∃ (q5 : Option Addr),
       v3 = Value.pointer q5 ∧
        Keeps w1 w4 [] ∧
         Rets Try.prog (65 : Nat) #[Value.pointer q5, Value.int IntKind.i64 p2, Value.int IntKind.i64 (↑n3 : Int)] w4 fun (v6 : Value) (w7 : World) =>
          ∃ (i8 : Int),
           ∃ (t9 : Bool),
            v6 = Value.tuple #[Value.int IntKind.i64 i8, Value.bool t9] ∧
             Keeps w4 w7 [] ∧
              bif !t9 then R (Ending.returned (Value.int IntKind.i64 (1 : Int))) w7
              else
               Rets Try.prog (18 : Nat) #[Value.pointer q5] w7.drew fun (v10 : Value) (w11 : World) =>
                ∃ (i12 : Int),
                 v10 = Value.int IntKind.i64 i12 ∧
                  Keeps w7.drew w11 [] ∧
                   bif decide (i8 > i12) then
                    SX.Ptr p0 fun (a13 : Addr) =>
                     ∃ (i14 : Int),
                      w11.cell? (a13.add (4 : Nat)) = some (Value.int IntKind.i64 i14) ∧
                       Rets Try.prog (18 : Nat) #[Value.pointer q5] w11 fun (v15 : Value) (w16 : World) =>
                        ∃ (i17 : Int),
                         v15 = Value.int IntKind.i64 i17 ∧
                          Keeps w11 w16 [] ∧
                           w16.cell? (a13.add (4 : Nat)) = some (Value.int IntKind.i64 i14) ∧
                            Wr IntKind.i64 (i8 - i17) fun (i18 : Int) =>
                             Rets Try.prog (55 : Nat) #[Value.pointer p0] w16 fun (v19 : Value) (w20 : World) =>
                              ∃ (i21 : Int),
                               v19 = Value.int IntKind.i64 i21 ∧
                                Keeps w16 w20 [] ∧
                                 w20.cell? (a13.add (4 : Nat)) = some (Value.int IntKind.i64 i14) ∧
                                  Wr IntKind.i64 (i14 - i21) fun (i22 : Int) =>
                                   bif decide (i18 > i22) then
                                    SX.Ptr p0 fun (a23 : Addr) =>
                                     ∃ (i24 : Int),
                                      w20.cell? (a23.add (6 : Nat)) = some (Value.int IntKind.i64 i24) ∧
                                       Wr IntKind.i64 (i24 + (1 : Int)) fun (i25 : Int) =>
                                        SX.Ptr p0 fun (a26 : Addr) =>
                                         (∃ (v27 : Value), w20.cell? ((a26.add (6 : Nat)).add (0 : Nat)) = some v27) ∧
                                          w20.frozen? ((a26.add (6 : Nat)).add (0 : Nat)) = false ∧
                                           R (Ending.returned (Value.int IntKind.i64 (9 : Int))) (w20.setCell ((a26.add (6 : Nat)).add (0 : Nat)) (Value.int IntKind.i64 i25))
                                   else
                                    Rets Try.prog (20 : Nat) #[Value.pointer q5, Value.int IntKind.i64 p2, Value.slice p3 n3 c3] w20 fun (v28 : Value) (w29 : World) =>
                                     ∃ (i30 : Int), v28 = Value.int IntKind.i64 i30 ∧ Keeps w20 w29 [] ∧ R (Ending.returned (Value.int IntKind.i64 i30)) w29
                   else
                    Rets Try.prog (20 : Nat) #[Value.pointer q5, Value.int IntKind.i64 p2, Value.slice p3 n3 c3] w11 fun (v31 : Value) (w32 : World) =>
                     ∃ (i33 : Int), v31 = Value.int IntKind.i64 i33 ∧ Keeps w11 w32 [] ∧ R (Ending.returned (Value.int IntKind.i64 i33)) w32
theorem vcTry29 (p0 : Option Addr) (p1 : Int) (p2 : Int) (p3 : Option Addr) (n3 c3 : Nat) (w : World) (R : Ending → World → Prop) : SX.vcFn Try.prog [] Try.f29 [.v (.pointer p0), .v (.int .i64 p1), .v (.int .i64 p2), .v (.slice p3 n3 c3)] [] w R = VCTry29 p0 p1 p2 p3 n3 c3 w R := by kernel_rfl
def VCTry30 (p0 : Option Addr) (p1 : Int) (w : World) (R : Ending → World → Prop) : Prop :=
Rets Try.prog (76 : Nat) #[Value.pointer p0] w fun (v0 : Value) (w1 : World) =>
 ∃ (i2 : Int),
  v0 = Value.int IntKind.i64 i2 ∧
   Keeps w w1 [] ∧
    bif i2 != (0 : Int) then R (Ending.returned (Value.int IntKind.i64 i2)) w1
    else
     Rets Try.prog (77 : Nat) #[Value.pointer p0, Value.int IntKind.i64 p1] w1 fun (v3 : Value) (w4 : World) =>
      ∃ (q5 : Option Addr),
       v3 = Value.pointer q5 ∧
        Keeps w1 w4 [] ∧
         bif q5.isNone then R (Ending.returned (Value.int IntKind.i64 (1 : Int))) w4
         else Rets Try.prog (16 : Nat) #[Value.pointer q5] w4 fun (v6 : Value) (w7 : World) => v6 = Value.tuple #[] ∧ Keeps w4 w7 [] ∧ R (Ending.returned (Value.int IntKind.i64 (0 : Int))) w7
theorem vcTry30 (p0 : Option Addr) (p1 : Int) (w : World) (R : Ending → World → Prop) : SX.vcFn Try.prog [] Try.f30 [.v (.pointer p0), .v (.int .i64 p1)] [] w R = VCTry30 p0 p1 w R := by kernel_rfl
def VCTry31 (p0 : Option Addr) (w : World) (R : Ending → World → Prop) : Prop :=
Rets Try.prog (76 : Nat) #[Value.pointer p0] w fun (v0 : Value) (w1 : World) =>
 ∃ (i2 : Int),
  v0 = Value.int IntKind.i64 i2 ∧
   Keeps w w1 [] ∧
    bif i2 == (0 : Int) then
     SX.Ptr p0 fun (a3 : Addr) =>
      Rets Try.prog (38 : Nat) #[Value.pointer (some (a3.add (1 : Nat)))] w1 fun (v4 : Value) (w5 : World) => v4 = Value.tuple #[] ∧ Keeps w1 w5 [] ∧ R (Ending.returned (Value.int IntKind.i64 i2)) w5
    else R (Ending.returned (Value.int IntKind.i64 i2)) w1
theorem vcTry31 (p0 : Option Addr) (w : World) (R : Ending → World → Prop) : SX.vcFn Try.prog [] Try.f31 [.v (.pointer p0)] [] w R = VCTry31 p0 w R := by kernel_rfl
def VCTry33 (p0 : Option Addr) (p1 : ByteArray) (w : World) (R : Ending → World → Prop) : Prop :=
bif p0.isNone then R (Ending.returned (Value.tuple #[Value.int IntKind.i64 (0 : Int), Value.int IntKind.i64 (1 : Int)])) w
else
 SX.Ptr p0 fun (a0 : Addr) =>
  Rets Try.prog (42 : Nat) #[Value.pointer (some (a0.add (1 : Nat))), Value.string p1] w fun (v1 : Value) (w2 : World) =>
   ∃ (i3 : Int),
    ∃ (t4 : Bool),
     v1 = Value.tuple #[Value.int IntKind.i64 i3, Value.bool t4] ∧
      Keeps w w2 [] ∧
       bif !t4 then R (Ending.returned (Value.tuple #[Value.int IntKind.i64 (0 : Int), Value.int IntKind.i64 (7 : Int)])) w2
       else R (Ending.returned (Value.tuple #[Value.int IntKind.i64 i3, Value.int IntKind.i64 (0 : Int)])) w2
theorem vcTry33 (p0 : Option Addr) (p1 : ByteArray) (w : World) (R : Ending → World → Prop) : SX.vcFn Try.prog [] Try.f33 [.v (.pointer p0), .v (.string p1)] [] w R = VCTry33 p0 p1 w R := by kernel_rfl
def VCTry34 (p0 : Option Addr) (p1 : Int) (p2 : Int) (p3 : Int) (w : World) (R : Ending → World → Prop) : Prop :=
Rets Try.prog (77 : Nat) #[Value.pointer p0, Value.int IntKind.i64 p1] w fun (v0 : Value) (w1 : World) =>
 ∃ (q2 : Option Addr),
  v0 = Value.pointer q2 ∧
   Keeps w w1 [] ∧
    Rets Try.prog (17 : Nat) #[Value.pointer q2, Value.int IntKind.i64 p2, Value.int IntKind.i64 p3] w1 fun (v3 : Value) (w4 : World) =>
     ∃ (q5 : Option Addr),
      ∃ (n6 : Nat),
       ∃ (n7 : Nat), ∃ (i8 : Int), v3 = Value.tuple #[Value.slice q5 n6 n7, Value.int IntKind.i64 i8] ∧ Keeps w1 w4 [] ∧ R (Ending.returned (Value.tuple #[Value.slice q5 n6 n7, Value.int IntKind.i64 i8])) w4
theorem vcTry34 (p0 : Option Addr) (p1 : Int) (p2 : Int) (p3 : Int) (w : World) (R : Ending → World → Prop) : SX.vcFn Try.prog [] Try.f34 [.v (.pointer p0), .v (.int .i64 p1), .v (.int .i64 p2), .v (.int .i64 p3)] [] w R = VCTry34 p0 p1 p2 p3 w R := by kernel_rfl
def VCTry51 (p0 : Option Addr) (w : World) (R : Ending → World → Prop) : Prop :=
bif p0.isNone then R (Ending.returned (Value.tuple #[Value.int IntKind.i64 (0 : Int), Value.int IntKind.i64 (0 : Int)])) w
else
 SX.Ptr p0 fun (a0 : Addr) =>
  ∃ (i1 : Int),
   w.drew.cell? (a0.add (5 : Nat)) = some (Value.int IntKind.i64 i1) ∧
    SX.Ptr p0 fun (a2 : Addr) => ∃ (i3 : Int), w.drew.cell? (a2.add (6 : Nat)) = some (Value.int IntKind.i64 i3) ∧ R (Ending.returned (Value.tuple #[Value.int IntKind.i64 i1, Value.int IntKind.i64 i3])) w.drew
theorem vcTry51 (p0 : Option Addr) (w : World) (R : Ending → World → Prop) : SX.vcFn Try.prog [] Try.f51 [.v (.pointer p0)] [] w R = VCTry51 p0 w R := by kernel_rfl
def VCTry52 (p0 : Option Addr) (p1 : ByteArray) (p2 : ByteArray) (w : World) (R : Ending → World → Prop) : Prop :=
Rets Try.prog (76 : Nat) #[Value.pointer p0] w fun (v0 : Value) (w1 : World) =>
 ∃ (i2 : Int),
  v0 = Value.int IntKind.i64 i2 ∧
   Keeps w w1 [] ∧
    bif i2 != (0 : Int) then R (Ending.returned (Value.int IntKind.i64 i2)) w1
    else
     SX.Ptr p0 fun (a3 : Addr) =>
      Rets Try.prog (43 : Nat) #[Value.pointer (some (a3.add (1 : Nat))), Value.string p1, Value.string p2] w1 fun (v4 : Value) (w5 : World) =>
       ∃ (i6 : Int), v4 = Value.int IntKind.i64 i6 ∧ Keeps w1 w5 [] ∧ R (Ending.returned (Value.int IntKind.i64 i6)) w5
theorem vcTry52 (p0 : Option Addr) (p1 : ByteArray) (p2 : ByteArray) (w : World) (R : Ending → World → Prop) : SX.vcFn Try.prog [] Try.f52 [.v (.pointer p0), .v (.string p1), .v (.string p2)] [] w R = VCTry52 p0 p1 p2 w R := by kernel_rfl
def VCTry53 (p0 : Option Addr) (p1 : ByteArray) (w : World) (R : Ending → World → Prop) : Prop :=
Rets Try.prog (76 : Nat) #[Value.pointer p0] w fun (v0 : Value) (w1 : World) =>
 ∃ (i2 : Int),
  v0 = Value.int IntKind.i64 i2 ∧
   Keeps w w1 [] ∧
    bif i2 != (0 : Int) then R (Ending.returned (Value.int IntKind.i64 i2)) w1
    else
     SX.Ptr p0 fun (a3 : Addr) =>
      Rets Try.prog (48 : Nat) #[Value.pointer (some (a3.add (1 : Nat))), Value.string p1] w1 fun (v4 : Value) (w5 : World) =>
       ∃ (i6 : Int), v4 = Value.int IntKind.i64 i6 ∧ Keeps w1 w5 [] ∧ R (Ending.returned (Value.int IntKind.i64 i6)) w5
theorem vcTry53 (p0 : Option Addr) (p1 : ByteArray) (w : World) (R : Ending → World → Prop) : SX.vcFn Try.prog [] Try.f53 [.v (.pointer p0), .v (.string p1)] [] w R = VCTry53 p0 p1 w R := by kernel_rfl
def VCTry54 (p0 : Option Addr) (p1 : Int) (w : World) (R : Ending → World → Prop) : Prop :=
Rets Try.prog (77 : Nat) #[Value.pointer p0, Value.int IntKind.i64 p1] w fun (v0 : Value) (w1 : World) =>
 ∃ (q2 : Option Addr),
  v0 = Value.pointer q2 ∧
   Keeps w w1 [] ∧ Rets Try.prog (18 : Nat) #[Value.pointer q2] w1 fun (v3 : Value) (w4 : World) => ∃ (i5 : Int), v3 = Value.int IntKind.i64 i5 ∧ Keeps w1 w4 [] ∧ R (Ending.returned (Value.int IntKind.i64 i5)) w4
theorem vcTry54 (p0 : Option Addr) (p1 : Int) (w : World) (R : Ending → World → Prop) : SX.vcFn Try.prog [] Try.f54 [.v (.pointer p0), .v (.int .i64 p1)] [] w R = VCTry54 p0 p1 w R := by kernel_rfl
def VCTry55 (p0 : Option Addr) (w : World) (R : Ending → World → Prop) : Prop :=
bif p0.isNone then R (Ending.returned (Value.int IntKind.i64 (0 : Int))) w
else
 SX.Ptr p0 fun (a0 : Addr) =>
  ∃ (q1 : Option Addr),
   ∃ (n2 : Nat),
    ∃ (n3 : Nat),
     w.cell? (a0.add (0 : Nat)) = some (Value.slice q1 n2 n3) ∧
      ∃ (I4 : Int → Int → World → Prop),
       ∃ (I5 : Int → Int → World → Nat),
        I4 (0 : Int) (0 : Int) w ∧
         ∀ (i6 i7 : Int) (w8 : World),
          I4 i6 i7 w8 →
           bif decide (i6 < (↑n2 : Int)) then
            ((0 : Int) ≤ i6 ∧ i6 < (↑n2 : Int)) ∧
             SX.Ptr q1 fun (a9 : Addr) =>
              ∃ (q10 : Option Addr),
               w8.cell? (a9.add (i6.toNat * (1 : Nat))) = some (Value.pointer q10) ∧
                SX.Ptr p0 fun (a11 : Addr) =>
                 Rets Try.prog (46 : Nat) #[Value.pointer (some (a11.add (1 : Nat))), Value.int IntKind.i64 i6] w8 fun (v12 : Value) (w13 : World) =>
                  ∃ (t14 : Bool),
                   v12 = Value.bool t14 ∧
                    Keeps w8 w13 [] ∧
                     bif t14 then
                      Rets Try.prog (18 : Nat) #[Value.pointer q10] w13 fun (v15 : Value) (w16 : World) =>
                       ∃ (i17 : Int),
                        v15 = Value.int IntKind.i64 i17 ∧
                         Keeps w13 w16 [] ∧ Wr IntKind.i64 (i7 + i17) fun (i18 : Int) => Wr IntKind.i64 (i6 + (1 : Int)) fun (i19 : Int) => I4 i19 i18 w16 ∧ I5 i19 i18 w16 < I5 i6 i7 w8
                     else Wr IntKind.i64 (i6 + (1 : Int)) fun (i20 : Int) => I4 i20 i7 w13 ∧ I5 i20 i7 w13 < I5 i6 i7 w8
           else R (Ending.returned (Value.int IntKind.i64 i7)) w8
theorem vcTry55 (p0 : Option Addr) (w : World) (R : Ending → World → Prop) : SX.vcFn Try.prog [(5, ⟨[(13, .int .i64), (3, .int .i64)], [0, 11, 12], []⟩)] Try.f55 [.v (.pointer p0)] [] w R = VCTry55 p0 w R := by kernel_rfl
def VCTry56 (p0 : Option Addr) (w : World) (R : Ending → World → Prop) : Prop :=
bif p0.isNone then R (Ending.returned (Value.slice none (0 : Nat) (0 : Nat))) w
else
 SX.Ptr p0 fun (a0 : Addr) =>
  Rets Try.prog (39 : Nat) #[Value.pointer (some (a0.add (1 : Nat)))] w fun (v1 : Value) (w2 : World) =>
   ∃ (q3 : Option Addr), ∃ (n4 : Nat), ∃ (n5 : Nat), v1 = Value.slice q3 n4 n5 ∧ Keeps w w2 [] ∧ R (Ending.returned (Value.slice q3 n4 n5)) w2
theorem vcTry56 (p0 : Option Addr) (w : World) (R : Ending → World → Prop) : SX.vcFn Try.prog [] Try.f56 [.v (.pointer p0)] [] w R = VCTry56 p0 w R := by kernel_rfl
def VCTry57 (p0 : Option Addr) (w : World) (R : Ending → World → Prop) : Prop :=
bif p0.isNone then R (Ending.returned (Value.int IntKind.i64 (0 : Int))) w
else
 SX.Ptr p0 fun (a0 : Addr) =>
  ∃ (q1 : Option Addr),
   ∃ (n2 : Nat),
    ∃ (n3 : Nat),
     w.cell? (a0.add (0 : Nat)) = some (Value.slice q1 n2 n3) ∧
      ∃ (I4 : Int → Int → World → Prop),
       ∃ (I5 : Int → Int → World → Nat),
        I4 (0 : Int) (0 : Int) w ∧
         ∀ (i6 i7 : Int) (w8 : World),
          I4 i6 i7 w8 →
           bif decide (i6 < (↑n2 : Int)) then
            ((0 : Int) ≤ i6 ∧ i6 < (↑n2 : Int)) ∧
             SX.Ptr q1 fun (a9 : Addr) =>
              ∃ (q10 : Option Addr),
               w8.cell? (a9.add (i6.toNat * (1 : Nat))) = some (Value.pointer q10) ∧
                Rets Try.prog (21 : Nat) #[Value.pointer q10] w8 fun (v11 : Value) (w12 : World) =>
                 ∃ (i13 : Int),
                  v11 = Value.int IntKind.i64 i13 ∧
                   Keeps w8 w12 [] ∧ Wr IntKind.i64 (i7 + i13) fun (i14 : Int) => Wr IntKind.i64 (i6 + (1 : Int)) fun (i15 : Int) => I4 i15 i14 w12 ∧ I5 i15 i14 w12 < I5 i6 i7 w8
           else R (Ending.returned (Value.int IntKind.i64 i7)) w8
theorem vcTry57 (p0 : Option Addr) (w : World) (R : Ending → World → Prop) : SX.vcFn Try.prog [(5, ⟨[(13, .int .i64), (3, .int .i64)], [11, 12], []⟩)] Try.f57 [.v (.pointer p0)] [] w R = VCTry57 p0 w R := by kernel_rfl
def VCTry76 (p0 : Option Addr) (w : World) (R : Ending → World → Prop) : Prop :=
bif p0.isNone then R (Ending.returned (Value.int IntKind.i64 (1 : Int))) w
else
 SX.Ptr p0 fun (a0 : Addr) =>
  ∃ (i1 : Int),
   w.cell? (a0.add (5 : Nat)) = some (Value.int IntKind.i64 i1) ∧
    Wr IntKind.i64 (i1 + (1 : Int)) fun (i2 : Int) =>
     SX.Ptr p0 fun (a3 : Addr) =>
      (∃ (v4 : Value), w.cell? ((a3.add (5 : Nat)).add (0 : Nat)) = some v4) ∧
       w.frozen? ((a3.add (5 : Nat)).add (0 : Nat)) = false ∧
        SX.Ptr p0 fun (a5 : Addr) =>
         ∃ (q6 : Option Addr),
          ∃ (n7 : Nat),
           ∃ (n8 : Nat),
            (w.setCell ((a3.add (5 : Nat)).add (0 : Nat)) (Value.int IntKind.i64 i2)).cell? (a5.add (7 : Nat)) = some (Value.slice q6 n7 n8) ∧
             ∃ (I9 : Int → Int → World → Prop),
              ∃ (I10 : Int → Int → World → Nat),
               I9 (0 : Int) (0 : Int) (w.setCell ((a3.add (5 : Nat)).add (0 : Nat)) (Value.int IntKind.i64 i2)) ∧
                ∀ (i11 i12 : Int) (w13 : World),
                 I9 i11 i12 w13 →
                  bif decide (i11 < (↑n7 : Int)) then
                   ((0 : Int) ≤ i11 ∧ i11 < (↑n7 : Int)) ∧
                    SX.Ptr q6 fun (a14 : Addr) =>
                     ∃ (i15 : Int),
                      w13.cell? (a14.add (i11.toNat * (1 : Nat))) = some (Value.int IntKind.i64 i15) ∧
                       SX.Ptr p0 fun (a16 : Addr) =>
                        ∃ (i17 : Int),
                         w13.cell? (a16.add (5 : Nat)) = some (Value.int IntKind.i64 i17) ∧
                          bif i15 == i17 then
                           SX.Ptr p0 fun (a18 : Addr) =>
                            ∃ (i19 : Int),
                             w13.cell? (a18.add (6 : Nat)) = some (Value.int IntKind.i64 i19) ∧
                              Wr IntKind.i64 (i19 + (1 : Int)) fun (i20 : Int) =>
                               SX.Ptr p0 fun (a21 : Addr) =>
                                (∃ (v22 : Value), w13.cell? ((a21.add (6 : Nat)).add (0 : Nat)) = some v22) ∧
                                 w13.frozen? ((a21.add (6 : Nat)).add (0 : Nat)) = false ∧
                                  R (Ending.returned (Value.int IntKind.i64 (10 : Int))) (w13.setCell ((a21.add (6 : Nat)).add (0 : Nat)) (Value.int IntKind.i64 i20))
                          else Wr IntKind.i64 (i11 + (1 : Int)) fun (i23 : Int) => I9 i23 i12 w13 ∧ I10 i23 i12 w13 < I10 i11 i12 w13
                  else R (Ending.returned (Value.int IntKind.i64 i12)) w13
theorem vcTry76 (p0 : Option Addr) (w : World) (R : Ending → World → Prop) : SX.vcFn Try.prog [(6, ⟨[(20, .int .i64), (3, .int .i64)], [0, 18, 19], []⟩)] Try.f76 [.v (.pointer p0)] [] w R = VCTry76 p0 w R := by kernel_rfl
def VCTry77 (p0 : Option Addr) (p1 : Int) (w : World) (R : Ending → World → Prop) : Prop :=
bif p0.isNone then R (Ending.returned (Value.pointer none)) w
else
 bif decide (p1 < (0 : Int)) then R (Ending.returned (Value.pointer none)) w
 else
  SX.Ptr p0 fun (a0 : Addr) =>
   ∃ (q1 : Option Addr),
    ∃ (n2 : Nat),
     ∃ (n3 : Nat),
      w.cell? (a0.add (0 : Nat)) = some (Value.slice q1 n2 n3) ∧
       bif decide (p1 ≥ (↑n2 : Int)) then R (Ending.returned (Value.pointer none)) w
       else
        SX.Ptr p0 fun (a4 : Addr) =>
         ∃ (q5 : Option Addr),
          ∃ (n6 : Nat),
           ∃ (n7 : Nat),
            w.cell? (a4.add (0 : Nat)) = some (Value.slice q5 n6 n7) ∧
             ((0 : Int) ≤ p1 ∧ p1 < (↑n6 : Int)) ∧
              SX.Ptr q5 fun (a8 : Addr) => ∃ (q9 : Option Addr), w.cell? (a8.add (p1.toNat * (1 : Nat))) = some (Value.pointer q9) ∧ R (Ending.returned (Value.pointer q9)) w
theorem vcTry77 (p0 : Option Addr) (p1 : Int) (w : World) (R : Ending → World → Prop) : SX.vcFn Try.prog [] Try.f77 [.v (.pointer p0), .v (.int .i64 p1)] [] w R = VCTry77 p0 p1 w R := by kernel_rfl
def VCTry23 (w : World) (R : Ending → World → Prop) : Prop :=
Rets Try.prog (24 : Nat) #[Value.int IntKind.i64 (9 : Int)] w fun (v0 : Value) (w1 : World) =>
 ∃ (q2 : Option Addr),
  v0 = Value.pointer q2 ∧
   Keeps w w1 [] ∧
    Rets Try.prog (27 : Nat) #[Value.pointer q2, Value.slice (some { block := w1.heap.size, off := (0 : Nat) }) (1 : Nat) (1 : Nat)] (w1.alloc (Obj.cells #[Value.int IntKind.i64 (2 : Int)] (3 : Nat)))
     fun (v3 : Value) (w4 : World) =>
     v3 = Value.tuple #[] ∧
      Keeps (w1.alloc (Obj.cells #[Value.int IntKind.i64 (2 : Int)] (3 : Nat))) w4 [] ∧
       Rets Try.prog (28 : Nat) #[Value.pointer q2, Value.string { data := #[(97 : UInt8)] }] w4 fun (v5 : Value) (w6 : World) =>
        ∃ (i7 : Int),
         ∃ (i8 : Int),
          v5 = Value.tuple #[Value.int IntKind.i64 i7, Value.int IntKind.i64 i8] ∧
           Keeps w4 w6 [] ∧
            Rets Try.prog (29 : Nat) #[Value.pointer q2, Value.int IntKind.i64 i7, Value.int IntKind.i64 (0 : Int), Value.slice (some { block := w6.heap.size, off := (0 : Nat) }) (1 : Nat) (1 : Nat)]
             (w6.alloc (Obj.cells #[Value.int IntKind.u8 (1 : Int)] (5 : Nat))) fun (v9 : Value) (w10 : World) =>
             ∃ (i11 : Int),
              v9 = Value.int IntKind.i64 i11 ∧
               Keeps (w6.alloc (Obj.cells #[Value.int IntKind.u8 (1 : Int)] (5 : Nat))) w10 [] ∧
                Rets Try.prog (51 : Nat) #[Value.pointer q2] w10 fun (v12 : Value) (w13 : World) =>
                 ∃ (i14 : Int),
                  ∃ (i15 : Int),
                   v12 = Value.tuple #[Value.int IntKind.i64 i14, Value.int IntKind.i64 i15] ∧
                    Keeps w10 w13 [] ∧
                     bif i8 == (0 : Int) then
                      bif i11 == (10 : Int) then bif i14 == (2 : Int) then R (Ending.returned (Value.bool (i15 == (1 : Int)))) w13 else R (Ending.returned (Value.bool false)) w13
                      else R (Ending.returned (Value.bool false)) w13
                     else R (Ending.returned (Value.bool false)) w13
theorem vcTry23 (w : World) (R : Ending → World → Prop) : SX.vcFn Try.prog [] Try.f23 [] [] w R = VCTry23  w R := by kernel_rfl
def VCTry32 (p : Option Addr) (qk : Option Addr) (nk ck : Nat) (nm : Int) (fill : Int) (w : World) (R : Ending → World → Prop) : Prop :=
bif p.isNone then
 Known (w.alloc (Obj.cells #[Value.slice qk nk ck, Value.int IntKind.i64 nm, Value.int IntKind.u8 fill] (53 : Nat)))
   [(w.heap.size, [((0 : Nat), Value.slice qk nk ck), ((1 : Nat), Value.int IntKind.i64 nm), ((2 : Nat), Value.int IntKind.u8 fill)])] →
  R (Ending.returned (Value.tuple #[])) (w.alloc (Obj.cells #[Value.slice qk nk ck, Value.int IntKind.i64 nm, Value.int IntKind.u8 fill] (53 : Nat)))
else
 SX.Ptr p fun (a0 : Addr) =>
  ∃ (q1 : Option Addr),
   ∃ (n2 : Nat),
    ∃ (n3 : Nat),
     (w.alloc (Obj.cells #[Value.slice qk nk ck, Value.int IntKind.i64 nm, Value.int IntKind.u8 fill] (53 : Nat))).cell? (a0.add (0 : Nat)) = some (Value.slice q1 n2 n3) ∧
      ∃ (I4 : Int → Option Addr → Nat → Nat → World → Prop),
       ∃ (I5 : Int → Option Addr → Nat → Nat → World → Nat),
        I4 (0 : Int) qk nk ck (w.alloc (Obj.cells #[Value.slice qk nk ck, Value.int IntKind.i64 nm, Value.int IntKind.u8 fill] (53 : Nat))) ∧
         ∀ (i6 : Int) (q7 : Option Addr) (n8 n9 : Nat) (w10 : World),
          I4 i6 q7 n8 n9 w10 →
           Known w10 [(w.heap.size, [((0 : Nat), Value.slice qk nk ck), ((1 : Nat), Value.int IntKind.i64 nm), ((2 : Nat), Value.int IntKind.u8 fill)])] →
            bif decide (i6 < (↑n2 : Int)) then
             ((0 : Int) ≤ i6 ∧ i6 < (↑n2 : Int)) ∧
              SX.Ptr q1 fun (a11 : Addr) =>
               ∃ (q12 : Option Addr),
                w10.cell? (a11.add (i6.toNat * (1 : Nat))) = some (Value.pointer q12) ∧
                 (Known w10 [(w.heap.size, [((0 : Nat), Value.slice qk nk ck), ((1 : Nat), Value.int IntKind.i64 nm), ((2 : Nat), Value.int IntKind.u8 fill)])] →
                  Rets Try.prog (21 : Nat) #[Value.pointer q12] w10 fun (v13 : Value) (w14 : World) =>
                   ∃ (i15 : Int),
                    v13 = Value.int IntKind.i64 i15 ∧
                     Keeps w10 w14 [w.heap.size] ∧
                      ((0 : Int) ≤ minI i15 (↑n8 : Int) ∧ minI i15 (↑n8 : Int) ≤ (↑n9 : Int)) ∧
                       (Known w14.drew [(w.heap.size, [((0 : Nat), Value.slice qk nk ck), ((1 : Nat), Value.int IntKind.i64 nm), ((2 : Nat), Value.int IntKind.u8 fill)])] →
                        Rets Try.prog (19 : Nat)
                         #[Value.pointer q12, Value.slice (cutA q7 n9 (0 : Nat) (1 : Nat)) ((minI i15 (↑n8 : Int)).toNat - (0 : Nat)) (n9 - (0 : Nat)), Value.int IntKind.u8 fill] w14.drew
                         fun (v16 : Value) (w17 : World) =>
                         v16 = Value.tuple #[] ∧
                          Keeps w14.drew w17 [w.heap.size] ∧
                           ((0 : Int) ≤ minI i15 (↑n8 : Int) ∧ minI i15 (↑n8 : Int) ≤ (↑n8 : Int)) ∧
                            Wr IntKind.i64 (i6 + (1 : Int)) fun (i18 : Int) =>
                             SameVals [Value.slice qk nk ck, Value.int IntKind.i64 nm, Value.int IntKind.u8 fill] [Value.slice qk nk ck, Value.int IntKind.i64 nm, Value.int IntKind.u8 fill] ∧
                              I4 i18 (cutA q7 n9 (minI i15 (↑n8 : Int)).toNat (1 : Nat)) (n8 - (minI i15 (↑n8 : Int)).toNat) (n9 - (minI i15 (↑n8 : Int)).toNat) w17 ∧
                               I5 i18 (cutA q7 n9 (minI i15 (↑n8 : Int)).toNat (1 : Nat)) (n8 - (minI i15 (↑n8 : Int)).toNat) (n9 - (minI i15 (↑n8 : Int)).toNat) w17 < I5 i6 q7 n8 n9 w10))
            else
             SX.Ptr p fun (a19 : Addr) =>
              Known w10.drew [(w.heap.size, [((0 : Nat), Value.slice qk nk ck), ((1 : Nat), Value.int IntKind.i64 nm), ((2 : Nat), Value.int IntKind.u8 fill)])] →
               Rets Try.prog (40 : Nat) #[Value.pointer (some (a19.add (1 : Nat))), Value.int IntKind.i64 nm] w10.drew fun (v20 : Value) (w21 : World) =>
                v20 = Value.tuple #[] ∧
                 Keeps w10.drew w21 [w.heap.size] ∧
                  SX.Ptr p fun (a22 : Addr) =>
                   (∃ (v23 : Value), w21.cell? ((a22.add (7 : Nat)).add (0 : Nat)) = some v23) ∧
                    w21.frozen? ((a22.add (7 : Nat)).add (0 : Nat)) = false ∧
                     Apart ((a22.add (7 : Nat)).add (0 : Nat)) w.heap.size [(0 : Nat), (1 : Nat), (2 : Nat)] ∧
                      (Known (w21.setCell ((a22.add (7 : Nat)).add (0 : Nat)) (Value.slice none (0 : Nat) (0 : Nat)))
                        [(w.heap.size, [((0 : Nat), Value.slice qk nk ck), ((1 : Nat), Value.int IntKind.i64 nm), ((2 : Nat), Value.int IntKind.u8 fill)])] →
                       R (Ending.returned (Value.tuple #[])) (w21.setCell ((a22.add (7 : Nat)).add (0 : Nat)) (Value.slice none (0 : Nat) (0 : Nat))))
theorem vcTry32 (p : Option Addr) (qk : Option Addr) (nk ck : Nat) (nm : Int) (fill : Int) (w : World) (R : Ending → World → Prop) : SX.vcFn Try.prog [(4, ⟨[(17, .int .i64), (4, .slice)], [3, 15, 0, 16], []⟩)] Try.f32 [.v (.pointer p), .v (.agg #[.slice qk nk ck, .int .i64 nm, .int .u8 fill])] [] w R = VCTry32 p qk nk ck nm fill w R := by kernel_rfl
end Go.Proofs.Ytlgkcbdpaffigaa
