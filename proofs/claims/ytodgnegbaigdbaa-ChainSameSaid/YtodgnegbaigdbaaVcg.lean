/- The conditions of functions, as the executor computes them: each is equal to what 'vcFn' says. -/
import Derived.Test.YtodgnegbaigdbaaSxLib
import Derived.Test.YtodgnegbaigdbaaProg
namespace Go.Proofs.Ytodgnegbaigdbaa
open Go Go.SX Go.Proofs
set_option maxRecDepth 100000
set_option linter.unusedVariables false
def VCTry13 (p0 : Option Addr) (n0 c0 : Nat) (p1 : Int) (w : World) (R : Ending → World → Prop) : Prop :=
bif decide ((↑n0 : Int) > (100 : Int)) then Rets Try.prog (29 : Nat) #[] w fun (v0 : Value) (w1 : World) => ∃ (t2 : Bool), v0 = Value.bool t2 ∧ Keeps w w1 [] ∧ R (Ending.returned (Value.bool t2)) w1
else
 Rets Try.prog (42 : Nat) #[Value.slice p0 n0 c0, Value.int IntKind.i64 p1] w fun (v3 : Value) (w4 : World) =>
  ∃ (q5 : Option Addr),
   ∃ (n6 : Nat),
    ∃ (n7 : Nat),
     ∃ (i8 : Int),
      v3 = Value.tuple #[Value.slice q5 n6 n7, Value.int IntKind.i64 i8] ∧
       Keeps w w4 [] ∧
        Rets Try.prog (43 : Nat) #[Value.slice p0 n0 c0, Value.int IntKind.i64 p1] w4 fun (v9 : Value) (w10 : World) =>
         ∃ (q11 : Option Addr),
          ∃ (n12 : Nat),
           ∃ (n13 : Nat),
            ∃ (i14 : Int),
             v9 = Value.tuple #[Value.slice q11 n12 n13, Value.int IntKind.i64 i14] ∧
              Keeps w4 w10 [] ∧
               bif i8 != i14 then R (Ending.returned (Value.bool false)) w10
               else
                ∃ (s15 : ByteArray),
                 s15.size = n6 ∧
                  BytesAt w10 q5 s15 ∧
                   ∃ (s16 : ByteArray),
                    s16.size = n12 ∧
                     BytesAt w10 q11 s16 ∧
                      bif !s15.toList == s16.toList then R (Ending.returned (Value.bool false)) w10
                      else
                       Rets Try.prog (44 : Nat) #[Value.slice p0 n0 c0] w10 fun (v17 : Value) (w18 : World) =>
                        ∃ (i19 : Int),
                         ∃ (t20 : Bool),
                          v17 = Value.tuple #[Value.int IntKind.i64 i19, Value.bool t20] ∧
                           Keeps w10 w18 [] ∧
                            ∃ (I21 : Bool → Int → Int → World → Prop),
                             ∃ (I22 : Bool → Int → Int → World → Nat),
                              I21 true (0 : Int) (0 : Int) w18 ∧
                               ∀ (t23 : Bool) (i24 i25 : Int) (w26 : World),
                                I21 t23 i24 i25 w26 →
                                 bif decide (i25 < (↑n0 : Int)) then
                                  ((0 : Int) ≤ i25 ∧ i25 < (↑n0 : Int)) ∧
                                   SX.Ptr p0 fun (a27 : Addr) =>
                                    ∃ (i28 : Int),
                                     ∃ (i29 : Int),
                                      ∃ (i30 : Int),
                                       (w26.drew.cell? ((a27.add (i25.toNat * (3 : Nat))).add (0 : Nat)) = some (Value.int IntKind.u8 i28) ∧
                                         w26.drew.cell? ((a27.add (i25.toNat * (3 : Nat))).add (1 : Nat)) = some (Value.int IntKind.i64 i29) ∧
                                          w26.drew.cell? ((a27.add (i25.toNat * (3 : Nat))).add (2 : Nat)) = some (Value.int IntKind.i64 i30) ∧ True) ∧
                                        ((0 : Int) ≤ i25 ∧ i25 < (↑n0 : Int)) ∧
                                         SX.Ptr p0 fun (a31 : Addr) =>
                                          ∃ (i32 : Int),
                                           ∃ (i33 : Int),
                                            ∃ (i34 : Int),
                                             (w26.drew.cell? ((a31.add (i25.toNat * (3 : Nat))).add (0 : Nat)) = some (Value.int IntKind.u8 i32) ∧
                                               w26.drew.cell? ((a31.add (i25.toNat * (3 : Nat))).add (1 : Nat)) = some (Value.int IntKind.i64 i33) ∧
                                                w26.drew.cell? ((a31.add (i25.toNat * (3 : Nat))).add (2 : Nat)) = some (Value.int IntKind.i64 i34) ∧ True) ∧
                                              Rets Try.prog (45 : Nat) #[Value.agg #[Value.int IntKind.u8 i28, Value.int IntKind.i64 i29, Value.int IntKind.i64 i30]] w26.drew
                                               fun (v35 : Value) (w36 : World) =>
                                               ∃ (t37 : Bool),
                                                v35 = Value.bool t37 ∧
                                                 Keeps w26.drew w36 [] ∧
                                                  (w36.cell? ((a31.add (i25.toNat * (3 : Nat))).add (0 : Nat)) = some (Value.int IntKind.u8 i32) ∧
                                                    w36.cell? ((a31.add (i25.toNat * (3 : Nat))).add (1 : Nat)) = some (Value.int IntKind.i64 i33) ∧
                                                     w36.cell? ((a31.add (i25.toNat * (3 : Nat))).add (2 : Nat)) = some (Value.int IntKind.i64 i34) ∧ True) ∧
                                                   Rets Try.prog (46 : Nat)
                                                    #[Value.agg #[Value.int IntKind.u8 i32, Value.int IntKind.i64 i33, Value.int IntKind.i64 i34]] w36
                                                    fun (v38 : Value) (w39 : World) =>
                                                    ∃ (t40 : Bool),
                                                     v38 = Value.bool t40 ∧
                                                      Keeps w36 w39 [] ∧
                                                       bif !t37 == t40 then R (Ending.returned (Value.bool false)) w39
                                                       else
                                                        bif t23 then
                                                         ((0 : Int) ≤ i25 ∧ i25 < (↑n0 : Int)) ∧
                                                          SX.Ptr p0 fun (a41 : Addr) =>
                                                           ∃ (i42 : Int),
                                                            ∃ (i43 : Int),
                                                             ∃ (i44 : Int),
                                                              (w39.cell? ((a41.add (i25.toNat * (3 : Nat))).add (0 : Nat)) = some (Value.int IntKind.u8 i42) ∧
                                                                w39.cell? ((a41.add (i25.toNat * (3 : Nat))).add (1 : Nat)) =
                                                                  some (Value.int IntKind.i64 i43) ∧
                                                                 w39.cell? ((a41.add (i25.toNat * (3 : Nat))).add (2 : Nat)) =
                                                                   some (Value.int IntKind.i64 i44) ∧
                                                                  True) ∧
                                                               Rets Try.prog (46 : Nat)
                                                                #[Value.agg
                                                                  #[Value.int IntKind.u8 i42, Value.int IntKind.i64 i43, Value.int IntKind.i64 i44]]
                                                                w39 fun (v45 : Value) (w46 : World) =>
                                                                ∃ (t47 : Bool),
                                                                 v45 = Value.bool t47 ∧
                                                                  Keeps w39 w46 [] ∧
                                                                   bif t47 then
                                                                    ((0 : Int) ≤ i25 ∧ i25 < (↑n0 : Int)) ∧
                                                                     SX.Ptr p0 fun (a48 : Addr) =>
                                                                      ∃ (i49 : Int),
                                                                       w46.cell? ((a48.add (i25.toNat * (3 : Nat))).add (1 : Nat)) =
                                                                         some (Value.int IntKind.i64 i49) ∧
                                                                        bif i49 == (0 : Int) then
                                                                         Wr IntKind.i64 (i24 + (1 : Int)) fun (i50 : Int) =>
                                                                          bif t47 then
                                                                           ((0 : Int) ≤ i25 ∧ i25 < (↑n0 : Int)) ∧
                                                                            SX.Ptr p0 fun (a51 : Addr) =>
                                                                             ∃ (i52 : Int),
                                                                              w46.cell? ((a51.add (i25.toNat * (3 : Nat))).add (1 : Nat)) =
                                                                                some (Value.int IntKind.i64 i52) ∧
                                                                               Wr IntKind.i64 (i50 + i52) fun (i53 : Int) =>
                                                                                Wr IntKind.i64 (i25 + (1 : Int)) fun (i54 : Int) =>
                                                                                 I21 t47 i53 i54 w46 ∧
                                                                                  I22 t47 i53 i54 w46 < I22 t23 i24 i25 w26
                                                                          else
                                                                           Wr IntKind.i64 (i25 + (1 : Int)) fun (i55 : Int) =>
                                                                            I21 t47 i50 i55 w46 ∧ I22 t47 i50 i55 w46 < I22 t23 i24 i25 w26
                                                                        else
                                                                         bif t47 then
                                                                          ((0 : Int) ≤ i25 ∧ i25 < (↑n0 : Int)) ∧
                                                                           SX.Ptr p0 fun (a56 : Addr) =>
                                                                            ∃ (i57 : Int),
                                                                             w46.cell? ((a56.add (i25.toNat * (3 : Nat))).add (1 : Nat)) =
                                                                               some (Value.int IntKind.i64 i57) ∧
                                                                              Wr IntKind.i64 (i24 + i57) fun (i58 : Int) =>
                                                                               Wr IntKind.i64 (i25 + (1 : Int)) fun (i59 : Int) =>
                                                                                I21 t47 i58 i59 w46 ∧
                                                                                 I22 t47 i58 i59 w46 < I22 t23 i24 i25 w26
                                                                         else
                                                                          Wr IntKind.i64 (i25 + (1 : Int)) fun (i60 : Int) =>
                                                                           I21 t47 i24 i60 w46 ∧ I22 t47 i24 i60 w46 < I22 t23 i24 i25 w26
                                                                   else
                                                                    bif t47 then
                                                                     ((0 : Int) ≤ i25 ∧ i25 < (↑n0 : Int)) ∧
                                                                      SX.Ptr p0 fun (a61 : Addr) =>
                                                                       ∃ (i62 : Int),
                                                                        w46.cell? ((a61.add (i25.toNat * (3 : Nat))).add (1 : Nat)) =
                                                                          some (Value.int IntKind.i64 i62) ∧
                                                                         Wr IntKind.i64 (i24 + i62) fun (i63 : Int) =>
                                                                          Wr IntKind.i64 (i25 + (1 : Int)) fun (i64 : Int) =>
                                                                           I21 t47 i63 i64 w46 ∧ I22 t47 i63 i64 w46 < I22 t23 i24 i25 w26
                                                                    else
                                                                     Wr IntKind.i64 (i25 + (1 : Int)) fun (i65 : Int) =>
                                                                      I21 t47 i24 i65 w46 ∧ I22 t47 i24 i65 w46 < I22 t23 i24 i25 w26
                                                        else
                                                         Wr IntKind.i64 (i25 + (1 : Int)) fun (i66 : Int) =>
                                                          I21 false i24 i66 w39 ∧ I22 false i24 i66 w39 < I22 t23 i24 i25 w26
                                 else
                                  bif t20 == t23 then
                                   bif t20 then
                                    bif i19 == i24 then
                                     Rets Try.prog (29 : Nat) #[] w26 fun (v67 : Value) (w68 : World) =>
                                      ∃ (t69 : Bool), v67 = Value.bool t69 ∧ Keeps w26 w68 [] ∧ R (Ending.returned (Value.bool t69)) w68
                                    else
                                     bif !t20 then
                                      bif i19 == (0 : Int) then
                                       Rets Try.prog (29 : Nat) #[] w26 fun (v70 : Value) (w71 : World) =>
                                        ∃ (t72 : Bool), v70 = Value.bool t72 ∧ Keeps w26 w71 [] ∧ R (Ending.returned (Value.bool t72)) w71
                                      else R (Ending.returned (Value.bool false)) w26
                                     else R (Ending.returned (Value.bool false)) w26
                                   else
                                    bif !t20 then
                                     bif i19 == (0 : Int) then
                                      Rets Try.prog (29 : Nat) #[] w26 fun (v73 : Value) (w74 : World) =>
                                       ∃ (t75 : Bool), v73 = Value.bool t75 ∧ Keeps w26 w74 [] ∧ R (Ending.returned (Value.bool t75)) w74
                                     else R (Ending.returned (Value.bool false)) w26
                                    else R (Ending.returned (Value.bool false)) w26
                                  else R (Ending.returned (Value.bool false)) w26
theorem vcTry13 (p0 : Option Addr) (n0 c0 : Nat) (p1 : Int) (w : World) (R : Ending → World → Prop) : SX.vcFn Try.prog [(11, ⟨[(12, .bool), (11, .int .i64), (13, .int .i64)], [0, 10, 9], []⟩)] Try.f13 [.v (.slice p0 n0 c0), .v (.int .i64 p1)] [] w R = VCTry13 p0 n0 c0 p1 w R := by kernel_rfl
def VCTry14 (p0 : Option Addr) (n0 c0 : Nat) (p1 : Int) (w : World) (R : Ending → World → Prop) : Prop :=
bif decide ((↑n0 : Int) > (3000 : Int)) then Rets Try.prog (29 : Nat) #[] w fun (v0 : Value) (w1 : World) => ∃ (t2 : Bool), v0 = Value.bool t2 ∧ Keeps w w1 [] ∧ R (Ending.returned (Value.bool t2)) w1
else
 Rets Try.prog (31 : Nat) #[Value.slice p0 n0 c0, Value.int IntKind.i64 p1] w fun (v3 : Value) (w4 : World) =>
  ∃ (q5 : Option Addr),
   ∃ (n6 : Nat),
    ∃ (n7 : Nat),
     v3 = Value.slice q5 n6 n7 ∧
      Keeps w w4 [] ∧
       ∃ (I8 : Int → World → Prop),
        ∃ (I9 : Int → World → Nat),
         I8 (0 : Int) w4 ∧
          ∀ (i10 : Int) (w11 : World),
           I8 i10 w11 →
            bif decide (i10 < (↑n6 : Int)) then
             ((0 : Int) ≤ i10 ∧ i10 < (↑n6 : Int)) ∧
              SX.Ptr q5 fun (a12 : Addr) =>
               ∃ (i13 : Int),
                ∃ (i14 : Int),
                 ∃ (i15 : Int),
                  (w11.cell? ((a12.add (i10.toNat * (3 : Nat))).add (0 : Nat)) = some (Value.int IntKind.u8 i13) ∧
                    w11.cell? ((a12.add (i10.toNat * (3 : Nat))).add (1 : Nat)) = some (Value.int IntKind.i64 i14) ∧
                     w11.cell? ((a12.add (i10.toNat * (3 : Nat))).add (2 : Nat)) = some (Value.int IntKind.i64 i15) ∧ True) ∧
                   Rets Try.prog (45 : Nat) #[Value.agg #[Value.int IntKind.u8 i13, Value.int IntKind.i64 i14, Value.int IntKind.i64 i15]] w11 fun (v16 : Value) (w17 : World) =>
                    ∃ (t18 : Bool),
                     v16 = Value.bool t18 ∧
                      Keeps w11 w17 [] ∧ bif !t18 then R (Ending.returned (Value.bool false)) w17 else Wr IntKind.i64 (i10 + (1 : Int)) fun (i19 : Int) => I8 i19 w17 ∧ I9 i19 w17 < I9 i10 w11
            else
             Rets Try.prog (44 : Nat) #[Value.slice q5 n6 n7] w11 fun (v20 : Value) (w21 : World) =>
              ∃ (i22 : Int),
               ∃ (t23 : Bool),
                v20 = Value.tuple #[Value.int IntKind.i64 i22, Value.bool t23] ∧
                 Keeps w11 w21 [] ∧
                  Rets Try.prog (42 : Nat) #[Value.slice q5 n6 n7, Value.int IntKind.i64 (↑n0 : Int)] w21 fun (v24 : Value) (w25 : World) =>
                   ∃ (q26 : Option Addr),
                    ∃ (n27 : Nat),
                     ∃ (n28 : Nat),
                      ∃ (i29 : Int),
                       v24 = Value.tuple #[Value.slice q26 n27 n28, Value.int IntKind.i64 i29] ∧
                        Keeps w21 w25 [] ∧
                         Wr IntKind.i64 ((↑n0 : Int) - (1 : Int)) fun (i30 : Int) =>
                          Rets Try.prog (42 : Nat) #[Value.slice q5 n6 n7, Value.int IntKind.i64 i30] w25 fun (v31 : Value) (w32 : World) =>
                           ∃ (q33 : Option Addr),
                            ∃ (n34 : Nat),
                             ∃ (n35 : Nat),
                              ∃ (i36 : Int),
                               v31 = Value.tuple #[Value.slice q33 n34 n35, Value.int IntKind.i64 i36] ∧
                                Keeps w25 w32 [] ∧
                                 bif t23 then
                                  bif i22 == (↑n0 : Int) then
                                   bif i29 == (0 : Int) then
                                    ∃ (s37 : ByteArray),
                                     s37.size = n27 ∧
                                      BytesAt w32 q26 s37 ∧
                                       ∃ (s38 : ByteArray),
                                        s38.size = n0 ∧
                                         BytesAt w32 p0 s38 ∧
                                          bif s37.toList == s38.toList then
                                           bif (↑n0 : Int) == (0 : Int) then
                                            Rets Try.prog (29 : Nat) #[] w32 fun (v39 : Value) (w40 : World) =>
                                             ∃ (t41 : Bool), v39 = Value.bool t41 ∧ Keeps w32 w40 [] ∧ R (Ending.returned (Value.bool t41)) w40
                                           else
                                            bif i36 == (5 : Int) then
                                             Rets Try.prog (29 : Nat) #[] w32 fun (v42 : Value) (w43 : World) =>
                                              ∃ (t44 : Bool), v42 = Value.bool t44 ∧ Keeps w32 w43 [] ∧ R (Ending.returned (Value.bool t44)) w43
                                            else R (Ending.returned (Value.bool false)) w32
                                          else R (Ending.returned (Value.bool false)) w32
                                   else R (Ending.returned (Value.bool false)) w32
                                  else R (Ending.returned (Value.bool false)) w32
                                 else R (Ending.returned (Value.bool false)) w32
theorem vcTry14 (p0 : Option Addr) (n0 c0 : Nat) (p1 : Int) (w : World) (R : Ending → World → Prop) : SX.vcFn Try.prog [(5, ⟨[(6, .int .i64)], [5, 0], []⟩)] Try.f14 [.v (.slice p0 n0 c0), .v (.int .i64 p1)] [] w R = VCTry14 p0 n0 c0 p1 w R := by kernel_rfl
def VCTry42 (p0 : Option Addr) (n0 c0 : Nat) (p1 : Int) (w : World) (R : Ending → World → Prop) : Prop :=
∃ (I0 : Int → Option Addr → Nat → Nat → World → Prop),
 ∃ (I1 : Int → Option Addr → Nat → Nat → World → Nat),
  I0 (0 : Int) none (0 : Nat) (0 : Nat) w ∧
   ∀ (i2 : Int) (q3 : Option Addr) (n4 n5 : Nat) (w6 : World),
    I0 i2 q3 n4 n5 w6 →
     bif decide (i2 < (↑n0 : Int)) then
      ((0 : Int) ≤ i2 ∧ i2 < (↑n0 : Int)) ∧
       SX.Ptr p0 fun (a7 : Addr) =>
        ∃ (i8 : Int),
         ∃ (i9 : Int),
          ∃ (i10 : Int),
           (w6.cell? ((a7.add (i2.toNat * (3 : Nat))).add (0 : Nat)) = some (Value.int IntKind.u8 i8) ∧
             w6.cell? ((a7.add (i2.toNat * (3 : Nat))).add (1 : Nat)) = some (Value.int IntKind.i64 i9) ∧ w6.cell? ((a7.add (i2.toNat * (3 : Nat))).add (2 : Nat)) = some (Value.int IntKind.i64 i10) ∧ True) ∧
            (Known
              ((((w6.alloc (Obj.cells #[Value.int IntKind.u8 (0 : Int), Value.int IntKind.i64 (0 : Int), Value.int IntKind.i64 (0 : Int)] (49 : Nat))).setCell { block := w6.heap.size, off := (0 : Nat) }
                   (Value.int IntKind.u8 i8)).setCell
                 {block := w6.heap.size, off := (1 : Nat) } (Value.int IntKind.i64 i9)).setCell
               {block := w6.heap.size, off := (2 : Nat) } (Value.int IntKind.i64 i10))
              [(w6.heap.size, [((0 : Nat), Value.int IntKind.u8 i8), ((1 : Nat), Value.int IntKind.i64 i9), ((2 : Nat), Value.int IntKind.i64 i10)])] →
             Rets Try.prog (45 : Nat) #[Value.agg #[Value.int IntKind.u8 i8, Value.int IntKind.i64 i9, Value.int IntKind.i64 i10]]
              ((((w6.alloc (Obj.cells #[Value.int IntKind.u8 (0 : Int), Value.int IntKind.i64 (0 : Int), Value.int IntKind.i64 (0 : Int)] (49 : Nat))).setCell { block := w6.heap.size, off := (0 : Nat) }
                   (Value.int IntKind.u8 i8)).setCell
                 {block := w6.heap.size, off := (1 : Nat) } (Value.int IntKind.i64 i9)).setCell
               {block := w6.heap.size, off := (2 : Nat) } (Value.int IntKind.i64 i10))
              fun (v11 : Value) (w12 : World) =>
              ∃ (t13 : Bool),
               v11 = Value.bool t13 ∧
                Keeps
                  ((((w6.alloc (Obj.cells #[Value.int IntKind.u8 (0 : Int), Value.int IntKind.i64 (0 : Int), Value.int IntKind.i64 (0 : Int)] (49 : Nat))).setCell
                       {block := w6.heap.size, off := (0 : Nat) } (Value.int IntKind.u8 i8)).setCell
                     {block := w6.heap.size, off := (1 : Nat) } (Value.int IntKind.i64 i9)).setCell
                   {block := w6.heap.size, off := (2 : Nat) } (Value.int IntKind.i64 i10))
                  w12 [w6.heap.size] ∧
                 bif !t13 then
                  Known w12 [(w6.heap.size, [((0 : Nat), Value.int IntKind.u8 i8), ((1 : Nat), Value.int IntKind.i64 i9), ((2 : Nat), Value.int IntKind.i64 i10)])] →
                   R (Ending.returned (Value.tuple #[Value.slice none (0 : Nat) (0 : Nat), Value.int IntKind.i64 (3 : Int)])) w12
                 else
                  bif decide (i10 > (↑n4 : Int)) then
                   Known w12 [(w6.heap.size, [((0 : Nat), Value.int IntKind.u8 i8), ((1 : Nat), Value.int IntKind.i64 i9), ((2 : Nat), Value.int IntKind.i64 i10)])] →
                    R (Ending.returned (Value.tuple #[Value.slice none (0 : Nat) (0 : Nat), Value.int IntKind.i64 (3 : Int)])) w12
                  else
                   Wr IntKind.i64 (p1 - (↑n4 : Int)) fun (i14 : Int) =>
                    bif decide (maxI (1 : Int) i9 > i14) then
                     Known w12 [(w6.heap.size, [((0 : Nat), Value.int IntKind.u8 i8), ((1 : Nat), Value.int IntKind.i64 i9), ((2 : Nat), Value.int IntKind.i64 i10)])] →
                      R (Ending.returned (Value.tuple #[Value.slice none (0 : Nat) (0 : Nat), Value.int IntKind.i64 (5 : Int)])) w12
                    else
                     bif i9 == (0 : Int) then
                      Runs Try.prog
                       (Builtin.append_ #[(25 : Nat), (25 : Nat)] (25 : Nat) #[Value.slice q3 n4 n5, Value.slice (some { block := w12.heap.size, off := (0 : Nat) }) (1 : Nat) (1 : Nat)])
                       (w12.alloc (Obj.cells #[Value.int IntKind.u8 i8] (5 : Nat))) fun (v15 : Value) (w16 : World) =>
                       ∃ (q17 : Option Addr),
                        ∃ (n18 : Nat),
                         ∃ (n19 : Nat),
                          v15 = Value.slice q17 n18 n19 ∧
                           Keeps (w12.alloc (Obj.cells #[Value.int IntKind.u8 i8] (5 : Nat))) w16 [w6.heap.size] ∧
                            ∃ (I20 : Int → Option Addr → Nat → Nat → World → Prop),
                             ∃ (I21 : Int → Option Addr → Nat → Nat → World → Nat),
                              I20 (0 : Int) q17 n18 n19 w16 ∧
                               ∀ (i22 : Int) (q23 : Option Addr) (n24 n25 : Nat) (w26 : World),
                                I20 i22 q23 n24 n25 w26 →
                                 Known w26 [(w6.heap.size, [((0 : Nat), Value.int IntKind.u8 i8), ((1 : Nat), Value.int IntKind.i64 i9), ((2 : Nat), Value.int IntKind.i64 i10)])] →
                                  bif decide (i22 < i9) then
                                   Wr IntKind.i64 ((↑n24 : Int) - i10) fun (i27 : Int) =>
                                    ((0 : Int) ≤ i27 ∧ i27 < (↑n24 : Int)) ∧
                                     SX.Ptr q23 fun (a28 : Addr) =>
                                      ∃ (i29 : Int),
                                       w26.cell? (a28.add (i27.toNat * (1 : Nat))) = some (Value.int IntKind.u8 i29) ∧
                                        Runs Try.prog
                                         (Builtin.append_ #[(25 : Nat), (25 : Nat)] (25 : Nat)
                                          #[Value.slice q23 n24 n25, Value.slice (some { block := w26.heap.size, off := (0 : Nat) }) (1 : Nat) (1 : Nat)])
                                         (w26.alloc (Obj.cells #[Value.int IntKind.u8 i29] (5 : Nat))) fun (v30 : Value) (w31 : World) =>
                                         ∃ (q32 : Option Addr),
                                          ∃ (n33 : Nat),
                                           ∃ (n34 : Nat),
                                            v30 = Value.slice q32 n33 n34 ∧
                                             Keeps (w26.alloc (Obj.cells #[Value.int IntKind.u8 i29] (5 : Nat))) w31 [w6.heap.size] ∧
                                              Wr IntKind.i64 (i22 + (1 : Int)) fun (i35 : Int) =>
                                               SameVals [Value.int IntKind.u8 i8, Value.int IntKind.i64 i9, Value.int IntKind.i64 i10]
                                                 [Value.int IntKind.u8 i8, Value.int IntKind.i64 i9, Value.int IntKind.i64 i10] ∧
                                                I20 i35 q32 n33 n34 w31 ∧ I21 i35 q32 n33 n34 w31 < I21 i22 q23 n24 n25 w26
                                  else Wr IntKind.i64 (i2 + (1 : Int)) fun (i36 : Int) => I0 i36 q23 n24 n25 w26 ∧ I1 i36 q23 n24 n25 w26 < I1 i2 q3 n4 n5 w6
                     else
                      ∃ (I37 : Int → Option Addr → Nat → Nat → World → Prop),
                       ∃ (I38 : Int → Option Addr → Nat → Nat → World → Nat),
                        I37 (0 : Int) q3 n4 n5 w12 ∧
                         ∀ (i39 : Int) (q40 : Option Addr) (n41 n42 : Nat) (w43 : World),
                          I37 i39 q40 n41 n42 w43 →
                           Known w43 [(w6.heap.size, [((0 : Nat), Value.int IntKind.u8 i8), ((1 : Nat), Value.int IntKind.i64 i9), ((2 : Nat), Value.int IntKind.i64 i10)])] →
                            bif decide (i39 < i9) then
                             Wr IntKind.i64 ((↑n41 : Int) - i10) fun (i44 : Int) =>
                              ((0 : Int) ≤ i44 ∧ i44 < (↑n41 : Int)) ∧
                               SX.Ptr q40 fun (a45 : Addr) =>
                                ∃ (i46 : Int),
                                 w43.cell? (a45.add (i44.toNat * (1 : Nat))) = some (Value.int IntKind.u8 i46) ∧
                                  Runs Try.prog
                                   (Builtin.append_ #[(25 : Nat), (25 : Nat)] (25 : Nat)
                                    #[Value.slice q40 n41 n42, Value.slice (some { block := w43.heap.size, off := (0 : Nat) }) (1 : Nat) (1 : Nat)])
                                   (w43.alloc (Obj.cells #[Value.int IntKind.u8 i46] (5 : Nat))) fun (v47 : Value) (w48 : World) =>
                                   ∃ (q49 : Option Addr),
                                    ∃ (n50 : Nat),
                                     ∃ (n51 : Nat),
                                      v47 = Value.slice q49 n50 n51 ∧
                                       Keeps (w43.alloc (Obj.cells #[Value.int IntKind.u8 i46] (5 : Nat))) w48 [w6.heap.size] ∧
                                        Wr IntKind.i64 (i39 + (1 : Int)) fun (i52 : Int) =>
                                         SameVals [Value.int IntKind.u8 i8, Value.int IntKind.i64 i9, Value.int IntKind.i64 i10]
                                           [Value.int IntKind.u8 i8, Value.int IntKind.i64 i9, Value.int IntKind.i64 i10] ∧
                                          I37 i52 q49 n50 n51 w48 ∧ I38 i52 q49 n50 n51 w48 < I38 i39 q40 n41 n42 w43
                            else Wr IntKind.i64 (i2 + (1 : Int)) fun (i53 : Int) => I0 i53 q40 n41 n42 w43 ∧ I1 i53 q40 n41 n42 w43 < I1 i2 q3 n4 n5 w6)
     else R (Ending.returned (Value.tuple #[Value.slice q3 n4 n5, Value.int IntKind.i64 (0 : Int)])) w6
theorem vcTry42 (p0 : Option Addr) (n0 c0 : Nat) (p1 : Int) (w : World) (R : Ending → World → Prop) : SX.vcFn Try.prog [(12, ⟨[(47, .int .i64), (6, .slice)], [8, 12, 1, 10, 11, 46], []⟩), (3, ⟨[(12, .int .i64), (6, .slice)], [1, 10, 11], []⟩)] Try.f42 [.v (.slice p0 n0 c0), .v (.int .i64 p1)] [] w R = VCTry42 p0 n0 c0 p1 w R := by kernel_rfl
def VCTry43 (p0 : Option Addr) (n0 c0 : Nat) (p1 : Int) (w : World) (R : Ending → World → Prop) : Prop :=
∃ (I0 : Int → Option Addr → Nat → Nat → World → Prop),
 ∃ (I1 : Int → Option Addr → Nat → Nat → World → Nat),
  I0 (0 : Int) none (0 : Nat) (0 : Nat) w ∧
   ∀ (i2 : Int) (q3 : Option Addr) (n4 n5 : Nat) (w6 : World),
    I0 i2 q3 n4 n5 w6 →
     bif decide (i2 < (↑n0 : Int)) then
      ((0 : Int) ≤ i2 ∧ i2 < (↑n0 : Int)) ∧
       SX.Ptr p0 fun (a7 : Addr) =>
        ∃ (i8 : Int),
         ∃ (i9 : Int),
          ∃ (i10 : Int),
           (w6.cell? ((a7.add (i2.toNat * (3 : Nat))).add (0 : Nat)) = some (Value.int IntKind.u8 i8) ∧
             w6.cell? ((a7.add (i2.toNat * (3 : Nat))).add (1 : Nat)) = some (Value.int IntKind.i64 i9) ∧ w6.cell? ((a7.add (i2.toNat * (3 : Nat))).add (2 : Nat)) = some (Value.int IntKind.i64 i10) ∧ True) ∧
            (Known
              ((((w6.alloc (Obj.cells #[Value.int IntKind.u8 (0 : Int), Value.int IntKind.i64 (0 : Int), Value.int IntKind.i64 (0 : Int)] (49 : Nat))).setCell { block := w6.heap.size, off := (0 : Nat) }
                   (Value.int IntKind.u8 i8)).setCell
                 {block := w6.heap.size, off := (1 : Nat) } (Value.int IntKind.i64 i9)).setCell
               {block := w6.heap.size, off := (2 : Nat) } (Value.int IntKind.i64 i10))
              [(w6.heap.size, [((0 : Nat), Value.int IntKind.u8 i8), ((1 : Nat), Value.int IntKind.i64 i9), ((2 : Nat), Value.int IntKind.i64 i10)])] →
             Rets Try.prog (46 : Nat) #[Value.agg #[Value.int IntKind.u8 i8, Value.int IntKind.i64 i9, Value.int IntKind.i64 i10]]
              ((((w6.alloc (Obj.cells #[Value.int IntKind.u8 (0 : Int), Value.int IntKind.i64 (0 : Int), Value.int IntKind.i64 (0 : Int)] (49 : Nat))).setCell { block := w6.heap.size, off := (0 : Nat) }
                   (Value.int IntKind.u8 i8)).setCell
                 {block := w6.heap.size, off := (1 : Nat) } (Value.int IntKind.i64 i9)).setCell
               {block := w6.heap.size, off := (2 : Nat) } (Value.int IntKind.i64 i10))
              fun (v11 : Value) (w12 : World) =>
              ∃ (t13 : Bool),
               v11 = Value.bool t13 ∧
                Keeps
                  ((((w6.alloc (Obj.cells #[Value.int IntKind.u8 (0 : Int), Value.int IntKind.i64 (0 : Int), Value.int IntKind.i64 (0 : Int)] (49 : Nat))).setCell
                       {block := w6.heap.size, off := (0 : Nat) } (Value.int IntKind.u8 i8)).setCell
                     {block := w6.heap.size, off := (1 : Nat) } (Value.int IntKind.i64 i9)).setCell
                   {block := w6.heap.size, off := (2 : Nat) } (Value.int IntKind.i64 i10))
                  w12 [w6.heap.size] ∧
                 bif !t13 then
                  Known w12 [(w6.heap.size, [((0 : Nat), Value.int IntKind.u8 i8), ((1 : Nat), Value.int IntKind.i64 i9), ((2 : Nat), Value.int IntKind.i64 i10)])] →
                   R (Ending.returned (Value.tuple #[Value.slice none (0 : Nat) (0 : Nat), Value.int IntKind.i64 (3 : Int)])) w12
                 else
                  bif decide (i10 > (↑n4 : Int)) then
                   Known w12 [(w6.heap.size, [((0 : Nat), Value.int IntKind.u8 i8), ((1 : Nat), Value.int IntKind.i64 i9), ((2 : Nat), Value.int IntKind.i64 i10)])] →
                    R (Ending.returned (Value.tuple #[Value.slice none (0 : Nat) (0 : Nat), Value.int IntKind.i64 (3 : Int)])) w12
                  else
                   bif i9 == (0 : Int) then
                    bif decide ((↑n4 : Int) > p1) then
                     Known w12 [(w6.heap.size, [((0 : Nat), Value.int IntKind.u8 i8), ((1 : Nat), Value.int IntKind.i64 i9), ((2 : Nat), Value.int IntKind.i64 i10)])] →
                      R (Ending.returned (Value.tuple #[Value.slice none (0 : Nat) (0 : Nat), Value.int IntKind.i64 (5 : Int)])) w12
                    else
                     Wr IntKind.i64 (p1 - (↑n4 : Int)) fun (i14 : Int) =>
                      bif decide ((1 : Int) > i14) then
                       Known w12 [(w6.heap.size, [((0 : Nat), Value.int IntKind.u8 i8), ((1 : Nat), Value.int IntKind.i64 i9), ((2 : Nat), Value.int IntKind.i64 i10)])] →
                        R (Ending.returned (Value.tuple #[Value.slice none (0 : Nat) (0 : Nat), Value.int IntKind.i64 (5 : Int)])) w12
                      else
                       bif i9 == (0 : Int) then
                        Runs Try.prog
                         (Builtin.append_ #[(25 : Nat), (25 : Nat)] (25 : Nat) #[Value.slice q3 n4 n5, Value.slice (some { block := w12.heap.size, off := (0 : Nat) }) (1 : Nat) (1 : Nat)])
                         (w12.alloc (Obj.cells #[Value.int IntKind.u8 i8] (5 : Nat))) fun (v15 : Value) (w16 : World) =>
                         ∃ (q17 : Option Addr),
                          ∃ (n18 : Nat),
                           ∃ (n19 : Nat),
                            v15 = Value.slice q17 n18 n19 ∧
                             Keeps (w12.alloc (Obj.cells #[Value.int IntKind.u8 i8] (5 : Nat))) w16 [w6.heap.size] ∧
                              ∃ (I20 : Int → Option Addr → Nat → Nat → World → Prop),
                               ∃ (I21 : Int → Option Addr → Nat → Nat → World → Nat),
                                I20 (0 : Int) q17 n18 n19 w16 ∧
                                 ∀ (i22 : Int) (q23 : Option Addr) (n24 n25 : Nat) (w26 : World),
                                  I20 i22 q23 n24 n25 w26 →
                                   Known w26 [(w6.heap.size, [((0 : Nat), Value.int IntKind.u8 i8), ((1 : Nat), Value.int IntKind.i64 i9), ((2 : Nat), Value.int IntKind.i64 i10)])] →
                                    bif decide (i22 < i9) then
                                     Wr IntKind.i64 ((↑n24 : Int) - i10) fun (i27 : Int) =>
                                      ((0 : Int) ≤ i27 ∧ i27 < (↑n24 : Int)) ∧
                                       SX.Ptr q23 fun (a28 : Addr) =>
                                        ∃ (i29 : Int),
                                         w26.cell? (a28.add (i27.toNat * (1 : Nat))) = some (Value.int IntKind.u8 i29) ∧
                                          Runs Try.prog
                                           (Builtin.append_ #[(25 : Nat), (25 : Nat)] (25 : Nat)
                                            #[Value.slice q23 n24 n25, Value.slice (some { block := w26.heap.size, off := (0 : Nat) }) (1 : Nat) (1 : Nat)])
                                           (w26.alloc (Obj.cells #[Value.int IntKind.u8 i29] (5 : Nat))) fun (v30 : Value) (w31 : World) =>
                                           ∃ (q32 : Option Addr),
                                            ∃ (n33 : Nat),
                                             ∃ (n34 : Nat),
                                              v30 = Value.slice q32 n33 n34 ∧
                                               Keeps (w26.alloc (Obj.cells #[Value.int IntKind.u8 i29] (5 : Nat))) w31 [w6.heap.size] ∧
                                                Wr IntKind.i64 (i22 + (1 : Int)) fun (i35 : Int) =>
                                                 SameVals [Value.int IntKind.u8 i8, Value.int IntKind.i64 i9, Value.int IntKind.i64 i10]
                                                   [Value.int IntKind.u8 i8, Value.int IntKind.i64 i9, Value.int IntKind.i64 i10] ∧
                                                  I20 i35 q32 n33 n34 w31 ∧ I21 i35 q32 n33 n34 w31 < I21 i22 q23 n24 n25 w26
                                    else Wr IntKind.i64 (i2 + (1 : Int)) fun (i36 : Int) => I0 i36 q23 n24 n25 w26 ∧ I1 i36 q23 n24 n25 w26 < I1 i2 q3 n4 n5 w6
                       else
                        ∃ (I37 : Int → Option Addr → Nat → Nat → World → Prop),
                         ∃ (I38 : Int → Option Addr → Nat → Nat → World → Nat),
                          I37 (0 : Int) q3 n4 n5 w12 ∧
                           ∀ (i39 : Int) (q40 : Option Addr) (n41 n42 : Nat) (w43 : World),
                            I37 i39 q40 n41 n42 w43 →
                             Known w43 [(w6.heap.size, [((0 : Nat), Value.int IntKind.u8 i8), ((1 : Nat), Value.int IntKind.i64 i9), ((2 : Nat), Value.int IntKind.i64 i10)])] →
                              bif decide (i39 < i9) then
                               Wr IntKind.i64 ((↑n41 : Int) - i10) fun (i44 : Int) =>
                                ((0 : Int) ≤ i44 ∧ i44 < (↑n41 : Int)) ∧
                                 SX.Ptr q40 fun (a45 : Addr) =>
                                  ∃ (i46 : Int),
                                   w43.cell? (a45.add (i44.toNat * (1 : Nat))) = some (Value.int IntKind.u8 i46) ∧
                                    Runs Try.prog
                                     (Builtin.append_ #[(25 : Nat), (25 : Nat)] (25 : Nat)
                                      #[Value.slice q40 n41 n42, Value.slice (some { block := w43.heap.size, off := (0 : Nat) }) (1 : Nat) (1 : Nat)])
                                     (w43.alloc (Obj.cells #[Value.int IntKind.u8 i46] (5 : Nat))) fun (v47 : Value) (w48 : World) =>
                                     ∃ (q49 : Option Addr),
                                      ∃ (n50 : Nat),
                                       ∃ (n51 : Nat),
                                        v47 = Value.slice q49 n50 n51 ∧
                                         Keeps (w43.alloc (Obj.cells #[Value.int IntKind.u8 i46] (5 : Nat))) w48 [w6.heap.size] ∧
                                          Wr IntKind.i64 (i39 + (1 : Int)) fun (i52 : Int) =>
                                           SameVals [Value.int IntKind.u8 i8, Value.int IntKind.i64 i9, Value.int IntKind.i64 i10]
                                             [Value.int IntKind.u8 i8, Value.int IntKind.i64 i9, Value.int IntKind.i64 i10] ∧
                                            I37 i52 q49 n50 n51 w48 ∧ I38 i52 q49 n50 n51 w48 < I38 i39 q40 n41 n42 w43
                              else Wr IntKind.i64 (i2 + (1 : Int)) fun (i53 : Int) => I0 i53 q40 n41 n42 w43 ∧ I1 i53 q40 n41 n42 w43 < I1 i2 q3 n4 n5 w6
                   else
                    bif decide ((↑n4 : Int) > p1) then
                     Known w12 [(w6.heap.size, [((0 : Nat), Value.int IntKind.u8 i8), ((1 : Nat), Value.int IntKind.i64 i9), ((2 : Nat), Value.int IntKind.i64 i10)])] →
                      R (Ending.returned (Value.tuple #[Value.slice none (0 : Nat) (0 : Nat), Value.int IntKind.i64 (5 : Int)])) w12
                    else
                     Wr IntKind.i64 (p1 - (↑n4 : Int)) fun (i54 : Int) =>
                      bif decide (i9 > i54) then
                       Known w12 [(w6.heap.size, [((0 : Nat), Value.int IntKind.u8 i8), ((1 : Nat), Value.int IntKind.i64 i9), ((2 : Nat), Value.int IntKind.i64 i10)])] →
                        R (Ending.returned (Value.tuple #[Value.slice none (0 : Nat) (0 : Nat), Value.int IntKind.i64 (5 : Int)])) w12
                      else
                       bif i9 == (0 : Int) then
                        Runs Try.prog
                         (Builtin.append_ #[(25 : Nat), (25 : Nat)] (25 : Nat) #[Value.slice q3 n4 n5, Value.slice (some { block := w12.heap.size, off := (0 : Nat) }) (1 : Nat) (1 : Nat)])
                         (w12.alloc (Obj.cells #[Value.int IntKind.u8 i8] (5 : Nat))) fun (v55 : Value) (w56 : World) =>
                         ∃ (q57 : Option Addr),
                          ∃ (n58 : Nat),
                           ∃ (n59 : Nat),
                            v55 = Value.slice q57 n58 n59 ∧
                             Keeps (w12.alloc (Obj.cells #[Value.int IntKind.u8 i8] (5 : Nat))) w56 [w6.heap.size] ∧
                              ∃ (I60 : Int → Option Addr → Nat → Nat → World → Prop),
                               ∃ (I61 : Int → Option Addr → Nat → Nat → World → Nat),
                                I60 (0 : Int) q57 n58 n59 w56 ∧
                                 ∀ (i62 : Int) (q63 : Option Addr) (n64 n65 : Nat) (w66 : World),
                                  I60 i62 q63 n64 n65 w66 →
                                   Known w66 [(w6.heap.size, [((0 : Nat), Value.int IntKind.u8 i8), ((1 : Nat), Value.int IntKind.i64 i9), ((2 : Nat), Value.int IntKind.i64 i10)])] →
                                    bif decide (i62 < i9) then
                                     Wr IntKind.i64 ((↑n64 : Int) - i10) fun (i67 : Int) =>
                                      ((0 : Int) ≤ i67 ∧ i67 < (↑n64 : Int)) ∧
                                       SX.Ptr q63 fun (a68 : Addr) =>
                                        ∃ (i69 : Int),
                                         w66.cell? (a68.add (i67.toNat * (1 : Nat))) = some (Value.int IntKind.u8 i69) ∧
                                          Runs Try.prog
                                           (Builtin.append_ #[(25 : Nat), (25 : Nat)] (25 : Nat)
                                            #[Value.slice q63 n64 n65, Value.slice (some { block := w66.heap.size, off := (0 : Nat) }) (1 : Nat) (1 : Nat)])
                                           (w66.alloc (Obj.cells #[Value.int IntKind.u8 i69] (5 : Nat))) fun (v70 : Value) (w71 : World) =>
                                           ∃ (q72 : Option Addr),
                                            ∃ (n73 : Nat),
                                             ∃ (n74 : Nat),
                                              v70 = Value.slice q72 n73 n74 ∧
                                               Keeps (w66.alloc (Obj.cells #[Value.int IntKind.u8 i69] (5 : Nat))) w71 [w6.heap.size] ∧
                                                Wr IntKind.i64 (i62 + (1 : Int)) fun (i75 : Int) =>
                                                 SameVals [Value.int IntKind.u8 i8, Value.int IntKind.i64 i9, Value.int IntKind.i64 i10]
                                                   [Value.int IntKind.u8 i8, Value.int IntKind.i64 i9, Value.int IntKind.i64 i10] ∧
                                                  I60 i75 q72 n73 n74 w71 ∧ I61 i75 q72 n73 n74 w71 < I61 i62 q63 n64 n65 w66
                                    else Wr IntKind.i64 (i2 + (1 : Int)) fun (i76 : Int) => I0 i76 q63 n64 n65 w66 ∧ I1 i76 q63 n64 n65 w66 < I1 i2 q3 n4 n5 w6
                       else
                        ∃ (I77 : Int → Option Addr → Nat → Nat → World → Prop),
                         ∃ (I78 : Int → Option Addr → Nat → Nat → World → Nat),
                          I77 (0 : Int) q3 n4 n5 w12 ∧
                           ∀ (i79 : Int) (q80 : Option Addr) (n81 n82 : Nat) (w83 : World),
                            I77 i79 q80 n81 n82 w83 →
                             Known w83 [(w6.heap.size, [((0 : Nat), Value.int IntKind.u8 i8), ((1 : Nat), Value.int IntKind.i64 i9), ((2 : Nat), Value.int IntKind.i64 i10)])] →
                              bif decide (i79 < i9) then
                               Wr IntKind.i64 ((↑n81 : Int) - i10) fun (i84 : Int) =>
                                ((0 : Int) ≤ i84 ∧ i84 < (↑n81 : Int)) ∧
                                 SX.Ptr q80 fun (a85 : Addr) =>
                                  ∃ (i86 : Int),
                                   w83.cell? (a85.add (i84.toNat * (1 : Nat))) = some (Value.int IntKind.u8 i86) ∧
                                    Runs Try.prog
                                     (Builtin.append_ #[(25 : Nat), (25 : Nat)] (25 : Nat)
                                      #[Value.slice q80 n81 n82, Value.slice (some { block := w83.heap.size, off := (0 : Nat) }) (1 : Nat) (1 : Nat)])
                                     (w83.alloc (Obj.cells #[Value.int IntKind.u8 i86] (5 : Nat))) fun (v87 : Value) (w88 : World) =>
                                     ∃ (q89 : Option Addr),
                                      ∃ (n90 : Nat),
                                       ∃ (n91 : Nat),
                                        v87 = Value.slice q89 n90 n91 ∧
                                         Keeps (w83.alloc (Obj.cells #[Value.int IntKind.u8 i86] (5 : Nat))) w88 [w6.heap.size] ∧
                                          Wr IntKind.i64 (i79 + (1 : Int)) fun (i92 : Int) =>
                                           SameVals [Value.int IntKind.u8 i8, Value.int IntKind.i64 i9, Value.int IntKind.i64 i10]
                                             [Value.int IntKind.u8 i8, Value.int IntKind.i64 i9, Value.int IntKind.i64 i10] ∧
                                            I77 i92 q89 n90 n91 w88 ∧ I78 i92 q89 n90 n91 w88 < I78 i79 q80 n81 n82 w83
                              else Wr IntKind.i64 (i2 + (1 : Int)) fun (i93 : Int) => I0 i93 q80 n81 n82 w83 ∧ I1 i93 q80 n81 n82 w83 < I1 i2 q3 n4 n5 w6)
     else R (Ending.returned (Value.tuple #[Value.slice q3 n4 n5, Value.int IntKind.i64 (0 : Int)])) w6
theorem vcTry43 (p0 : Option Addr) (n0 c0 : Nat) (p1 : Int) (w : World) (R : Ending → World → Prop) : SX.vcFn Try.prog [(16, ⟨[(10, .int .i64), (6, .slice)], [8, 7, 1, 0], []⟩), (3, ⟨[(7, .int .i64), (6, .slice)], [1, 0], []⟩)] Try.f43 [.v (.slice p0 n0 c0), .v (.int .i64 p1)] [] w R = VCTry43 p0 n0 c0 p1 w R := by kernel_rfl
def VCTry44 (p0 : Option Addr) (n0 c0 : Nat) (w : World) (R : Ending → World → Prop) : Prop :=
∃ (I0 : Int → Int → World → Prop),
 ∃ (I1 : Int → Int → World → Nat),
  I0 (0 : Int) (0 : Int) w ∧
   ∀ (i2 i3 : Int) (w4 : World),
    I0 i2 i3 w4 →
     bif decide (i2 < (↑n0 : Int)) then
      ((0 : Int) ≤ i2 ∧ i2 < (↑n0 : Int)) ∧
       SX.Ptr p0 fun (a5 : Addr) =>
        ∃ (i6 : Int),
         ∃ (i7 : Int),
          ∃ (i8 : Int),
           (w4.cell? ((a5.add (i2.toNat * (3 : Nat))).add (0 : Nat)) = some (Value.int IntKind.u8 i6) ∧
             w4.cell? ((a5.add (i2.toNat * (3 : Nat))).add (1 : Nat)) = some (Value.int IntKind.i64 i7) ∧ w4.cell? ((a5.add (i2.toNat * (3 : Nat))).add (2 : Nat)) = some (Value.int IntKind.i64 i8) ∧ True) ∧
            Wr IntKind.i64 (i3 + maxI (1 : Int) i7) fun (i9 : Int) =>
             Known
               ((((w4.alloc (Obj.cells #[Value.int IntKind.u8 (0 : Int), Value.int IntKind.i64 (0 : Int), Value.int IntKind.i64 (0 : Int)] (49 : Nat))).setCell { block := w4.heap.size, off := (0 : Nat) }
                    (Value.int IntKind.u8 i6)).setCell
                  {block := w4.heap.size, off := (1 : Nat) } (Value.int IntKind.i64 i7)).setCell
                {block := w4.heap.size, off := (2 : Nat) } (Value.int IntKind.i64 i8))
               [(w4.heap.size, [((0 : Nat), Value.int IntKind.u8 i6), ((1 : Nat), Value.int IntKind.i64 i7), ((2 : Nat), Value.int IntKind.i64 i8)])] →
              Rets Try.prog (45 : Nat) #[Value.agg #[Value.int IntKind.u8 i6, Value.int IntKind.i64 i7, Value.int IntKind.i64 i8]]
               ((((w4.alloc (Obj.cells #[Value.int IntKind.u8 (0 : Int), Value.int IntKind.i64 (0 : Int), Value.int IntKind.i64 (0 : Int)] (49 : Nat))).setCell { block := w4.heap.size, off := (0 : Nat) }
                    (Value.int IntKind.u8 i6)).setCell
                  {block := w4.heap.size, off := (1 : Nat) } (Value.int IntKind.i64 i7)).setCell
                {block := w4.heap.size, off := (2 : Nat) } (Value.int IntKind.i64 i8))
               fun (v10 : Value) (w11 : World) =>
               ∃ (t12 : Bool),
                v10 = Value.bool t12 ∧
                 Keeps
                   ((((w4.alloc (Obj.cells #[Value.int IntKind.u8 (0 : Int), Value.int IntKind.i64 (0 : Int), Value.int IntKind.i64 (0 : Int)] (49 : Nat))).setCell
                       {block := w4.heap.size, off := (0 : Nat) } (Value.int IntKind.u8 i6)).setCell
                      {block := w4.heap.size, off := (1 : Nat) } (Value.int IntKind.i64 i7)).setCell
                    {block := w4.heap.size, off := (2 : Nat) } (Value.int IntKind.i64 i8))
                   w11 [w4.heap.size] ∧
                  bif !t12 then
                   Known w11 [(w4.heap.size, [((0 : Nat), Value.int IntKind.u8 i6), ((1 : Nat), Value.int IntKind.i64 i7), ((2 : Nat), Value.int IntKind.i64 i8)])] →
                    R (Ending.returned (Value.tuple #[Value.int IntKind.i64 (0 : Int), Value.bool false])) w11
                  else
                   bif decide (i9 > (1048576 : Int)) then
                    Known w11 [(w4.heap.size, [((0 : Nat), Value.int IntKind.u8 i6), ((1 : Nat), Value.int IntKind.i64 i7), ((2 : Nat), Value.int IntKind.i64 i8)])] →
                     R (Ending.returned (Value.tuple #[Value.int IntKind.i64 (0 : Int), Value.bool false])) w11
                   else Wr IntKind.i64 (i2 + (1 : Int)) fun (i13 : Int) => I0 i13 i9 w11 ∧ I1 i13 i9 w11 < I1 i2 i3 w4
     else R (Ending.returned (Value.tuple #[Value.int IntKind.i64 i3, Value.bool true])) w4
theorem vcTry44 (p0 : Option Addr) (n0 c0 : Nat) (w : World) (R : Ending → World → Prop) : SX.vcFn Try.prog [(3, ⟨[(9, .int .i64), (4, .int .i64)], [7, 8], []⟩)] Try.f44 [.v (.slice p0 n0 c0)] [] w R = VCTry44 p0 n0 c0 w R := by kernel_rfl
def VCTry45 (x y z : Int) (w : World) (R : Ending → World → Prop) : Prop :=
bif y == (0 : Int) then
 Known (w.alloc (Obj.cells #[Value.int IntKind.u8 x, Value.int IntKind.i64 y, Value.int IntKind.i64 z] (49 : Nat)))
   [(w.heap.size, [((0 : Nat), Value.int IntKind.u8 x), ((1 : Nat), Value.int IntKind.i64 y), ((2 : Nat), Value.int IntKind.i64 z)])] →
  R (Ending.returned (Value.bool (z == (0 : Int)))) (w.alloc (Obj.cells #[Value.int IntKind.u8 x, Value.int IntKind.i64 y, Value.int IntKind.i64 z] (49 : Nat)))
else
 bif x == (0 : Int) then
  Known (w.alloc (Obj.cells #[Value.int IntKind.u8 x, Value.int IntKind.i64 y, Value.int IntKind.i64 z] (49 : Nat)))
    [(w.heap.size, [((0 : Nat), Value.int IntKind.u8 x), ((1 : Nat), Value.int IntKind.i64 y), ((2 : Nat), Value.int IntKind.i64 z)])] →
   Rets Try.prog (58 : Nat) #[Value.int IntKind.i64 y, Value.int IntKind.i64 (3 : Int), Value.int IntKind.i64 (258 : Int)]
    (w.alloc (Obj.cells #[Value.int IntKind.u8 x, Value.int IntKind.i64 y, Value.int IntKind.i64 z] (49 : Nat))) fun (v0 : Value) (w1 : World) =>
    ∃ (t2 : Bool),
     v0 = Value.bool t2 ∧
      Keeps (w.alloc (Obj.cells #[Value.int IntKind.u8 x, Value.int IntKind.i64 y, Value.int IntKind.i64 z] (49 : Nat))) w1 [w.heap.size] ∧
       bif t2 then
        Known w1 [(w.heap.size, [((0 : Nat), Value.int IntKind.u8 x), ((1 : Nat), Value.int IntKind.i64 y), ((2 : Nat), Value.int IntKind.i64 z)])] →
         Rets Try.prog (58 : Nat) #[Value.int IntKind.i64 z, Value.int IntKind.i64 (1 : Int), Value.int IntKind.i64 (32768 : Int)] w1 fun (v3 : Value) (w4 : World) =>
          ∃ (t5 : Bool),
           v3 = Value.bool t5 ∧
            Keeps w1 w4 [w.heap.size] ∧
             (Known w4 [(w.heap.size, [((0 : Nat), Value.int IntKind.u8 x), ((1 : Nat), Value.int IntKind.i64 y), ((2 : Nat), Value.int IntKind.i64 z)])] → R (Ending.returned (Value.bool t5)) w4)
       else Known w1 [(w.heap.size, [((0 : Nat), Value.int IntKind.u8 x), ((1 : Nat), Value.int IntKind.i64 y), ((2 : Nat), Value.int IntKind.i64 z)])] → R (Ending.returned (Value.bool false)) w1
 else
  Known (w.alloc (Obj.cells #[Value.int IntKind.u8 x, Value.int IntKind.i64 y, Value.int IntKind.i64 z] (49 : Nat)))
    [(w.heap.size, [((0 : Nat), Value.int IntKind.u8 x), ((1 : Nat), Value.int IntKind.i64 y), ((2 : Nat), Value.int IntKind.i64 z)])] →
   R (Ending.returned (Value.bool false)) (w.alloc (Obj.cells #[Value.int IntKind.u8 x, Value.int IntKind.i64 y, Value.int IntKind.i64 z] (49 : Nat)))
theorem vcTry45 (x y z : Int) (w : World) (R : Ending → World → Prop) : SX.vcFn Try.prog [] Try.f45 [.v (.agg #[.int .u8 x, .int .i64 y, .int .i64 z])] [] w R = VCTry45 x y z w R := by kernel_rfl
def VCTry46 (x y z : Int) (w : World) (R : Ending → World → Prop) : Prop :=
bif y == (0 : Int) then
 bif z == (0 : Int) then
  Known (w.alloc (Obj.cells #[Value.int IntKind.u8 x, Value.int IntKind.i64 y, Value.int IntKind.i64 z] (49 : Nat)))
    [(w.heap.size, [((0 : Nat), Value.int IntKind.u8 x), ((1 : Nat), Value.int IntKind.i64 y), ((2 : Nat), Value.int IntKind.i64 z)])] →
   R (Ending.returned (Value.bool true)) (w.alloc (Obj.cells #[Value.int IntKind.u8 x, Value.int IntKind.i64 y, Value.int IntKind.i64 z] (49 : Nat)))
 else
  bif x == (0 : Int) then
   bif decide (y > (2 : Int)) then
    bif decide (y < (259 : Int)) then
     bif decide (z > (0 : Int)) then
      Known (w.alloc (Obj.cells #[Value.int IntKind.u8 x, Value.int IntKind.i64 y, Value.int IntKind.i64 z] (49 : Nat)))
        [(w.heap.size, [((0 : Nat), Value.int IntKind.u8 x), ((1 : Nat), Value.int IntKind.i64 y), ((2 : Nat), Value.int IntKind.i64 z)])] →
       R (Ending.returned (Value.bool (decide (z < (32769 : Int))))) (w.alloc (Obj.cells #[Value.int IntKind.u8 x, Value.int IntKind.i64 y, Value.int IntKind.i64 z] (49 : Nat)))
     else
      Known (w.alloc (Obj.cells #[Value.int IntKind.u8 x, Value.int IntKind.i64 y, Value.int IntKind.i64 z] (49 : Nat)))
        [(w.heap.size, [((0 : Nat), Value.int IntKind.u8 x), ((1 : Nat), Value.int IntKind.i64 y), ((2 : Nat), Value.int IntKind.i64 z)])] →
       R (Ending.returned (Value.bool false)) (w.alloc (Obj.cells #[Value.int IntKind.u8 x, Value.int IntKind.i64 y, Value.int IntKind.i64 z] (49 : Nat)))
    else
     Known (w.alloc (Obj.cells #[Value.int IntKind.u8 x, Value.int IntKind.i64 y, Value.int IntKind.i64 z] (49 : Nat)))
       [(w.heap.size, [((0 : Nat), Value.int IntKind.u8 x), ((1 : Nat), Value.int IntKind.i64 y), ((2 : Nat), Value.int IntKind.i64 z)])] →
      R (Ending.returned (Value.bool false)) (w.alloc (Obj.cells #[Value.int IntKind.u8 x, Value.int IntKind.i64 y, Value.int IntKind.i64 z] (49 : Nat)))
   else
    Known (w.alloc (Obj.cells #[Value.int IntKind.u8 x, Value.int IntKind.i64 y, Value.int IntKind.i64 z] (49 : Nat)))
      [(w.heap.size, [((0 : Nat), Value.int IntKind.u8 x), ((1 : Nat), Value.int IntKind.i64 y), ((2 : Nat), Value.int IntKind.i64 z)])] →
     R (Ending.returned (Value.bool false)) (w.alloc (Obj.cells #[Value.int IntKind.u8 x, Value.int IntKind.i64 y, Value.int IntKind.i64 z] (49 : Nat)))
  else
   Known (w.alloc (Obj.cells #[Value.int IntKind.u8 x, Value.int IntKind.i64 y, Value.int IntKind.i64 z] (49 : Nat)))
     [(w.heap.size, [((0 : Nat), Value.int IntKind.u8 x), ((1 : Nat), Value.int IntKind.i64 y), ((2 : Nat), Value.int IntKind.i64 z)])] →
    R (Ending.returned (Value.bool false)) (w.alloc (Obj.cells #[Value.int IntKind.u8 x, Value.int IntKind.i64 y, Value.int IntKind.i64 z] (49 : Nat)))
else
 bif x == (0 : Int) then
  bif decide (y > (2 : Int)) then
   bif decide (y < (259 : Int)) then
    bif decide (z > (0 : Int)) then
     Known (w.alloc (Obj.cells #[Value.int IntKind.u8 x, Value.int IntKind.i64 y, Value.int IntKind.i64 z] (49 : Nat)))
       [(w.heap.size, [((0 : Nat), Value.int IntKind.u8 x), ((1 : Nat), Value.int IntKind.i64 y), ((2 : Nat), Value.int IntKind.i64 z)])] →
      R (Ending.returned (Value.bool (decide (z < (32769 : Int))))) (w.alloc (Obj.cells #[Value.int IntKind.u8 x, Value.int IntKind.i64 y, Value.int IntKind.i64 z] (49 : Nat)))
    else
     Known (w.alloc (Obj.cells #[Value.int IntKind.u8 x, Value.int IntKind.i64 y, Value.int IntKind.i64 z] (49 : Nat)))
       [(w.heap.size, [((0 : Nat), Value.int IntKind.u8 x), ((1 : Nat), Value.int IntKind.i64 y), ((2 : Nat), Value.int IntKind.i64 z)])] →
      R (Ending.returned (Value.bool false)) (w.alloc (Obj.cells #[Value.int IntKind.u8 x, Value.int IntKind.i64 y, Value.int IntKind.i64 z] (49 : Nat)))
   else
    Known (w.alloc (Obj.cells #[Value.int IntKind.u8 x, Value.int IntKind.i64 y, Value.int IntKind.i64 z] (49 : Nat)))
      [(w.heap.size, [((0 : Nat), Value.int IntKind.u8 x), ((1 : Nat), Value.int IntKind.i64 y), ((2 : Nat), Value.int IntKind.i64 z)])] →
     R (Ending.returned (Value.bool false)) (w.alloc (Obj.cells #[Value.int IntKind.u8 x, Value.int IntKind.i64 y, Value.int IntKind.i64 z] (49 : Nat)))
  else
   Known (w.alloc (Obj.cells #[Value.int IntKind.u8 x, Value.int IntKind.i64 y, Value.int IntKind.i64 z] (49 : Nat)))
     [(w.heap.size, [((0 : Nat), Value.int IntKind.u8 x), ((1 : Nat), Value.int IntKind.i64 y), ((2 : Nat), Value.int IntKind.i64 z)])] →
    R (Ending.returned (Value.bool false)) (w.alloc (Obj.cells #[Value.int IntKind.u8 x, Value.int IntKind.i64 y, Value.int IntKind.i64 z] (49 : Nat)))
 else
  Known (w.alloc (Obj.cells #[Value.int IntKind.u8 x, Value.int IntKind.i64 y, Value.int IntKind.i64 z] (49 : Nat)))
    [(w.heap.size, [((0 : Nat), Value.int IntKind.u8 x), ((1 : Nat), Value.int IntKind.i64 y), ((2 : Nat), Value.int IntKind.i64 z)])] →
   R (Ending.returned (Value.bool false)) (w.alloc (Obj.cells #[Value.int IntKind.u8 x, Value.int IntKind.i64 y, Value.int IntKind.i64 z] (49 : Nat)))
theorem vcTry46 (x y z : Int) (w : World) (R : Ending → World → Prop) : SX.vcFn Try.prog [] Try.f46 [.v (.agg #[.int .u8 x, .int .i64 y, .int .i64 z])] [] w R = VCTry46 x y z w R := by kernel_rfl
def VCTry58 (p0 : Int) (p1 : Int) (p2 : Int) (w : World) (R : Ending → World → Prop) : Prop :=
bif decide (p0 ≥ p1) then R (Ending.returned (Value.bool (decide (p0 ≤ p2)))) w else R (Ending.returned (Value.bool false)) w
theorem vcTry58 (p0 : Int) (p1 : Int) (p2 : Int) (w : World) (R : Ending → World → Prop) : SX.vcFn Try.prog [] Try.f58 [.v (.int .i64 p0), .v (.int .i64 p1), .v (.int .i64 p2)] [] w R = VCTry58 p0 p1 p2 w R := by kernel_rfl
end Go.Proofs.Ytodgnegbaigdbaa
