/- The conditions of functions, as the executor computes them: each is equal to what 'vcFn' says. -/
import Derived.Test.YtbpknjldphckgaaDoorSxLib
import Derived.Test.YtbpknjldphckgaaDoorProg
namespace Go.Proofs.YtbpknjldphckgaaDoor
open Go Go.SX Go.Proofs
set_option maxRecDepth 100000
set_option linter.unusedVariables false
def VCTryd103 (p0 : Int) (w : World) (R : Ending → World → Prop) : Prop :=
bif andI IntKind.u32 p0 (1 : Int) == (1 : Int) then (0 : Int) ≤ (1 : Int) ∧ R (Ending.returned (Value.int IntKind.u32 (xorI IntKind.u32 (shrI IntKind.u32 p0 (1 : Int)) (3988292384 : Int)))) w
else (0 : Int) ≤ (1 : Int) ∧ R (Ending.returned (Value.int IntKind.u32 (shrI IntKind.u32 p0 (1 : Int)))) w
theorem vcTryd103 (p0 : Int) (w : World) (R : Ending → World → Prop) : SX.vcFn Tryd.prog [] Tryd.f103 [.v (.int .u32 p0)] [] w R = VCTryd103 p0 w R := by kernel_rfl
def VCTryd26 (w : World) (R : Ending → World → Prop) : Prop :=
∃ (I0 : Int → World → Prop),
 ∃ (I1 : Int → World → Nat),
  I0 (0 : Int) ((w.alloc (Obj.cells (zeroA Tryd.prog (25 : Nat)) (25 : Nat))).alloc (Obj.cells (zeroA Tryd.prog (25 : Nat)) (25 : Nat))) ∧
   ∀ (i2 : Int) (w3 : World),
    I0 i2 w3 →
     bif decide (i2 < (256 : Int)) then
      Wr IntKind.u32 i2 fun (i4 : Int) =>
       ∃ (I5 : Int → Int → World → Prop),
        ∃ (I6 : Int → Int → World → Nat),
         I5 (0 : Int) i4 w3 ∧
          ∀ (i7 i8 : Int) (w9 : World),
           I5 i7 i8 w9 →
            bif decide (i7 < (8 : Int)) then
             Rets Tryd.prog (103 : Nat) #[Value.int IntKind.u32 i8] w9 fun (v10 : Value) (w11 : World) =>
              ∃ (i12 : Int), v10 = Value.int IntKind.u32 i12 ∧ Keeps w9 w11 [] ∧ Wr IntKind.i64 (i7 + (1 : Int)) fun (i13 : Int) => I5 i13 i12 w11 ∧ I6 i13 i12 w11 < I6 i7 i8 w9
            else
             ((0 : Int) ≤ i2 ∧ i2 < (↑(256 : Nat) : Int)) ∧
              (∃ (v14 : Value), w9.cell? ((({ block := (w.alloc (Obj.cells (zeroA Tryd.prog (25 : Nat)) (25 : Nat))).heap.size, off := (0 : Nat) } : Addr).add (i2.toNat * (1 : Nat))).add (0 : Nat)) = some v14) ∧
               w9.frozen? ((({ block := (w.alloc (Obj.cells (zeroA Tryd.prog (25 : Nat)) (25 : Nat))).heap.size, off := (0 : Nat) } : Addr).add (i2.toNat * (1 : Nat))).add (0 : Nat)) = false ∧
                Wr IntKind.i64 (i2 + (1 : Int)) fun (i15 : Int) =>
                 I0 i15
                   (w9.setCell ((({ block := (w.alloc (Obj.cells (zeroA Tryd.prog (25 : Nat)) (25 : Nat))).heap.size, off := (0 : Nat) } : Addr).add (i2.toNat * (1 : Nat))).add (0 : Nat))
                    (Value.int IntKind.u32 i8)) ∧
                  I1 i15
                    (w9.setCell ((({ block := (w.alloc (Obj.cells (zeroA Tryd.prog (25 : Nat)) (25 : Nat))).heap.size, off := (0 : Nat) } : Addr).add (i2.toNat * (1 : Nat))).add (0 : Nat))
                     (Value.int IntKind.u32 i8)) <
                   I1 i2 w3
     else
      ∃ (x16 : List Value),
       CellsOf w3 { block := (w.alloc (Obj.cells (zeroA Tryd.prog (25 : Nat)) (25 : Nat))).heap.size, off := (0 : Nat) } (256 : Nat) x16 ∧
        Runs Tryd.prog (Instr.storeAt (25 : Nat) (Value.pointer (some { block := w.heap.size, off := (0 : Nat) })) (Value.agg x16.toArray)) w3 fun (x17 : Unit) (w18 : World) =>
         Keeps w3 w18 [] ∧ ∃ (x19 : List Value), CellsOf w18 { block := w.heap.size, off := (0 : Nat) } (256 : Nat) x19 ∧ R (Ending.returned (Value.agg x19.toArray)) w18
theorem vcTryd26 (w : World) (R : Ending → World → Prop) : SX.vcFn Tryd.prog [(7, ⟨[(9, .int .i64), (3, .int .u32)], [2, 4, 1, 0], []⟩), (3, ⟨[(4, .int .i64)], [1, 0], []⟩)] Tryd.f26 [] [] w R = VCTryd26  w R := by kernel_rfl
def VCTryd158 (p0 : Option Addr) (p1 : Int) (p2 : Option Addr) (n2 c2 : Nat) (w : World) (R : Ending → World → Prop) : Prop :=
bif p0.isNone then R (Ending.returned (Value.int IntKind.u32 (0 : Int))) w
else
 ∃ (I0 : Int → Int → World → Prop),
  ∃ (I1 : Int → Int → World → Nat),
   I0 (0 : Int) p1 w ∧
    ∀ (i2 i3 : Int) (w4 : World),
     I0 i2 i3 w4 →
      bif decide (i2 < (↑n2 : Int)) then
       ((0 : Int) ≤ i2 ∧ i2 < (↑n2 : Int)) ∧
        SX.Ptr p2 fun (a5 : Addr) =>
         ∃ (i6 : Int),
          w4.cell? (a5.add (i2.toNat * (1 : Nat))) = some (Value.int IntKind.u8 i6) ∧
           Wr IntKind.u8 i3 fun (i7 : Int) =>
            SX.Ptr p0 fun (a8 : Addr) =>
             ((0 : Int) ≤ xorI IntKind.u8 i7 i6 ∧ xorI IntKind.u8 i7 i6 < (↑(256 : Nat) : Int)) ∧
              ∃ (i9 : Int),
               w4.cell? (a8.add ((xorI IntKind.u8 i7 i6).toNat * (1 : Nat))) = some (Value.int IntKind.u32 i9) ∧
                (0 : Int) ≤ (8 : Int) ∧
                 Wr IntKind.i64 (i2 + (1 : Int)) fun (i10 : Int) =>
                  I0 i10 (xorI IntKind.u32 i9 (shrI IntKind.u32 i3 (8 : Int))) w4 ∧ I1 i10 (xorI IntKind.u32 i9 (shrI IntKind.u32 i3 (8 : Int))) w4 < I1 i2 i3 w4
      else R (Ending.returned (Value.int IntKind.u32 i3)) w4
theorem vcTryd158 (p0 : Option Addr) (p1 : Int) (p2 : Option Addr) (n2 c2 : Nat) (w : World) (R : Ending → World → Prop) : SX.vcFn Tryd.prog [(4, ⟨[(13, .int .i64), (1, .int .u32)], [0, 11, 12], []⟩)] Tryd.f158 [.v (.pointer p0), .v (.int .u32 p1), .v (.slice p2 n2 c2)] [] w R = VCTryd158 p0 p1 p2 n2 c2 w R := by kernel_rfl
def VCTryd106 (p0 : Option Addr) (p1 : Option Addr) (n1 c1 : Nat) (w : World) (R : Ending → World → Prop) : Prop :=
bif p0.isNone then R (Ending.returned (Value.int IntKind.u32 (0 : Int))) w
else
 Rets Tryd.prog (158 : Nat) #[Value.pointer p0, Value.int IntKind.u32 (4294967295 : Int), Value.slice p1 n1 c1] w fun (v0 : Value) (w1 : World) =>
  ∃ (i2 : Int), v0 = Value.int IntKind.u32 i2 ∧ Keeps w w1 [] ∧ R (Ending.returned (Value.int IntKind.u32 (xorI IntKind.u32 i2 (4294967295 : Int)))) w1
theorem vcTryd106 (p0 : Option Addr) (p1 : Option Addr) (n1 c1 : Nat) (w : World) (R : Ending → World → Prop) : SX.vcFn Tryd.prog [] Tryd.f106 [.v (.pointer p0), .v (.slice p1 n1 c1)] [] w R = VCTryd106 p0 p1 n1 c1 w R := by kernel_rfl
def VCTryd185 (p0 : Int) (p1 : Int) (w : World) (R : Ending → World → Prop) : Prop :=
∃ (I0 : Int → Int → World → Prop),
 ∃ (I1 : Int → Int → World → Nat),
  I0 (0 : Int) p0 w ∧
   ∀ (i2 i3 : Int) (w4 : World),
    I0 i2 i3 w4 →
     bif decide (i2 < p1) then
      (2 : Int) ≠ (0 : Int) ∧
       (2 : Int) ≠ (0 : Int) ∧
        Wr IntKind.u32 (i3.tdiv (2 : Int)) fun (i5 : Int) =>
         bif i3.tmod (2 : Int) == (1 : Int) then
          Wr IntKind.i64 (i2 + (1 : Int)) fun (i6 : Int) => I0 i6 (xorI IntKind.u32 i5 (3988292384 : Int)) w4 ∧ I1 i6 (xorI IntKind.u32 i5 (3988292384 : Int)) w4 < I1 i2 i3 w4
         else Wr IntKind.i64 (i2 + (1 : Int)) fun (i7 : Int) => I0 i7 i5 w4 ∧ I1 i7 i5 w4 < I1 i2 i3 w4
     else R (Ending.returned (Value.int IntKind.u32 i3)) w4
theorem vcTryd185 (p0 : Int) (p1 : Int) (w : World) (R : Ending → World → Prop) : SX.vcFn Tryd.prog [(2, ⟨[(5, .int .i64), (0, .int .u32)], [1], []⟩)] Tryd.f185 [.v (.int .u32 p0), .v (.int .i64 p1)] [] w R = VCTryd185 p0 p1 w R := by kernel_rfl
def VCTryd161 (p0 : Int) (p1 : Option Addr) (n1 c1 : Nat) (w : World) (R : Ending → World → Prop) : Prop :=
∃ (I0 : Int → Int → World → Prop),
 ∃ (I1 : Int → Int → World → Nat),
  I0 (0 : Int) p0 w ∧
   ∀ (i2 i3 : Int) (w4 : World),
    I0 i2 i3 w4 →
     bif decide (i2 < (↑n1 : Int)) then
      ((0 : Int) ≤ i2 ∧ i2 < (↑n1 : Int)) ∧
       SX.Ptr p1 fun (a5 : Addr) =>
        ∃ (i6 : Int),
         w4.cell? (a5.add (i2.toNat * (1 : Nat))) = some (Value.int IntKind.u8 i6) ∧
          Wr IntKind.u32 i6 fun (i7 : Int) =>
           Rets Tryd.prog (185 : Nat) #[Value.int IntKind.u32 (xorI IntKind.u32 i3 i7), Value.int IntKind.i64 (8 : Int)] w4 fun (v8 : Value) (w9 : World) =>
            ∃ (i10 : Int), v8 = Value.int IntKind.u32 i10 ∧ Keeps w4 w9 [] ∧ Wr IntKind.i64 (i2 + (1 : Int)) fun (i11 : Int) => I0 i11 i10 w9 ∧ I1 i11 i10 w9 < I1 i2 i3 w4
     else R (Ending.returned (Value.int IntKind.u32 i3)) w4
theorem vcTryd161 (p0 : Int) (p1 : Option Addr) (n1 c1 : Nat) (w : World) (R : Ending → World → Prop) : SX.vcFn Tryd.prog [(2, ⟨[(5, .int .i64), (0, .int .u32)], [1], []⟩)] Tryd.f161 [.v (.int .u32 p0), .v (.slice p1 n1 c1)] [] w R = VCTryd161 p0 p1 n1 c1 w R := by kernel_rfl
def VCTryd115 (p0 : Option Addr) (n0 c0 : Nat) (w : World) (R : Ending → World → Prop) : Prop :=
Rets Tryd.prog (161 : Nat) #[Value.int IntKind.u32 (4294967295 : Int), Value.slice p0 n0 c0] w fun (v0 : Value) (w1 : World) =>
 ∃ (i2 : Int), v0 = Value.int IntKind.u32 i2 ∧ Keeps w w1 [] ∧ Wr IntKind.u32 ((4294967295 : Int) - i2) fun (i3 : Int) => R (Ending.returned (Value.int IntKind.u32 i3)) w1
theorem vcTryd115 (p0 : Option Addr) (n0 c0 : Nat) (w : World) (R : Ending → World → Prop) : SX.vcFn Tryd.prog [] Tryd.f115 [.v (.slice p0 n0 c0)] [] w R = VCTryd115 p0 n0 c0 w R := by kernel_rfl
def VCTryd116 (p0 : Option Addr) (n0 c0 : Nat) (p1 : Int) (w : World) (R : Ending → World → Prop) : Prop :=
(8 : Int) ≠ (0 : Int) ∧
 Wr IntKind.i64 (p1.tdiv (8 : Int)) fun (i0 : Int) =>
  ((0 : Int) ≤ i0 ∧ i0 < (↑n0 : Int)) ∧
   SX.Ptr p0 fun (a1 : Addr) =>
    ∃ (i2 : Int),
     w.cell? (a1.add (i0.toNat * (1 : Nat))) = some (Value.int IntKind.u8 i2) ∧
      Wr IntKind.i64 i2 fun (i3 : Int) =>
       ∃ (I4 : Int → Int → World → Prop),
        ∃ (I5 : Int → Int → World → Nat),
         I4 (0 : Int) i3 w ∧
          ∀ (i6 i7 : Int) (w8 : World),
           I4 i6 i7 w8 →
            (8 : Int) ≠ (0 : Int) ∧
             bif decide (i6 < p1.tmod (8 : Int)) then
              (2 : Int) ≠ (0 : Int) ∧ Wr IntKind.i64 (i7.tdiv (2 : Int)) fun (i9 : Int) => Wr IntKind.i64 (i6 + (1 : Int)) fun (i10 : Int) => I4 i10 i9 w8 ∧ I5 i10 i9 w8 < I5 i6 i7 w8
             else (2 : Int) ≠ (0 : Int) ∧ R (Ending.returned (Value.int IntKind.i64 (i7.tmod (2 : Int)))) w8
theorem vcTryd116 (p0 : Option Addr) (n0 c0 : Nat) (p1 : Int) (w : World) (R : Ending → World → Prop) : SX.vcFn Tryd.prog [(3, ⟨[(6, .int .i64), (5, .int .i64)], [1], []⟩)] Tryd.f116 [.v (.slice p0 n0 c0), .v (.int .i64 p1)] [] w R = VCTryd116 p0 n0 c0 p1 w R := by kernel_rfl
def VCTryd34 (p0 : Option Addr) (n0 c0 : Nat) (p1 : Int) (p2 : Int) (w : World) (R : Ending → World → Prop) : Prop :=
Runs Tryd.prog (Instr.buildSlice (27 : Nat) (0 : Nat) #[]) w fun (v0 : Value) (w1 : World) =>
 ∃ (q2 : Option Addr),
  ∃ (n3 : Nat),
   ∃ (n4 : Nat),
    v0 = Value.slice q2 n3 n4 ∧
     Keeps w w1 [] ∧
      Runs Tryd.prog (Builtin.append_ #[(27 : Nat), (27 : Nat)] (27 : Nat) #[Value.slice q2 n3 n4, Value.slice p0 n0 c0]) w1 fun (v5 : Value) (w6 : World) =>
       ∃ (q7 : Option Addr),
        ∃ (n8 : Nat),
         ∃ (n9 : Nat),
          v5 = Value.slice q7 n8 n9 ∧
           Keeps w1 w6 [] ∧
            ∃ (I10 : Int → Int → Int → World → Prop),
             ∃ (I11 : Int → Int → Int → World → Nat),
              I10 (0 : Int) p1 p2 w6 ∧
               ∀ (i12 i13 i14 : Int) (w15 : World),
                I10 i12 i13 i14 w15 →
                 bif decide (i12 < (32 : Int)) then
                  (2 : Int) ≠ (0 : Int) ∧
                   bif i14.tmod (2 : Int) == (1 : Int) then
                    (8 : Int) ≠ (0 : Int) ∧
                     Wr IntKind.i64 (i13.tdiv (8 : Int)) fun (i16 : Int) =>
                      bif decide (i16 < (↑n8 : Int)) then
                       ∃ (I17 : Int → Int → World → Prop),
                        ∃ (I18 : Int → Int → World → Nat),
                         I17 (0 : Int) (1 : Int) w15 ∧
                          ∀ (i19 i20 : Int) (w21 : World),
                           I17 i19 i20 w21 →
                            (8 : Int) ≠ (0 : Int) ∧
                             bif decide (i19 < i13.tmod (8 : Int)) then
                              Wr IntKind.i64 (i20 * (2 : Int)) fun (i22 : Int) => Wr IntKind.i64 (i19 + (1 : Int)) fun (i23 : Int) => I17 i23 i22 w21 ∧ I18 i23 i22 w21 < I18 i19 i20 w21
                             else
                              Rets Tryd.prog (116 : Nat) #[Value.slice q7 n8 n9, Value.int IntKind.i64 i13] w21 fun (v24 : Value) (w25 : World) =>
                               ∃ (i26 : Int),
                                v24 = Value.int IntKind.i64 i26 ∧
                                 Keeps w21 w25 [] ∧
                                  bif i26 == (1 : Int) then
                                   Wr IntKind.i64 ((0 : Int) - i20) fun (i27 : Int) =>
                                    (8 : Int) ≠ (0 : Int) ∧
                                     Wr IntKind.i64 (i13.tdiv (8 : Int)) fun (i28 : Int) =>
                                      (8 : Int) ≠ (0 : Int) ∧
                                       Wr IntKind.i64 (i13.tdiv (8 : Int)) fun (i29 : Int) =>
                                        ((0 : Int) ≤ i29 ∧ i29 < (↑n8 : Int)) ∧
                                         SX.Ptr q7 fun (a30 : Addr) =>
                                          ∃ (i31 : Int),
                                           w25.cell? (a30.add (i29.toNat * (1 : Nat))) = some (Value.int IntKind.u8 i31) ∧
                                            Wr IntKind.i64 i31 fun (i32 : Int) =>
                                             Wr IntKind.i64 (i32 + i27) fun (i33 : Int) =>
                                              Wr IntKind.u8 i33 fun (i34 : Int) =>
                                               ((0 : Int) ≤ i28 ∧ i28 < (↑n8 : Int)) ∧
                                                SX.Ptr q7 fun (a35 : Addr) =>
                                                 (∃ (v36 : Value), w25.cell? ((a35.add (i28.toNat * (1 : Nat))).add (0 : Nat)) = some v36) ∧
                                                  w25.frozen? ((a35.add (i28.toNat * (1 : Nat))).add (0 : Nat)) = false ∧
                                                   (2 : Int) ≠ (0 : Int) ∧
                                                    Wr IntKind.u32 (i14.tdiv (2 : Int)) fun (i37 : Int) =>
                                                     Wr IntKind.i64 (i13 + (1 : Int)) fun (i38 : Int) =>
                                                      Wr IntKind.i64 (i12 + (1 : Int)) fun (i39 : Int) =>
                                                       I10 i39 i38 i37 (w25.setCell ((a35.add (i28.toNat * (1 : Nat))).add (0 : Nat)) (Value.int IntKind.u8 i34)) ∧
                                                        I11 i39 i38 i37 (w25.setCell ((a35.add (i28.toNat * (1 : Nat))).add (0 : Nat)) (Value.int IntKind.u8 i34)) <
                                                         I11 i12 i13 i14 w15
                                  else
                                   (8 : Int) ≠ (0 : Int) ∧
                                    Wr IntKind.i64 (i13.tdiv (8 : Int)) fun (i40 : Int) =>
                                     (8 : Int) ≠ (0 : Int) ∧
                                      Wr IntKind.i64 (i13.tdiv (8 : Int)) fun (i41 : Int) =>
                                       ((0 : Int) ≤ i41 ∧ i41 < (↑n8 : Int)) ∧
                                        SX.Ptr q7 fun (a42 : Addr) =>
                                         ∃ (i43 : Int),
                                          w25.cell? (a42.add (i41.toNat * (1 : Nat))) = some (Value.int IntKind.u8 i43) ∧
                                           Wr IntKind.i64 i43 fun (i44 : Int) =>
                                            Wr IntKind.i64 (i44 + i20) fun (i45 : Int) =>
                                             Wr IntKind.u8 i45 fun (i46 : Int) =>
                                              ((0 : Int) ≤ i40 ∧ i40 < (↑n8 : Int)) ∧
                                               SX.Ptr q7 fun (a47 : Addr) =>
                                                (∃ (v48 : Value), w25.cell? ((a47.add (i40.toNat * (1 : Nat))).add (0 : Nat)) = some v48) ∧
                                                 w25.frozen? ((a47.add (i40.toNat * (1 : Nat))).add (0 : Nat)) = false ∧
                                                  (2 : Int) ≠ (0 : Int) ∧
                                                   Wr IntKind.u32 (i14.tdiv (2 : Int)) fun (i49 : Int) =>
                                                    Wr IntKind.i64 (i13 + (1 : Int)) fun (i50 : Int) =>
                                                     Wr IntKind.i64 (i12 + (1 : Int)) fun (i51 : Int) =>
                                                      I10 i51 i50 i49 (w25.setCell ((a47.add (i40.toNat * (1 : Nat))).add (0 : Nat)) (Value.int IntKind.u8 i46)) ∧
                                                       I11 i51 i50 i49 (w25.setCell ((a47.add (i40.toNat * (1 : Nat))).add (0 : Nat)) (Value.int IntKind.u8 i46)) <
                                                        I11 i12 i13 i14 w15
                      else
                       (2 : Int) ≠ (0 : Int) ∧
                        Wr IntKind.u32 (i14.tdiv (2 : Int)) fun (i52 : Int) =>
                         Wr IntKind.i64 (i13 + (1 : Int)) fun (i53 : Int) => Wr IntKind.i64 (i12 + (1 : Int)) fun (i54 : Int) => I10 i54 i53 i52 w15 ∧ I11 i54 i53 i52 w15 < I11 i12 i13 i14 w15
                   else
                    (2 : Int) ≠ (0 : Int) ∧
                     Wr IntKind.u32 (i14.tdiv (2 : Int)) fun (i55 : Int) =>
                      Wr IntKind.i64 (i13 + (1 : Int)) fun (i56 : Int) => Wr IntKind.i64 (i12 + (1 : Int)) fun (i57 : Int) => I10 i57 i56 i55 w15 ∧ I11 i57 i56 i55 w15 < I11 i12 i13 i14 w15
                 else R (Ending.returned (Value.slice q7 n8 n9)) w15
theorem vcTryd34 (p0 : Option Addr) (n0 c0 : Nat) (p1 : Int) (p2 : Int) (w : World) (R : Ending → World → Prop) : SX.vcFn Tryd.prog [(9, ⟨[(11, .int .i64), (10, .int .i64)], [8, 1, 9, 7], []⟩), (4, ⟨[(9, .int .i64), (1, .int .i64), (8, .int .u32)], [7], []⟩)] Tryd.f34 [.v (.slice p0 n0 c0), .v (.int .i64 p1), .v (.int .u32 p2)] [] w R = VCTryd34 p0 n0 c0 p1 p2 w R := by kernel_rfl
def VCTryd35 (p0 : Option Addr) (n0 c0 : Nat) (p1 : Option Addr) (n1 c1 : Nat) (w : World) (R : Ending → World → Prop) : Prop :=
∃ (s0 : ByteArray), s0.size = n0 ∧ BytesAt w p0 s0 ∧ ∃ (s1 : ByteArray), s1.size = n1 ∧ BytesAt w p1 s1 ∧ R (Ending.returned (Value.bool (s0.toList == s1.toList))) w
theorem vcTryd35 (p0 : Option Addr) (n0 c0 : Nat) (p1 : Option Addr) (n1 c1 : Nat) (w : World) (R : Ending → World → Prop) : SX.vcFn Tryd.prog [] Tryd.f35 [.v (.slice p0 n0 c0), .v (.slice p1 n1 c1)] [] w R = VCTryd35 p0 n0 c0 p1 n1 c1 w R := by kernel_rfl
def VCTryd109 (p0 : Option Addr) (n0 c0 : Nat) (w : World) (R : Ending → World → Prop) : Prop :=
Known (w.alloc (Obj.cells #[Value.slice p0 n0 c0, Value.int IntKind.i64 (0 : Int), Value.bool false] (197 : Nat)))
  [(w.heap.size, [((0 : Nat), Value.slice p0 n0 c0), ((1 : Nat), Value.int IntKind.i64 (0 : Int)), ((2 : Nat), Value.bool false)])] →
 R (Ending.returned (Value.pointer (some { block := w.heap.size, off := (0 : Nat) }))) (w.alloc (Obj.cells #[Value.slice p0 n0 c0, Value.int IntKind.i64 (0 : Int), Value.bool false] (197 : Nat)))
theorem vcTryd109 (p0 : Option Addr) (n0 c0 : Nat) (w : World) (R : Ending → World → Prop) : SX.vcFn Tryd.prog [] Tryd.f109 [.v (.slice p0 n0 c0)] [] w R = VCTryd109 p0 n0 c0 w R := by kernel_rfl
def VCTryd110 (p0 : Option Addr) (p1 : Int) (w : World) (R : Ending → World → Prop) : Prop :=
Rets Tryd.prog (113 : Nat) #[Value.pointer p0] w fun (v0 : Value) (w1 : World) =>
 ∃ (t2 : Bool),
  v0 = Value.bool t2 ∧
   Keeps w w1 [] ∧
    bif !t2 then R (Ending.returned (Value.slice none (0 : Nat) (0 : Nat))) w1
    else
     bif decide (p1 < (0 : Int)) then
      SX.Ptr p0 fun (a3 : Addr) =>
       (∃ (v4 : Value), w1.drew.cell? ((a3.add (2 : Nat)).add (0 : Nat)) = some v4) ∧
        w1.drew.frozen? ((a3.add (2 : Nat)).add (0 : Nat)) = false ∧ R (Ending.returned (Value.slice none (0 : Nat) (0 : Nat))) (w1.drew.setCell ((a3.add (2 : Nat)).add (0 : Nat)) (Value.bool true))
     else
      SX.Ptr p0 fun (a5 : Addr) =>
       ∃ (q6 : Option Addr),
        ∃ (n7 : Nat),
         ∃ (n8 : Nat),
          w1.drew.cell? (a5.add (0 : Nat)) = some (Value.slice q6 n7 n8) ∧
           SX.Ptr p0 fun (a9 : Addr) =>
            ∃ (i10 : Int),
             w1.drew.cell? (a9.add (1 : Nat)) = some (Value.int IntKind.i64 i10) ∧
              Wr IntKind.i64 ((↑n7 : Int) - i10) fun (i11 : Int) =>
               bif decide (p1 > i11) then
                SX.Ptr p0 fun (a12 : Addr) =>
                 (∃ (v13 : Value), w1.drew.cell? ((a12.add (2 : Nat)).add (0 : Nat)) = some v13) ∧
                  w1.drew.frozen? ((a12.add (2 : Nat)).add (0 : Nat)) = false ∧
                   R (Ending.returned (Value.slice none (0 : Nat) (0 : Nat))) (w1.drew.setCell ((a12.add (2 : Nat)).add (0 : Nat)) (Value.bool true))
               else
                Runs Tryd.prog (Instr.makeSlice (27 : Nat) (Value.int IntKind.i64 p1) (Value.int IntKind.i64 p1)) w1.drew fun (v14 : Value) (w15 : World) =>
                 ∃ (q16 : Option Addr),
                  ∃ (n17 : Nat),
                   ∃ (n18 : Nat),
                    v14 = Value.slice q16 n17 n18 ∧
                     Keeps w1.drew w15 [] ∧
                      SX.Ptr p0 fun (a19 : Addr) =>
                       ∃ (q20 : Option Addr),
                        ∃ (n21 : Nat),
                         ∃ (n22 : Nat),
                          w15.drew.cell? (a19.add (0 : Nat)) = some (Value.slice q20 n21 n22) ∧
                           SX.Ptr p0 fun (a23 : Addr) =>
                            ∃ (i24 : Int),
                             w15.drew.cell? (a23.add (1 : Nat)) = some (Value.int IntKind.i64 i24) ∧
                              ((0 : Int) ≤ i24 ∧ i24 ≤ (↑n21 : Int)) ∧
                               Runs Tryd.prog
                                (Builtin.copy_ #[(27 : Nat), (27 : Nat)] (3 : Nat)
                                 #[Value.slice q16 n17 n18, Value.slice (cutA q20 n22 i24.toNat (1 : Nat)) (n21 - i24.toNat) (n22 - i24.toNat)])
                                w15.drew fun (v25 : Value) (w26 : World) =>
                                ∃ (i27 : Int),
                                 v25 = Value.int IntKind.i64 i27 ∧
                                  Keeps w15.drew w26 [] ∧
                                   SX.Ptr p0 fun (a28 : Addr) =>
                                    ∃ (i29 : Int),
                                     w26.cell? (a28.add (1 : Nat)) = some (Value.int IntKind.i64 i29) ∧
                                      Wr IntKind.i64 (i29 + p1) fun (i30 : Int) =>
                                       SX.Ptr p0 fun (a31 : Addr) =>
                                        (∃ (v32 : Value), w26.cell? ((a31.add (1 : Nat)).add (0 : Nat)) = some v32) ∧
                                         w26.frozen? ((a31.add (1 : Nat)).add (0 : Nat)) = false ∧
                                          R (Ending.returned (Value.slice q16 n17 n18)) (w26.setCell ((a31.add (1 : Nat)).add (0 : Nat)) (Value.int IntKind.i64 i30))
theorem vcTryd110 (p0 : Option Addr) (p1 : Int) (w : World) (R : Ending → World → Prop) : SX.vcFn Tryd.prog [] Tryd.f110 [.v (.pointer p0), .v (.int .i64 p1)] [] w R = VCTryd110 p0 p1 w R := by kernel_rfl
def VCTryd111 (p0 : Option Addr) (p1 : Int) (w : World) (R : Ending → World → Prop) : Prop :=
Rets Tryd.prog (113 : Nat) #[Value.pointer p0] w fun (v0 : Value) (w1 : World) =>
 ∃ (t2 : Bool),
  v0 = Value.bool t2 ∧
   Keeps w w1 [] ∧
    bif !t2 then R (Ending.returned (Value.int IntKind.u32 (0 : Int))) w1
    else
     SX.Ptr p0 fun (a3 : Addr) =>
      ∃ (q4 : Option Addr),
       ∃ (n5 : Nat),
        ∃ (n6 : Nat),
         w1.drew.cell? (a3.add (0 : Nat)) = some (Value.slice q4 n5 n6) ∧
          SX.Ptr p0 fun (a7 : Addr) =>
           ∃ (i8 : Int),
            w1.drew.cell? (a7.add (1 : Nat)) = some (Value.int IntKind.i64 i8) ∧
             Rets Tryd.prog (159 : Nat) #[Value.slice q4 n5 n6, Value.int IntKind.i64 i8, Value.int IntKind.i64 p1] w1.drew fun (v9 : Value) (w10 : World) =>
              ∃ (i11 : Int),
               ∃ (t12 : Bool),
                v9 = Value.tuple #[Value.int IntKind.u32 i11, Value.bool t12] ∧
                 Keeps w1.drew w10 [] ∧
                  bif !t12 then
                   SX.Ptr p0 fun (a13 : Addr) =>
                    (∃ (v14 : Value), w10.cell? ((a13.add (2 : Nat)).add (0 : Nat)) = some v14) ∧
                     w10.frozen? ((a13.add (2 : Nat)).add (0 : Nat)) = false ∧
                      R (Ending.returned (Value.int IntKind.u32 (0 : Int))) (w10.setCell ((a13.add (2 : Nat)).add (0 : Nat)) (Value.bool true))
                  else
                   SX.Ptr p0 fun (a15 : Addr) =>
                    ∃ (i16 : Int),
                     w10.drew.cell? (a15.add (1 : Nat)) = some (Value.int IntKind.i64 i16) ∧
                      Rets Tryd.prog (157 : Nat) #[Value.int IntKind.i64 p1] w10.drew fun (v17 : Value) (w18 : World) =>
                       ∃ (i19 : Int),
                        v17 = Value.int IntKind.i64 i19 ∧
                         Keeps w10.drew w18 [] ∧
                          w18.cell? (a15.add (1 : Nat)) = some (Value.int IntKind.i64 i16) ∧
                           Wr IntKind.i64 (i16 + i19) fun (i20 : Int) =>
                            SX.Ptr p0 fun (a21 : Addr) =>
                             (∃ (v22 : Value), w18.cell? ((a21.add (1 : Nat)).add (0 : Nat)) = some v22) ∧
                              w18.frozen? ((a21.add (1 : Nat)).add (0 : Nat)) = false ∧
                               R (Ending.returned (Value.int IntKind.u32 i11)) (w18.setCell ((a21.add (1 : Nat)).add (0 : Nat)) (Value.int IntKind.i64 i20))
theorem vcTryd111 (p0 : Option Addr) (p1 : Int) (w : World) (R : Ending → World → Prop) : SX.vcFn Tryd.prog [] Tryd.f111 [.v (.pointer p0), .v (.int .i64 p1)] [] w R = VCTryd111 p0 p1 w R := by kernel_rfl
def VCTryd112 (p0 : Option Addr) (w : World) (R : Ending → World → Prop) : Prop :=
bif p0.isNone then R (Ending.returned (Value.int IntKind.i64 (0 : Int))) w
else SX.Ptr p0 fun (a0 : Addr) => ∃ (i1 : Int), w.cell? (a0.add (1 : Nat)) = some (Value.int IntKind.i64 i1) ∧ R (Ending.returned (Value.int IntKind.i64 i1)) w
theorem vcTryd112 (p0 : Option Addr) (w : World) (R : Ending → World → Prop) : SX.vcFn Tryd.prog [] Tryd.f112 [.v (.pointer p0)] [] w R = VCTryd112 p0 w R := by kernel_rfl
def VCTryd113 (p0 : Option Addr) (w : World) (R : Ending → World → Prop) : Prop :=
bif !p0.isNone then SX.Ptr p0 fun (a0 : Addr) => ∃ (t1 : Bool), w.cell? (a0.add (2 : Nat)) = some (Value.bool t1) ∧ R (Ending.returned (Value.bool !t1)) w else R (Ending.returned (Value.bool false)) w
theorem vcTryd113 (p0 : Option Addr) (w : World) (R : Ending → World → Prop) : SX.vcFn Tryd.prog [] Tryd.f113 [.v (.pointer p0)] [] w R = VCTryd113 p0 w R := by kernel_rfl
def VCTryd157 (p0 : Int) (w : World) (R : Ending → World → Prop) : Prop :=
R (Ending.returned (Value.int IntKind.i64 (maxI (1 : Int) (minI (4 : Int) p0)))) w
theorem vcTryd157 (p0 : Int) (w : World) (R : Ending → World → Prop) : SX.vcFn Tryd.prog [] Tryd.f157 [.v (.int .i64 p0)] [] w R = VCTryd157 p0 w R := by kernel_rfl
def VCTryd159 (p0 : Option Addr) (n0 c0 : Nat) (p1 : Int) (p2 : Int) (w : World) (R : Ending → World → Prop) : Prop :=
Rets Tryd.prog (157 : Nat) #[Value.int IntKind.i64 p2] w fun (v0 : Value) (w1 : World) =>
 ∃ (i2 : Int),
  v0 = Value.int IntKind.i64 i2 ∧
   Keeps w w1 [] ∧
    bif decide (p1 < (0 : Int)) then R (Ending.returned (Value.tuple #[Value.int IntKind.u32 (0 : Int), Value.bool false])) w1
    else
     Wr IntKind.i64 ((↑n0 : Int) - i2) fun (i3 : Int) =>
      bif decide (p1 > i3) then R (Ending.returned (Value.tuple #[Value.int IntKind.u32 (0 : Int), Value.bool false])) w1
      else
       Wr IntKind.i64 (i2 - (1 : Int)) fun (i4 : Int) =>
        ∃ (I5 : Int → Int → World → Prop),
         ∃ (I6 : Int → Int → World → Nat),
          I5 i4 (0 : Int) w1 ∧
           ∀ (i7 i8 : Int) (w9 : World),
            I5 i7 i8 w9 →
             bif decide (i7 ≥ (0 : Int)) then
              (0 : Int) ≤ (8 : Int) ∧
               Wr IntKind.u32 (shlI IntKind.u32 i8 (8 : Int)) fun (i10 : Int) =>
                Wr IntKind.i64 (p1 + i7) fun (i11 : Int) =>
                 ((0 : Int) ≤ i11 ∧ i11 < (↑n0 : Int)) ∧
                  SX.Ptr p0 fun (a12 : Addr) =>
                   ∃ (i13 : Int),
                    w9.cell? (a12.add (i11.toNat * (1 : Nat))) = some (Value.int IntKind.u8 i13) ∧
                     Wr IntKind.u32 i13 fun (i14 : Int) => Wr IntKind.i64 (i7 - (1 : Int)) fun (i15 : Int) => I5 i15 (orI IntKind.u32 i10 i14) w9 ∧ I6 i15 (orI IntKind.u32 i10 i14) w9 < I6 i7 i8 w9
             else R (Ending.returned (Value.tuple #[Value.int IntKind.u32 i8, Value.bool true])) w9
theorem vcTryd159 (p0 : Option Addr) (n0 c0 : Nat) (p1 : Int) (p2 : Int) (w : World) (R : Ending → World → Prop) : SX.vcFn Tryd.prog [(6, ⟨[(10, .int .i64), (9, .int .u32)], [1, 0], []⟩)] Tryd.f159 [.v (.slice p0 n0 c0), .v (.int .i64 p1), .v (.int .i64 p2)] [] w R = VCTryd159 p0 n0 c0 p1 p2 w R := by kernel_rfl
def VCTryd163 (p0 : Option Addr) (w : World) (R : Ending → World → Prop) : Prop :=
bif p0.isNone then R (Ending.returned (Value.int IntKind.i64 (0 : Int))) w
else
 SX.Ptr p0 fun (a0 : Addr) =>
  ∃ (q1 : Option Addr),
   ∃ (n2 : Nat),
    ∃ (n3 : Nat),
     w.drew.cell? (a0.add (0 : Nat)) = some (Value.slice q1 n2 n3) ∧
      SX.Ptr p0 fun (a4 : Addr) =>
       ∃ (i5 : Int), w.drew.cell? (a4.add (1 : Nat)) = some (Value.int IntKind.i64 i5) ∧ Wr IntKind.i64 ((↑n2 : Int) - i5) fun (i6 : Int) => R (Ending.returned (Value.int IntKind.i64 i6)) w.drew
theorem vcTryd163 (p0 : Option Addr) (w : World) (R : Ending → World → Prop) : SX.vcFn Tryd.prog [] Tryd.f163 [.v (.pointer p0)] [] w R = VCTryd163 p0 w R := by kernel_rfl
def VCTryd105 (p0 : Option Addr) (n0 c0 : Nat) (p1 : Int) (p2 : Int) (w : World) (R : Ending → World → Prop) : Prop :=
Rets Tryd.prog (157 : Nat) #[Value.int IntKind.i64 p2] w fun (v0 : Value) (w1 : World) =>
 ∃ (i2 : Int),
  v0 = Value.int IntKind.i64 i2 ∧
   Keeps w w1 [] ∧
    ∃ (I3 : Int → Int → Option Addr → Nat → Nat → World → Prop),
     ∃ (I4 : Int → Int → Option Addr → Nat → Nat → World → Nat),
      I3 (0 : Int) p1 p0 n0 c0 w1 ∧
       ∀ (i5 i6 : Int) (q7 : Option Addr) (n8 n9 : Nat) (w10 : World),
        I3 i5 i6 q7 n8 n9 w10 →
         bif decide (i5 < i2) then
          Wr IntKind.u8 i6 fun (i11 : Int) =>
           Runs Tryd.prog (Builtin.append_ #[(27 : Nat), (27 : Nat)] (27 : Nat) #[Value.slice q7 n8 n9, Value.slice (some { block := w10.heap.size, off := (0 : Nat) }) (1 : Nat) (1 : Nat)])
            (w10.alloc (Obj.cells #[Value.int IntKind.u8 i11] (5 : Nat))) fun (v12 : Value) (w13 : World) =>
            ∃ (q14 : Option Addr),
             ∃ (n15 : Nat),
              ∃ (n16 : Nat),
               v12 = Value.slice q14 n15 n16 ∧
                Keeps (w10.alloc (Obj.cells #[Value.int IntKind.u8 i11] (5 : Nat))) w13 [] ∧
                 (0 : Int) ≤ (8 : Int) ∧
                  Wr IntKind.i64 (i5 + (1 : Int)) fun (i17 : Int) =>
                   I3 i17 (shrI IntKind.u32 i6 (8 : Int)) q14 n15 n16 w13 ∧ I4 i17 (shrI IntKind.u32 i6 (8 : Int)) q14 n15 n16 w13 < I4 i5 i6 q7 n8 n9 w10
         else R (Ending.returned (Value.slice q7 n8 n9)) w10
theorem vcTryd105 (p0 : Option Addr) (n0 c0 : Nat) (p1 : Int) (p2 : Int) (w : World) (R : Ending → World → Prop) : SX.vcFn Tryd.prog [(2, ⟨[(9, .int .i64), (1, .int .u32), (0, .slice)], [8], []⟩)] Tryd.f105 [.v (.slice p0 n0 c0), .v (.int .u32 p1), .v (.int .i64 p2)] [] w R = VCTryd105 p0 n0 c0 p1 p2 w R := by kernel_rfl
def VCTryd120 (p0 : Int) (p1 : Int) (w : World) (R : Ending → World → Prop) : Prop :=
(256 : Int) ≠ (0 : Int) ∧
 Wr IntKind.u8 (p0.tmod (256 : Int)) fun (i0 : Int) =>
  ∃ (I1 : Int → Option Addr → Nat → Nat → Int → World → Prop),
   ∃ (I2 : Int → Option Addr → Nat → Nat → Int → World → Nat),
    I1 (1 : Int) (some { block := w.heap.size, off := (0 : Nat) }) (1 : Nat) (1 : Nat) p0 (w.alloc (Obj.cells #[Value.int IntKind.u8 i0] (5 : Nat))) ∧
     ∀ (i3 : Int) (q4 : Option Addr) (n5 n6 : Nat) (i7 : Int) (w8 : World),
      I1 i3 q4 n5 n6 i7 w8 →
       Rets Tryd.prog (164 : Nat) #[Value.int IntKind.i64 p1] w8 fun (v9 : Value) (w10 : World) =>
        ∃ (i11 : Int),
         v9 = Value.int IntKind.i64 i11 ∧
          Keeps w8 w10 [] ∧
           bif decide (i3 < i11) then
            (256 : Int) ≠ (0 : Int) ∧
             Wr IntKind.u32 (i7.tdiv (256 : Int)) fun (i12 : Int) =>
              (256 : Int) ≠ (0 : Int) ∧
               Wr IntKind.u8 (i12.tmod (256 : Int)) fun (i13 : Int) =>
                Runs Tryd.prog (Builtin.append_ #[(27 : Nat), (27 : Nat)] (27 : Nat) #[Value.slice q4 n5 n6, Value.slice (some { block := w10.heap.size, off := (0 : Nat) }) (1 : Nat) (1 : Nat)])
                 (w10.alloc (Obj.cells #[Value.int IntKind.u8 i13] (5 : Nat))) fun (v14 : Value) (w15 : World) =>
                 ∃ (q16 : Option Addr),
                  ∃ (n17 : Nat),
                   ∃ (n18 : Nat),
                    v14 = Value.slice q16 n17 n18 ∧
                     Keeps (w10.alloc (Obj.cells #[Value.int IntKind.u8 i13] (5 : Nat))) w15 [] ∧
                      Wr IntKind.i64 (i3 + (1 : Int)) fun (i19 : Int) => I1 i19 q16 n17 n18 i12 w15 ∧ I2 i19 q16 n17 n18 i12 w15 < I2 i3 q4 n5 n6 i7 w8
           else R (Ending.returned (Value.slice q4 n5 n6)) w10
theorem vcTryd120 (p0 : Int) (p1 : Int) (w : World) (R : Ending → World → Prop) : SX.vcFn Tryd.prog [(3, ⟨[(6, .int .i64), (5, .slice), (0, .int .u32)], [1], []⟩)] Tryd.f120 [.v (.int .u32 p0), .v (.int .i64 p1)] [] w R = VCTryd120 p0 p1 w R := by kernel_rfl
def VCTryd160 (p0 : Option Addr) (n0 c0 : Nat) (p1 : Int) (p2 : Int) (w : World) (R : Ending → World → Prop) : Prop :=
Rets Tryd.prog (164 : Nat) #[Value.int IntKind.i64 p2] w fun (v0 : Value) (w1 : World) =>
 ∃ (i2 : Int),
  v0 = Value.int IntKind.i64 i2 ∧
   Keeps w w1 [] ∧
    bif decide (p1 < (0 : Int)) then R (Ending.returned (Value.tuple #[Value.int IntKind.u32 (0 : Int), Value.bool false])) w1
    else
     bif decide (p1 ≥ (↑n0 : Int)) then R (Ending.returned (Value.tuple #[Value.int IntKind.u32 (0 : Int), Value.bool false])) w1
     else
      Wr IntKind.i64 ((↑n0 : Int) - p1) fun (i3 : Int) =>
       bif decide (i3 < i2) then R (Ending.returned (Value.tuple #[Value.int IntKind.u32 (0 : Int), Value.bool false])) w1
       else
        ∃ (I4 : Int → Int → Int → World → Prop),
         ∃ (I5 : Int → Int → Int → World → Nat),
          I4 (0 : Int) (1 : Int) (0 : Int) w1 ∧
           ∀ (i6 i7 i8 : Int) (w9 : World),
            I4 i6 i7 i8 w9 →
             bif decide (i6 < i2) then
              Wr IntKind.i64 (p1 + i6) fun (i10 : Int) =>
               ((0 : Int) ≤ i10 ∧ i10 < (↑n0 : Int)) ∧
                SX.Ptr p0 fun (a11 : Addr) =>
                 ∃ (i12 : Int),
                  w9.cell? (a11.add (i10.toNat * (1 : Nat))) = some (Value.int IntKind.u8 i12) ∧
                   Wr IntKind.u32 i12 fun (i13 : Int) =>
                    Wr IntKind.u32 (i7 * i13) fun (i14 : Int) =>
                     Wr IntKind.u32 (i8 + i14) fun (i15 : Int) =>
                      Wr IntKind.u32 (i7 * (256 : Int)) fun (i16 : Int) => Wr IntKind.i64 (i6 + (1 : Int)) fun (i17 : Int) => I4 i17 i16 i15 w9 ∧ I5 i17 i16 i15 w9 < I5 i6 i7 i8 w9
             else R (Ending.returned (Value.tuple #[Value.int IntKind.u32 i8, Value.bool true])) w9
theorem vcTryd160 (p0 : Option Addr) (n0 c0 : Nat) (p1 : Int) (p2 : Int) (w : World) (R : Ending → World → Prop) : SX.vcFn Tryd.prog [(6, ⟨[(11, .int .i64), (10, .int .u32), (9, .int .u32)], [1, 0, 8], []⟩)] Tryd.f160 [.v (.slice p0 n0 c0), .v (.int .i64 p1), .v (.int .i64 p2)] [] w R = VCTryd160 p0 n0 c0 p1 p2 w R := by kernel_rfl
def VCTryd164 (p0 : Int) (w : World) (R : Ending → World → Prop) : Prop :=
bif decide (p0 < (1 : Int)) then R (Ending.returned (Value.int IntKind.i64 (1 : Int))) w
else bif decide (p0 > (4 : Int)) then R (Ending.returned (Value.int IntKind.i64 (4 : Int))) w else R (Ending.returned (Value.int IntKind.i64 p0)) w
theorem vcTryd164 (p0 : Int) (w : World) (R : Ending → World → Prop) : SX.vcFn Tryd.prog [] Tryd.f164 [.v (.int .i64 p0)] [] w R = VCTryd164 p0 w R := by kernel_rfl
end Go.Proofs.YtbpknjldphckgaaDoor
