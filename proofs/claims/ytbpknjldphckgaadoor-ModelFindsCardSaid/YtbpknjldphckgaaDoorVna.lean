/- The conditions of functions, as the executor computes them: each is equal to what 'vcFn' says. -/
import Derived.Test.YtbpknjldphckgaaDoorSxLib
import Derived.Test.YtbpknjldphckgaaDoorProg
namespace Go.Proofs.YtbpknjldphckgaaDoor
open Go Go.SX Go.Proofs
set_option maxRecDepth 100000
set_option linter.unusedVariables false
def VCTryd29 (p0 : ByteArray) (w : World) (R : Ending → World → Prop) : Prop :=
bif decide ((↑p0.size : Int) < (1 : Int)) then R (Ending.returned (Value.bool false)) w
else
 bif decide ((↑p0.size : Int) > (64 : Int)) then R (Ending.returned (Value.bool false)) w
 else
  ∃ (I0 : Int → World → Prop),
   ∃ (I1 : Int → World → Nat),
    I0 (0 : Int) w ∧
     ∀ (i2 : Int) (w3 : World),
      I0 i2 w3 →
       bif decide (i2 < (↑p0.size : Int)) then
        ((0 : Int) ≤ i2 ∧ i2 < (↑p0.size : Int)) ∧
         bif decide (byteAt p0 i2 < (33 : Int)) then R (Ending.returned (Value.bool false)) w3
         else
          ((0 : Int) ≤ i2 ∧ i2 < (↑p0.size : Int)) ∧
           bif decide (byteAt p0 i2 > (126 : Int)) then R (Ending.returned (Value.bool false)) w3 else Wr IntKind.i64 (i2 + (1 : Int)) fun (i4 : Int) => I0 i4 w3 ∧ I1 i4 w3 < I1 i2 w3
       else
        Rets Tryd.prog (107 : Nat) #[Value.string p0] w3 fun (v5 : Value) (w6 : World) =>
         ∃ (q7 : Option Addr),
          ∃ (n8 : Nat),
           ∃ (n9 : Nat),
            v5 = Value.slice q7 n8 n9 ∧
             Keeps w3 w6 [] ∧
              ∃ (I10 : Int → World → Prop),
               ∃ (I11 : Int → World → Nat),
                I10 (0 : Int) w6 ∧
                 ∀ (i12 : Int) (w13 : World),
                  I10 i12 w13 →
                   bif decide (i12 < (↑n8 : Int)) then
                    ((0 : Int) ≤ i12 ∧ i12 < (↑n8 : Int)) ∧
                     SX.Ptr q7 fun (a14 : Addr) =>
                      ∃ (s15 : ByteArray),
                       w13.cell? (a14.add (i12.toNat * (1 : Nat))) = some (Value.string s15) ∧
                        bif s15.toList == ({ data := #[] } : ByteArray).toList then R (Ending.returned (Value.bool false)) w13
                        else
                         ((0 : Int) ≤ i12 ∧ i12 < (↑n8 : Int)) ∧
                          SX.Ptr q7 fun (a16 : Addr) =>
                           ∃ (s17 : ByteArray),
                            w13.cell? (a16.add (i12.toNat * (1 : Nat))) = some (Value.string s17) ∧
                             bif s17.toList == ({ data := #[(46 : UInt8)] } : ByteArray).toList then R (Ending.returned (Value.bool false)) w13
                             else
                              ((0 : Int) ≤ i12 ∧ i12 < (↑n8 : Int)) ∧
                               SX.Ptr q7 fun (a18 : Addr) =>
                                ∃ (s19 : ByteArray),
                                 w13.cell? (a18.add (i12.toNat * (1 : Nat))) = some (Value.string s19) ∧
                                  bif s19.toList == ({ data := #[(46 : UInt8), (46 : UInt8)] } : ByteArray).toList then R (Ending.returned (Value.bool false)) w13
                                  else Wr IntKind.i64 (i12 + (1 : Int)) fun (i20 : Int) => I10 i20 w13 ∧ I11 i20 w13 < I11 i12 w13
                   else R (Ending.returned (Value.bool true)) w13
theorem vcTryd29 (p0 : ByteArray) (w : World) (R : Ending → World → Prop) : SX.vcFn Tryd.prog [(10, ⟨[(5, .int .i64)], [4], []⟩), (4, ⟨[(3, .int .i64)], [0], []⟩)] Tryd.f29 [.v (.string p0)] [] w R = VCTryd29 p0 w R := by kernel_rfl
def VCTryd39 (p0 : Option Addr) (n0 c0 : Nat) (p1 : Option Addr) (n1 c1 : Nat) (w : World) (R : Ending → World → Prop) : Prop :=
bif (↑n0 : Int) != (↑n1 : Int) then R (Ending.returned (Value.bool false)) w
else
 ∃ (I0 : Int → World → Prop),
  ∃ (I1 : Int → World → Nat),
   I0 (0 : Int) w ∧
    ∀ (i2 : Int) (w3 : World),
     I0 i2 w3 →
      bif decide (i2 < (↑n0 : Int)) then
       ((0 : Int) ≤ i2 ∧ i2 < (↑n0 : Int)) ∧
        SX.Ptr p0 fun (a4 : Addr) =>
         ∃ (s5 : ByteArray),
          ∃ (i6 : Int),
           ∃ (i7 : Int),
            ∃ (i8 : Int),
             ∃ (i9 : Int),
              ∃ (i10 : Int),
               ∃ (i11 : Int),
                (w3.drew.cell? ((a4.add (i2.toNat * (7 : Nat))).add (0 : Nat)) = some (Value.string s5) ∧
                  w3.drew.cell? ((a4.add (i2.toNat * (7 : Nat))).add (1 : Nat)) = some (Value.int IntKind.i64 i6) ∧
                   w3.drew.cell? ((a4.add (i2.toNat * (7 : Nat))).add (2 : Nat)) = some (Value.int IntKind.i64 i7) ∧
                    w3.drew.cell? ((a4.add (i2.toNat * (7 : Nat))).add (3 : Nat)) = some (Value.int IntKind.i64 i8) ∧
                     w3.drew.cell? ((a4.add (i2.toNat * (7 : Nat))).add (4 : Nat)) = some (Value.int IntKind.i64 i9) ∧
                      w3.drew.cell? ((a4.add (i2.toNat * (7 : Nat))).add (5 : Nat)) = some (Value.int IntKind.u32 i10) ∧
                       w3.drew.cell? ((a4.add (i2.toNat * (7 : Nat))).add (6 : Nat)) = some (Value.int IntKind.i64 i11) ∧ True) ∧
                 ((0 : Int) ≤ i2 ∧ i2 < (↑n1 : Int)) ∧
                  SX.Ptr p1 fun (a12 : Addr) =>
                   ∃ (s13 : ByteArray),
                    ∃ (i14 : Int),
                     ∃ (i15 : Int),
                      ∃ (i16 : Int),
                       ∃ (i17 : Int),
                        ∃ (i18 : Int),
                         ∃ (i19 : Int),
                          (w3.drew.cell? ((a12.add (i2.toNat * (7 : Nat))).add (0 : Nat)) = some (Value.string s13) ∧
                            w3.drew.cell? ((a12.add (i2.toNat * (7 : Nat))).add (1 : Nat)) = some (Value.int IntKind.i64 i14) ∧
                             w3.drew.cell? ((a12.add (i2.toNat * (7 : Nat))).add (2 : Nat)) = some (Value.int IntKind.i64 i15) ∧
                              w3.drew.cell? ((a12.add (i2.toNat * (7 : Nat))).add (3 : Nat)) = some (Value.int IntKind.i64 i16) ∧
                               w3.drew.cell? ((a12.add (i2.toNat * (7 : Nat))).add (4 : Nat)) = some (Value.int IntKind.i64 i17) ∧
                                w3.drew.cell? ((a12.add (i2.toNat * (7 : Nat))).add (5 : Nat)) = some (Value.int IntKind.u32 i18) ∧
                                 w3.drew.cell? ((a12.add (i2.toNat * (7 : Nat))).add (6 : Nat)) = some (Value.int IntKind.i64 i19) ∧ True) ∧
                           true = true ∧
                            bif !(s5.toList == s13.toList && (i6 == i14 && (i7 == i15 && (i8 == i16 && (i9 == i17 && (i10 == i18 && i11 == i19)))))) then
                             R (Ending.returned (Value.bool false)) w3.drew
                            else Wr IntKind.i64 (i2 + (1 : Int)) fun (i20 : Int) => I0 i20 w3.drew ∧ I1 i20 w3.drew < I1 i2 w3
      else R (Ending.returned (Value.bool true)) w3
theorem vcTryd39 (p0 : Option Addr) (n0 c0 : Nat) (p1 : Option Addr) (n1 c1 : Nat) (w : World) (R : Ending → World → Prop) : SX.vcFn Tryd.prog [(4, ⟨[(5, .int .i64)], [1, 0], []⟩)] Tryd.f39 [.v (.slice p0 n0 c0), .v (.slice p1 n1 c1)] [] w R = VCTryd39 p0 n0 c0 p1 n1 c1 w R := by kernel_rfl
def VCTryd40 (p0 : Option Addr) (n0 c0 : Nat) (w : World) (R : Ending → World → Prop) : Prop :=
∃ (I0 : Int → World → Prop),
 ∃ (I1 : Int → World → Nat),
  I0 (0 : Int) w ∧
   ∀ (i2 : Int) (w3 : World),
    I0 i2 w3 →
     bif decide (i2 < (↑n0 : Int)) then
      ((0 : Int) ≤ i2 ∧ i2 < (↑n0 : Int)) ∧
       SX.Ptr p0 fun (a4 : Addr) =>
        ∃ (s5 : ByteArray),
         ∃ (i6 : Int),
          ∃ (i7 : Int),
           ∃ (i8 : Int),
            ∃ (i9 : Int),
             ∃ (i10 : Int),
              ∃ (i11 : Int),
               (w3.drew.cell? ((a4.add (i2.toNat * (7 : Nat))).add (0 : Nat)) = some (Value.string s5) ∧
                 w3.drew.cell? ((a4.add (i2.toNat * (7 : Nat))).add (1 : Nat)) = some (Value.int IntKind.i64 i6) ∧
                  w3.drew.cell? ((a4.add (i2.toNat * (7 : Nat))).add (2 : Nat)) = some (Value.int IntKind.i64 i7) ∧
                   w3.drew.cell? ((a4.add (i2.toNat * (7 : Nat))).add (3 : Nat)) = some (Value.int IntKind.i64 i8) ∧
                    w3.drew.cell? ((a4.add (i2.toNat * (7 : Nat))).add (4 : Nat)) = some (Value.int IntKind.i64 i9) ∧
                     w3.drew.cell? ((a4.add (i2.toNat * (7 : Nat))).add (5 : Nat)) = some (Value.int IntKind.u32 i10) ∧
                      w3.drew.cell? ((a4.add (i2.toNat * (7 : Nat))).add (6 : Nat)) = some (Value.int IntKind.i64 i11) ∧ True) ∧
                Rets Tryd.prog (45 : Nat)
                 #[Value.agg
                   #[Value.string s5, Value.int IntKind.i64 i6, Value.int IntKind.i64 i7, Value.int IntKind.i64 i8, Value.int IntKind.i64 i9, Value.int IntKind.u32 i10, Value.int IntKind.i64 i11]]
                 w3.drew fun (v12 : Value) (w13 : World) =>
                 ∃ (t14 : Bool),
                  v12 = Value.bool t14 ∧
                   Keeps w3.drew w13 [] ∧
                    bif !t14 then R (Ending.returned (Value.bool false)) w13
                    else
                     bif decide (i2 > (0 : Int)) then
                      ((0 : Int) ≤ i2 ∧ i2 < (↑n0 : Int)) ∧
                       SX.Ptr p0 fun (a15 : Addr) =>
                        ∃ (s16 : ByteArray),
                         w13.cell? ((a15.add (i2.toNat * (7 : Nat))).add (0 : Nat)) = some (Value.string s16) ∧
                          Wr IntKind.i64 (i2 - (1 : Int)) fun (i17 : Int) =>
                           ((0 : Int) ≤ i17 ∧ i17 < (↑n0 : Int)) ∧
                            SX.Ptr p0 fun (a18 : Addr) =>
                             ∃ (s19 : ByteArray),
                              w13.cell? ((a18.add (i17.toNat * (7 : Nat))).add (0 : Nat)) = some (Value.string s19) ∧
                               bif Op.bytesLess s16.toList s19.toList || s16.toList == s19.toList then R (Ending.returned (Value.bool false)) w13
                               else Wr IntKind.i64 (i2 + (1 : Int)) fun (i20 : Int) => I0 i20 w13 ∧ I1 i20 w13 < I1 i2 w3
                     else Wr IntKind.i64 (i2 + (1 : Int)) fun (i21 : Int) => I0 i21 w13 ∧ I1 i21 w13 < I1 i2 w3
     else R (Ending.returned (Value.bool (decide ((↑n0 : Int) < (201 : Int))))) w3
theorem vcTryd40 (p0 : Option Addr) (n0 c0 : Nat) (w : World) (R : Ending → World → Prop) : SX.vcFn Tryd.prog [(2, ⟨[(3, .int .i64)], [0], []⟩)] Tryd.f40 [.v (.slice p0 n0 c0)] [] w R = VCTryd40 p0 n0 c0 w R := by kernel_rfl
def VCTryd43 (p0 : Option Addr) (n0 c0 : Nat) (w : World) (R : Ending → World → Prop) : Prop :=
bif decide ((↑n0 : Int) > (200 : Int)) then R (Ending.returned (Value.bool false)) w
else
 ∃ (I0 : Int → World → Prop),
  ∃ (I1 : Int → World → Nat),
   I0 (0 : Int) w ∧
    ∀ (i2 : Int) (w3 : World),
     I0 i2 w3 →
      bif decide (i2 < (↑n0 : Int)) then
       ((0 : Int) ≤ i2 ∧ i2 < (↑n0 : Int)) ∧
        SX.Ptr p0 fun (a4 : Addr) =>
         ∃ (s5 : ByteArray),
          ∃ (i6 : Int),
           ∃ (i7 : Int),
            ∃ (i8 : Int),
             ∃ (i9 : Int),
              ∃ (i10 : Int),
               ∃ (i11 : Int),
                (w3.cell? ((a4.add (i2.toNat * (7 : Nat))).add (0 : Nat)) = some (Value.string s5) ∧
                  w3.cell? ((a4.add (i2.toNat * (7 : Nat))).add (1 : Nat)) = some (Value.int IntKind.i64 i6) ∧
                   w3.cell? ((a4.add (i2.toNat * (7 : Nat))).add (2 : Nat)) = some (Value.int IntKind.i64 i7) ∧
                    w3.cell? ((a4.add (i2.toNat * (7 : Nat))).add (3 : Nat)) = some (Value.int IntKind.i64 i8) ∧
                     w3.cell? ((a4.add (i2.toNat * (7 : Nat))).add (4 : Nat)) = some (Value.int IntKind.i64 i9) ∧
                      w3.cell? ((a4.add (i2.toNat * (7 : Nat))).add (5 : Nat)) = some (Value.int IntKind.u32 i10) ∧
                       w3.cell? ((a4.add (i2.toNat * (7 : Nat))).add (6 : Nat)) = some (Value.int IntKind.i64 i11) ∧ True) ∧
                 (Known
                   ((((((((w3.alloc
                                   (Obj.cells
                                    #[Value.string { data := #[] }, Value.int IntKind.i64 (0 : Int), Value.int IntKind.i64 (0 : Int), Value.int IntKind.i64 (0 : Int),
                                     Value.int IntKind.i64 (0 : Int), Value.int IntKind.u32 (0 : Int), Value.int IntKind.i64 (0 : Int)]
                                    (50 : Nat))).setCell
                                 {block := w3.heap.size, off := (0 : Nat) } (Value.string s5)).setCell
                               {block := w3.heap.size, off := (1 : Nat) } (Value.int IntKind.i64 i6)).setCell
                             {block := w3.heap.size, off := (2 : Nat) } (Value.int IntKind.i64 i7)).setCell
                           {block := w3.heap.size, off := (3 : Nat) } (Value.int IntKind.i64 i8)).setCell
                         {block := w3.heap.size, off := (4 : Nat) } (Value.int IntKind.i64 i9)).setCell
                       {block := w3.heap.size, off := (5 : Nat) } (Value.int IntKind.u32 i10)).setCell
                     {block := w3.heap.size, off := (6 : Nat) } (Value.int IntKind.i64 i11)).drew
                   [(w3.heap.size,
                     [((0 : Nat), Value.string s5), ((1 : Nat), Value.int IntKind.i64 i6), ((2 : Nat), Value.int IntKind.i64 i7), ((3 : Nat), Value.int IntKind.i64 i8),
                      ((4 : Nat), Value.int IntKind.i64 i9), ((5 : Nat), Value.int IntKind.u32 i10), ((6 : Nat), Value.int IntKind.i64 i11)])] →
                  Rets Tryd.prog (44 : Nat)
                   #[Value.agg
                     #[Value.string s5, Value.int IntKind.i64 i6, Value.int IntKind.i64 i7, Value.int IntKind.i64 i8, Value.int IntKind.i64 i9, Value.int IntKind.u32 i10, Value.int IntKind.i64 i11]]
                   ((((((((w3.alloc
                                   (Obj.cells
                                    #[Value.string { data := #[] }, Value.int IntKind.i64 (0 : Int), Value.int IntKind.i64 (0 : Int), Value.int IntKind.i64 (0 : Int),
                                     Value.int IntKind.i64 (0 : Int), Value.int IntKind.u32 (0 : Int), Value.int IntKind.i64 (0 : Int)]
                                    (50 : Nat))).setCell
                                 {block := w3.heap.size, off := (0 : Nat) } (Value.string s5)).setCell
                               {block := w3.heap.size, off := (1 : Nat) } (Value.int IntKind.i64 i6)).setCell
                             {block := w3.heap.size, off := (2 : Nat) } (Value.int IntKind.i64 i7)).setCell
                           {block := w3.heap.size, off := (3 : Nat) } (Value.int IntKind.i64 i8)).setCell
                         {block := w3.heap.size, off := (4 : Nat) } (Value.int IntKind.i64 i9)).setCell
                       {block := w3.heap.size, off := (5 : Nat) } (Value.int IntKind.u32 i10)).setCell
                     {block := w3.heap.size, off := (6 : Nat) } (Value.int IntKind.i64 i11)).drew
                   fun (v12 : Value) (w13 : World) =>
                   ∃ (t14 : Bool),
                    v12 = Value.bool t14 ∧
                     Keeps
                       ((((((((w3.alloc
                                      (Obj.cells
                                       #[Value.string { data := #[] }, Value.int IntKind.i64 (0 : Int), Value.int IntKind.i64 (0 : Int), Value.int IntKind.i64 (0 : Int),
                                        Value.int IntKind.i64 (0 : Int), Value.int IntKind.u32 (0 : Int), Value.int IntKind.i64 (0 : Int)]
                                       (50 : Nat))).setCell
                                     {block := w3.heap.size, off := (0 : Nat) } (Value.string s5)).setCell
                                   {block := w3.heap.size, off := (1 : Nat) } (Value.int IntKind.i64 i6)).setCell
                                 {block := w3.heap.size, off := (2 : Nat) } (Value.int IntKind.i64 i7)).setCell
                               {block := w3.heap.size, off := (3 : Nat) } (Value.int IntKind.i64 i8)).setCell
                             {block := w3.heap.size, off := (4 : Nat) } (Value.int IntKind.i64 i9)).setCell
                           {block := w3.heap.size, off := (5 : Nat) } (Value.int IntKind.u32 i10)).setCell
                         {block := w3.heap.size, off := (6 : Nat) } (Value.int IntKind.i64 i11)).drew
                       w13 [w3.heap.size] ∧
                      bif !t14 then
                       Known w13
                         [(w3.heap.size,
                           [((0 : Nat), Value.string s5), ((1 : Nat), Value.int IntKind.i64 i6), ((2 : Nat), Value.int IntKind.i64 i7), ((3 : Nat), Value.int IntKind.i64 i8),
                            ((4 : Nat), Value.int IntKind.i64 i9), ((5 : Nat), Value.int IntKind.u32 i10), ((6 : Nat), Value.int IntKind.i64 i11)])] →
                        R (Ending.returned (Value.bool false)) w13
                      else
                       bif decide (i2 > (0 : Int)) then
                        Wr IntKind.i64 (i2 - (1 : Int)) fun (i15 : Int) =>
                         ((0 : Int) ≤ i15 ∧ i15 < (↑n0 : Int)) ∧
                          SX.Ptr p0 fun (a16 : Addr) =>
                           ∃ (s17 : ByteArray),
                            w13.cell? ((a16.add (i15.toNat * (7 : Nat))).add (0 : Nat)) = some (Value.string s17) ∧
                             bif !Op.bytesLess s17.toList s5.toList then
                              Known w13
                                [(w3.heap.size,
                                  [((0 : Nat), Value.string s5), ((1 : Nat), Value.int IntKind.i64 i6), ((2 : Nat), Value.int IntKind.i64 i7), ((3 : Nat), Value.int IntKind.i64 i8),
                                   ((4 : Nat), Value.int IntKind.i64 i9), ((5 : Nat), Value.int IntKind.u32 i10), ((6 : Nat), Value.int IntKind.i64 i11)])] →
                               R (Ending.returned (Value.bool false)) w13
                             else Wr IntKind.i64 (i2 + (1 : Int)) fun (i18 : Int) => I0 i18 w13 ∧ I1 i18 w13 < I1 i2 w3
                       else Wr IntKind.i64 (i2 + (1 : Int)) fun (i19 : Int) => I0 i19 w13 ∧ I1 i19 w13 < I1 i2 w3)
      else R (Ending.returned (Value.bool true)) w3
theorem vcTryd43 (p0 : Option Addr) (n0 c0 : Nat) (w : World) (R : Ending → World → Prop) : SX.vcFn Tryd.prog [(4, ⟨[(10, .int .i64)], [0, 8, 9], []⟩)] Tryd.f43 [.v (.slice p0 n0 c0)] [] w R = VCTryd43 p0 n0 c0 w R := by kernel_rfl
def VCTryd44 (s : ByteArray) (a f r z u m : Int) (w : World) (R : Ending → World → Prop) : Prop :=
Known (w.alloc (Obj.cells #[Value.string s, Value.int IntKind.i64 a, Value.int IntKind.i64 f, Value.int IntKind.i64 r, Value.int IntKind.i64 z, Value.int IntKind.u32 u, Value.int IntKind.i64 m] (50 : Nat))).drew
  [(w.heap.size,
    [((0 : Nat), Value.string s), ((1 : Nat), Value.int IntKind.i64 a), ((2 : Nat), Value.int IntKind.i64 f), ((3 : Nat), Value.int IntKind.i64 r), ((4 : Nat), Value.int IntKind.i64 z),
     ((5 : Nat), Value.int IntKind.u32 u), ((6 : Nat), Value.int IntKind.i64 m)])] →
 Rets Tryd.prog (119 : Nat) #[Value.int IntKind.i64 a, Value.int IntKind.i64 (1024 : Int), Value.int IntKind.i64 (1073741824 : Int)]
  (w.alloc (Obj.cells #[Value.string s, Value.int IntKind.i64 a, Value.int IntKind.i64 f, Value.int IntKind.i64 r, Value.int IntKind.i64 z, Value.int IntKind.u32 u, Value.int IntKind.i64 m] (50 : Nat))).drew
  fun (v0 : Value) (w1 : World) =>
  ∃ (t2 : Bool),
   v0 = Value.bool t2 ∧
    Keeps (w.alloc (Obj.cells #[Value.string s, Value.int IntKind.i64 a, Value.int IntKind.i64 f, Value.int IntKind.i64 r, Value.int IntKind.i64 z, Value.int IntKind.u32 u, Value.int IntKind.i64 m] (50 : Nat))).drew
      w1 [w.heap.size] ∧
     bif t2 then
      Known w1
        [(w.heap.size,
          [((0 : Nat), Value.string s), ((1 : Nat), Value.int IntKind.i64 a), ((2 : Nat), Value.int IntKind.i64 f), ((3 : Nat), Value.int IntKind.i64 r), ((4 : Nat), Value.int IntKind.i64 z),
           ((5 : Nat), Value.int IntKind.u32 u), ((6 : Nat), Value.int IntKind.i64 m)])] →
       Rets Tryd.prog (52 : Nat) #[Value.string s] w1 fun (v3 : Value) (w4 : World) =>
        ∃ (i5 : Int),
         v3 = Value.int IntKind.i64 i5 ∧
          Keeps w1 w4 [w.heap.size] ∧
           w4.cell? { block := w.heap.size, off := (1 : Nat) } = some (Value.int IntKind.i64 a) ∧
            w4.cell? { block := w.heap.size, off := (2 : Nat) } = some (Value.int IntKind.i64 f) ∧
             Wr IntKind.i64 (a + i5) fun (i6 : Int) =>
              bif f == i6 then
               Known w4
                 [(w.heap.size,
                   [((0 : Nat), Value.string s), ((1 : Nat), Value.int IntKind.i64 a), ((2 : Nat), Value.int IntKind.i64 f), ((3 : Nat), Value.int IntKind.i64 r), ((4 : Nat), Value.int IntKind.i64 z),
                    ((5 : Nat), Value.int IntKind.u32 u), ((6 : Nat), Value.int IntKind.i64 m)])] →
                Rets Tryd.prog (104 : Nat) #[Value.string s] w4 fun (v7 : Value) (w8 : World) =>
                 ∃ (t9 : Bool),
                  v7 = Value.bool t9 ∧
                   Keeps w4 w8 [w.heap.size] ∧
                    bif t9 then
                     Known w8
                       [(w.heap.size,
                         [((0 : Nat), Value.string s), ((1 : Nat), Value.int IntKind.i64 a), ((2 : Nat), Value.int IntKind.i64 f), ((3 : Nat), Value.int IntKind.i64 r),
                          ((4 : Nat), Value.int IntKind.i64 z), ((5 : Nat), Value.int IntKind.u32 u), ((6 : Nat), Value.int IntKind.i64 m)])] →
                      Rets Tryd.prog (119 : Nat) #[Value.int IntKind.i64 m, Value.int IntKind.i64 (0 : Int), Value.int IntKind.i64 (2 : Int)] w8 fun (v10 : Value) (w11 : World) =>
                       ∃ (t12 : Bool),
                        v10 = Value.bool t12 ∧
                         Keeps w8 w11 [w.heap.size] ∧
                          bif t12 then
                           Known w11
                             [(w.heap.size,
                               [((0 : Nat), Value.string s), ((1 : Nat), Value.int IntKind.i64 a), ((2 : Nat), Value.int IntKind.i64 f), ((3 : Nat), Value.int IntKind.i64 r),
                                ((4 : Nat), Value.int IntKind.i64 z), ((5 : Nat), Value.int IntKind.u32 u), ((6 : Nat), Value.int IntKind.i64 m)])] →
                            Rets Tryd.prog (119 : Nat) #[Value.int IntKind.i64 r, Value.int IntKind.i64 (0 : Int), Value.int IntKind.i64 (262144 : Int)] w11 fun (v13 : Value) (w14 : World) =>
                             ∃ (t15 : Bool),
                              v13 = Value.bool t15 ∧
                               Keeps w11 w14 [w.heap.size] ∧
                                bif t15 then
                                 Known w14
                                   [(w.heap.size,
                                     [((0 : Nat), Value.string s), ((1 : Nat), Value.int IntKind.i64 a), ((2 : Nat), Value.int IntKind.i64 f), ((3 : Nat), Value.int IntKind.i64 r),
                                      ((4 : Nat), Value.int IntKind.i64 z), ((5 : Nat), Value.int IntKind.u32 u), ((6 : Nat), Value.int IntKind.i64 m)])] →
                                  Rets Tryd.prog (119 : Nat) #[Value.int IntKind.i64 z, Value.int IntKind.i64 (0 : Int), Value.int IntKind.i64 (65536 : Int)] w14
                                   fun (v16 : Value) (w17 : World) =>
                                   ∃ (t18 : Bool),
                                    v16 = Value.bool t18 ∧
                                     Keeps w14 w17 [w.heap.size] ∧
                                      (Known w17
                                        [(w.heap.size,
                                         [((0 : Nat), Value.string s), ((1 : Nat), Value.int IntKind.i64 a), ((2 : Nat), Value.int IntKind.i64 f),
                                          ((3 : Nat), Value.int IntKind.i64 r), ((4 : Nat), Value.int IntKind.i64 z), ((5 : Nat), Value.int IntKind.u32 u),
                                          ((6 : Nat), Value.int IntKind.i64 m)])] →
                                       R (Ending.returned (Value.bool t18)) w17)
                                else
                                 Known w14
                                   [(w.heap.size,
                                     [((0 : Nat), Value.string s), ((1 : Nat), Value.int IntKind.i64 a), ((2 : Nat), Value.int IntKind.i64 f), ((3 : Nat), Value.int IntKind.i64 r),
                                      ((4 : Nat), Value.int IntKind.i64 z), ((5 : Nat), Value.int IntKind.u32 u), ((6 : Nat), Value.int IntKind.i64 m)])] →
                                  R (Ending.returned (Value.bool false)) w14
                          else
                           Known w11
                             [(w.heap.size,
                               [((0 : Nat), Value.string s), ((1 : Nat), Value.int IntKind.i64 a), ((2 : Nat), Value.int IntKind.i64 f), ((3 : Nat), Value.int IntKind.i64 r),
                                ((4 : Nat), Value.int IntKind.i64 z), ((5 : Nat), Value.int IntKind.u32 u), ((6 : Nat), Value.int IntKind.i64 m)])] →
                            R (Ending.returned (Value.bool false)) w11
                    else
                     Known w8
                       [(w.heap.size,
                         [((0 : Nat), Value.string s), ((1 : Nat), Value.int IntKind.i64 a), ((2 : Nat), Value.int IntKind.i64 f), ((3 : Nat), Value.int IntKind.i64 r),
                          ((4 : Nat), Value.int IntKind.i64 z), ((5 : Nat), Value.int IntKind.u32 u), ((6 : Nat), Value.int IntKind.i64 m)])] →
                      R (Ending.returned (Value.bool false)) w8
              else
               Known w4
                 [(w.heap.size,
                   [((0 : Nat), Value.string s), ((1 : Nat), Value.int IntKind.i64 a), ((2 : Nat), Value.int IntKind.i64 f), ((3 : Nat), Value.int IntKind.i64 r), ((4 : Nat), Value.int IntKind.i64 z),
                    ((5 : Nat), Value.int IntKind.u32 u), ((6 : Nat), Value.int IntKind.i64 m)])] →
                R (Ending.returned (Value.bool false)) w4
     else
      Known w1
        [(w.heap.size,
          [((0 : Nat), Value.string s), ((1 : Nat), Value.int IntKind.i64 a), ((2 : Nat), Value.int IntKind.i64 f), ((3 : Nat), Value.int IntKind.i64 r), ((4 : Nat), Value.int IntKind.i64 z),
           ((5 : Nat), Value.int IntKind.u32 u), ((6 : Nat), Value.int IntKind.i64 m)])] →
       R (Ending.returned (Value.bool false)) w1
theorem vcTryd44 (s : ByteArray) (a f r z u m : Int) (w : World) (R : Ending → World → Prop) : SX.vcFn Tryd.prog [] Tryd.f44 [.v (.agg #[.string s, .int .i64 a, .int .i64 f, .int .i64 r, .int .i64 z, .int .u32 u, .int .i64 m])] [] w R = VCTryd44 s a f r z u m w R := by kernel_rfl
def VCTryd45 (s : ByteArray) (a f r z u m : Int) (w : World) (R : Ending → World → Prop) : Prop :=
Known (w.alloc (Obj.cells #[Value.string s, Value.int IntKind.i64 a, Value.int IntKind.i64 f, Value.int IntKind.i64 r, Value.int IntKind.i64 z, Value.int IntKind.u32 u, Value.int IntKind.i64 m] (50 : Nat)))
  [(w.heap.size,
    [((0 : Nat), Value.string s), ((1 : Nat), Value.int IntKind.i64 a), ((2 : Nat), Value.int IntKind.i64 f), ((3 : Nat), Value.int IntKind.i64 r), ((4 : Nat), Value.int IntKind.i64 z),
     ((5 : Nat), Value.int IntKind.u32 u), ((6 : Nat), Value.int IntKind.i64 m)])] →
 Rets Tryd.prog (29 : Nat) #[Value.string s]
  (w.alloc (Obj.cells #[Value.string s, Value.int IntKind.i64 a, Value.int IntKind.i64 f, Value.int IntKind.i64 r, Value.int IntKind.i64 z, Value.int IntKind.u32 u, Value.int IntKind.i64 m] (50 : Nat)))
  fun (v0 : Value) (w1 : World) =>
  ∃ (t2 : Bool),
   v0 = Value.bool t2 ∧
    Keeps (w.alloc (Obj.cells #[Value.string s, Value.int IntKind.i64 a, Value.int IntKind.i64 f, Value.int IntKind.i64 r, Value.int IntKind.i64 z, Value.int IntKind.u32 u, Value.int IntKind.i64 m] (50 : Nat))) w1
      [w.heap.size] ∧
     bif !t2 then
      Known w1
        [(w.heap.size,
          [((0 : Nat), Value.string s), ((1 : Nat), Value.int IntKind.i64 a), ((2 : Nat), Value.int IntKind.i64 f), ((3 : Nat), Value.int IntKind.i64 r), ((4 : Nat), Value.int IntKind.i64 z),
           ((5 : Nat), Value.int IntKind.u32 u), ((6 : Nat), Value.int IntKind.i64 m)])] →
       R (Ending.returned (Value.bool false)) w1
     else
      bif decide (m < (0 : Int)) then
       Known w1
         [(w.heap.size,
           [((0 : Nat), Value.string s), ((1 : Nat), Value.int IntKind.i64 a), ((2 : Nat), Value.int IntKind.i64 f), ((3 : Nat), Value.int IntKind.i64 r), ((4 : Nat), Value.int IntKind.i64 z),
            ((5 : Nat), Value.int IntKind.u32 u), ((6 : Nat), Value.int IntKind.i64 m)])] →
        R (Ending.returned (Value.bool false)) w1
      else
       bif decide (m > (2 : Int)) then
        Known w1
          [(w.heap.size,
            [((0 : Nat), Value.string s), ((1 : Nat), Value.int IntKind.i64 a), ((2 : Nat), Value.int IntKind.i64 f), ((3 : Nat), Value.int IntKind.i64 r), ((4 : Nat), Value.int IntKind.i64 z),
             ((5 : Nat), Value.int IntKind.u32 u), ((6 : Nat), Value.int IntKind.i64 m)])] →
         R (Ending.returned (Value.bool false)) w1
       else
        bif decide (a < (1024 : Int)) then
         Known w1
           [(w.heap.size,
             [((0 : Nat), Value.string s), ((1 : Nat), Value.int IntKind.i64 a), ((2 : Nat), Value.int IntKind.i64 f), ((3 : Nat), Value.int IntKind.i64 r), ((4 : Nat), Value.int IntKind.i64 z),
              ((5 : Nat), Value.int IntKind.u32 u), ((6 : Nat), Value.int IntKind.i64 m)])] →
          R (Ending.returned (Value.bool false)) w1
        else
         bif decide (a > (1073741824 : Int)) then
          Known w1
            [(w.heap.size,
              [((0 : Nat), Value.string s), ((1 : Nat), Value.int IntKind.i64 a), ((2 : Nat), Value.int IntKind.i64 f), ((3 : Nat), Value.int IntKind.i64 r), ((4 : Nat), Value.int IntKind.i64 z),
               ((5 : Nat), Value.int IntKind.u32 u), ((6 : Nat), Value.int IntKind.i64 m)])] →
           R (Ending.returned (Value.bool false)) w1
         else
          Wr IntKind.i64 (f - a) fun (i3 : Int) =>
           Wr IntKind.i64 ((22 : Int) + (↑s.size : Int)) fun (i4 : Int) =>
            bif i3 != i4 then
             Known w1
               [(w.heap.size,
                 [((0 : Nat), Value.string s), ((1 : Nat), Value.int IntKind.i64 a), ((2 : Nat), Value.int IntKind.i64 f), ((3 : Nat), Value.int IntKind.i64 r), ((4 : Nat), Value.int IntKind.i64 z),
                  ((5 : Nat), Value.int IntKind.u32 u), ((6 : Nat), Value.int IntKind.i64 m)])] →
              R (Ending.returned (Value.bool false)) w1
            else
             bif decide (r < (0 : Int)) then
              Known w1
                [(w.heap.size,
                  [((0 : Nat), Value.string s), ((1 : Nat), Value.int IntKind.i64 a), ((2 : Nat), Value.int IntKind.i64 f), ((3 : Nat), Value.int IntKind.i64 r), ((4 : Nat), Value.int IntKind.i64 z),
                   ((5 : Nat), Value.int IntKind.u32 u), ((6 : Nat), Value.int IntKind.i64 m)])] →
               R (Ending.returned (Value.bool false)) w1
             else
              bif decide (r > (262144 : Int)) then
               Known w1
                 [(w.heap.size,
                   [((0 : Nat), Value.string s), ((1 : Nat), Value.int IntKind.i64 a), ((2 : Nat), Value.int IntKind.i64 f), ((3 : Nat), Value.int IntKind.i64 r), ((4 : Nat), Value.int IntKind.i64 z),
                    ((5 : Nat), Value.int IntKind.u32 u), ((6 : Nat), Value.int IntKind.i64 m)])] →
                R (Ending.returned (Value.bool false)) w1
              else
               bif decide (z ≥ (0 : Int)) then
                Known w1
                  [(w.heap.size,
                    [((0 : Nat), Value.string s), ((1 : Nat), Value.int IntKind.i64 a), ((2 : Nat), Value.int IntKind.i64 f), ((3 : Nat), Value.int IntKind.i64 r),
                     ((4 : Nat), Value.int IntKind.i64 z), ((5 : Nat), Value.int IntKind.u32 u), ((6 : Nat), Value.int IntKind.i64 m)])] →
                 R (Ending.returned (Value.bool (decide (z ≤ (65536 : Int))))) w1
               else
                Known w1
                  [(w.heap.size,
                    [((0 : Nat), Value.string s), ((1 : Nat), Value.int IntKind.i64 a), ((2 : Nat), Value.int IntKind.i64 f), ((3 : Nat), Value.int IntKind.i64 r),
                     ((4 : Nat), Value.int IntKind.i64 z), ((5 : Nat), Value.int IntKind.u32 u), ((6 : Nat), Value.int IntKind.i64 m)])] →
                 R (Ending.returned (Value.bool false)) w1
theorem vcTryd45 (s : ByteArray) (a f r z u m : Int) (w : World) (R : Ending → World → Prop) : SX.vcFn Tryd.prog [] Tryd.f45 [.v (.agg #[.string s, .int .i64 a, .int .i64 f, .int .i64 r, .int .i64 z, .int .u32 u, .int .i64 m])] [] w R = VCTryd45 s a f r z u m w R := by kernel_rfl
def VCTryd46 (p0 : Option Addr) (n0 c0 : Nat) (w : World) (R : Ending → World → Prop) : Prop :=
∃ (I0 : Int → Int → World → Prop),
 ∃ (I1 : Int → Int → World → Nat),
  I0 (0 : Int) (0 : Int) w ∧
   ∀ (i2 i3 : Int) (w4 : World),
    I0 i2 i3 w4 →
     bif decide (i2 < (↑n0 : Int)) then
      ((0 : Int) ≤ i2 ∧ i2 < (↑n0 : Int)) ∧
       SX.Ptr p0 fun (a5 : Addr) =>
        ∃ (s6 : ByteArray),
         ∃ (i7 : Int),
          ∃ (i8 : Int),
           ∃ (i9 : Int),
            ∃ (i10 : Int),
             ∃ (i11 : Int),
              ∃ (i12 : Int),
               (w4.cell? ((a5.add (i2.toNat * (7 : Nat))).add (0 : Nat)) = some (Value.string s6) ∧
                 w4.cell? ((a5.add (i2.toNat * (7 : Nat))).add (1 : Nat)) = some (Value.int IntKind.i64 i7) ∧
                  w4.cell? ((a5.add (i2.toNat * (7 : Nat))).add (2 : Nat)) = some (Value.int IntKind.i64 i8) ∧
                   w4.cell? ((a5.add (i2.toNat * (7 : Nat))).add (3 : Nat)) = some (Value.int IntKind.i64 i9) ∧
                    w4.cell? ((a5.add (i2.toNat * (7 : Nat))).add (4 : Nat)) = some (Value.int IntKind.i64 i10) ∧
                     w4.cell? ((a5.add (i2.toNat * (7 : Nat))).add (5 : Nat)) = some (Value.int IntKind.u32 i11) ∧
                      w4.cell? ((a5.add (i2.toNat * (7 : Nat))).add (6 : Nat)) = some (Value.int IntKind.i64 i12) ∧ True) ∧
                Wr IntKind.i64 ((18 : Int) + (↑s6.size : Int)) fun (i13 : Int) =>
                 Wr IntKind.i64 (i3 + i13) fun (i14 : Int) =>
                  Wr IntKind.i64 (i2 + (1 : Int)) fun (i15 : Int) =>
                   I0 i15 i14
                     ((((((((w4.alloc
                                    (Obj.cells
                                     #[Value.string { data := #[] }, Value.int IntKind.i64 (0 : Int), Value.int IntKind.i64 (0 : Int), Value.int IntKind.i64 (0 : Int),
                                      Value.int IntKind.i64 (0 : Int), Value.int IntKind.u32 (0 : Int), Value.int IntKind.i64 (0 : Int)]
                                     (50 : Nat))).setCell
                                  {block := w4.heap.size, off := (0 : Nat) } (Value.string s6)).setCell
                                {block := w4.heap.size, off := (1 : Nat) } (Value.int IntKind.i64 i7)).setCell
                              {block := w4.heap.size, off := (2 : Nat) } (Value.int IntKind.i64 i8)).setCell
                            {block := w4.heap.size, off := (3 : Nat) } (Value.int IntKind.i64 i9)).setCell
                          {block := w4.heap.size, off := (4 : Nat) } (Value.int IntKind.i64 i10)).setCell
                        {block := w4.heap.size, off := (5 : Nat) } (Value.int IntKind.u32 i11)).setCell
                      {block := w4.heap.size, off := (6 : Nat) } (Value.int IntKind.i64 i12)) ∧
                    I1 i15 i14
                      ((((((((w4.alloc
                                     (Obj.cells
                                      #[Value.string { data := #[] }, Value.int IntKind.i64 (0 : Int), Value.int IntKind.i64 (0 : Int), Value.int IntKind.i64 (0 : Int),
                                       Value.int IntKind.i64 (0 : Int), Value.int IntKind.u32 (0 : Int), Value.int IntKind.i64 (0 : Int)]
                                      (50 : Nat))).setCell
                                   {block := w4.heap.size, off := (0 : Nat) } (Value.string s6)).setCell
                                 {block := w4.heap.size, off := (1 : Nat) } (Value.int IntKind.i64 i7)).setCell
                               {block := w4.heap.size, off := (2 : Nat) } (Value.int IntKind.i64 i8)).setCell
                             {block := w4.heap.size, off := (3 : Nat) } (Value.int IntKind.i64 i9)).setCell
                           {block := w4.heap.size, off := (4 : Nat) } (Value.int IntKind.i64 i10)).setCell
                         {block := w4.heap.size, off := (5 : Nat) } (Value.int IntKind.u32 i11)).setCell
                       {block := w4.heap.size, off := (6 : Nat) } (Value.int IntKind.i64 i12)) <
                     I1 i2 i3 w4
     else R (Ending.returned (Value.int IntKind.i64 i3)) w4
theorem vcTryd46 (p0 : Option Addr) (n0 c0 : Nat) (w : World) (R : Ending → World → Prop) : SX.vcFn Tryd.prog [(3, ⟨[(8, .int .i64), (3, .int .i64)], [6, 7], []⟩)] Tryd.f46 [.v (.slice p0 n0 c0)] [] w R = VCTryd46 p0 n0 c0 w R := by kernel_rfl
def VCTryd52 (p0 : ByteArray) (w : World) (R : Ending → World → Prop) : Prop :=
Wr IntKind.i64 ((22 : Int) + (↑p0.size : Int)) fun (i0 : Int) => R (Ending.returned (Value.int IntKind.i64 i0)) w
theorem vcTryd52 (p0 : ByteArray) (w : World) (R : Ending → World → Prop) : SX.vcFn Tryd.prog [] Tryd.f52 [.v (.string p0)] [] w R = VCTryd52 p0 w R := by kernel_rfl
def VCTryd104 (p0 : ByteArray) (w : World) (R : Ending → World → Prop) : Prop :=
bif decide ((↑p0.size : Int) ≤ (64 : Int)) then
 Rets Tryd.prog (154 : Nat) #[Value.string p0, Value.string { data := #[(47 : UInt8)] }] w fun (v0 : Value) (w1 : World) =>
  ∃ (q2 : Option Addr),
   ∃ (n3 : Nat),
    ∃ (n4 : Nat),
     v0 = Value.slice q2 n3 n4 ∧
      Keeps w w1 [] ∧
       Rets Tryd.prog (153 : Nat) #[Value.slice q2 n3 n4, Value.func (Fn.func (155 : Nat)) #[] #[]] w1 fun (v5 : Value) (w6 : World) =>
        ∃ (t7 : Bool), v5 = Value.bool t7 ∧ Keeps w1 w6 [] ∧ R (Ending.returned (Value.bool !t7)) w6
else R (Ending.returned (Value.bool false)) w
theorem vcTryd104 (p0 : ByteArray) (w : World) (R : Ending → World → Prop) : SX.vcFn Tryd.prog [] Tryd.f104 [.v (.string p0)] [] w R = VCTryd104 p0 w R := by kernel_rfl
def VCTryd107 (p0 : ByteArray) (w : World) (R : Ending → World → Prop) : Prop :=
∃ (I0 : Int → Int → Option Addr → Nat → Nat → World → Prop),
 ∃ (I1 : Int → Int → Option Addr → Nat → Nat → World → Nat),
  I0 (0 : Int) (0 : Int) none (0 : Nat) (0 : Nat) w ∧
   ∀ (i2 i3 : Int) (q4 : Option Addr) (n5 n6 : Nat) (w7 : World),
    I0 i2 i3 q4 n5 n6 w7 →
     bif decide (i2 < (↑p0.size : Int)) then
      ((0 : Int) ≤ i2 ∧ i2 < (↑p0.size : Int)) ∧
       bif byteAt p0 i2 == (47 : Int) then
        ((0 : Int) ≤ i2 ∧ i2 ≤ (↑p0.size : Int)) ∧
         ((0 : Int) ≤ i3 ∧ i3 ≤ (↑i2.toNat : Int)) ∧
          Runs Tryd.prog (Builtin.append_ #[(46 : Nat), (46 : Nat)] (46 : Nat) #[Value.slice q4 n5 n6, Value.slice (some { block := w7.heap.size, off := (0 : Nat) }) (1 : Nat) (1 : Nat)])
           (w7.alloc (Obj.cells #[Value.string (p0.extract i3.toNat i2.toNat)] (9 : Nat))) fun (v8 : Value) (w9 : World) =>
           ∃ (q10 : Option Addr),
            ∃ (n11 : Nat),
             ∃ (n12 : Nat),
              v8 = Value.slice q10 n11 n12 ∧
               Keeps (w7.alloc (Obj.cells #[Value.string (p0.extract i3.toNat i2.toNat)] (9 : Nat))) w9 [] ∧
                Wr IntKind.i64 (i2 + (1 : Int)) fun (i13 : Int) => Wr IntKind.i64 (i2 + (1 : Int)) fun (i14 : Int) => I0 i14 i13 q10 n11 n12 w9 ∧ I1 i14 i13 q10 n11 n12 w9 < I1 i2 i3 q4 n5 n6 w7
       else Wr IntKind.i64 (i2 + (1 : Int)) fun (i15 : Int) => I0 i15 i3 q4 n5 n6 w7 ∧ I1 i15 i3 q4 n5 n6 w7 < I1 i2 i3 q4 n5 n6 w7
     else
      ((0 : Int) ≤ i3 ∧ i3 ≤ (↑p0.size : Int)) ∧
       Runs Tryd.prog (Builtin.append_ #[(46 : Nat), (46 : Nat)] (46 : Nat) #[Value.slice q4 n5 n6, Value.slice (some { block := w7.heap.size, off := (0 : Nat) }) (1 : Nat) (1 : Nat)])
        (w7.alloc (Obj.cells #[Value.string (p0.extract i3.toNat p0.size)] (9 : Nat))) fun (v16 : Value) (w17 : World) =>
        ∃ (q18 : Option Addr),
         ∃ (n19 : Nat),
          ∃ (n20 : Nat), v16 = Value.slice q18 n19 n20 ∧ Keeps (w7.alloc (Obj.cells #[Value.string (p0.extract i3.toNat p0.size)] (9 : Nat))) w17 [] ∧ R (Ending.returned (Value.slice q18 n19 n20)) w17
theorem vcTryd107 (p0 : ByteArray) (w : World) (R : Ending → World → Prop) : SX.vcFn Tryd.prog [(4, ⟨[(5, .int .i64), (4, .int .i64), (3, .slice)], [0], []⟩)] Tryd.f107 [.v (.string p0)] [] w R = VCTryd107 p0 w R := by kernel_rfl
def VCTryd119 (p0 : Int) (p1 : Int) (p2 : Int) (w : World) (R : Ending → World → Prop) : Prop :=
bif decide (p0 ≥ p1) then R (Ending.returned (Value.bool (decide (p0 ≤ p2)))) w else R (Ending.returned (Value.bool false)) w
theorem vcTryd119 (p0 : Int) (p1 : Int) (p2 : Int) (w : World) (R : Ending → World → Prop) : SX.vcFn Tryd.prog [] Tryd.f119 [.v (.int .i64 p0), .v (.int .i64 p1), .v (.int .i64 p2)] [] w R = VCTryd119 p0 p1 p2 w R := by kernel_rfl
def VCTryd153 (p0 : Option Addr) (n0 c0 : Nat) (p1 : Value) (w : World) (R : Ending → World → Prop) : Prop :=
Rets Tryd.prog (183 : Nat) #[Value.slice p0 n0 c0, p1] w fun (v0 : Value) (w1 : World) => ∃ (i2 : Int), v0 = Value.int IntKind.i64 i2 ∧ Keeps w w1 [] ∧ R (Ending.returned (Value.bool (decide (i2 ≥ (0 : Int))))) w1
theorem vcTryd153 (p0 : Option Addr) (n0 c0 : Nat) (p1 : Value) (w : World) (R : Ending → World → Prop) : SX.vcFn Tryd.prog [] Tryd.f153 [.v (.slice p0 n0 c0), .v p1] [] w R = VCTryd153 p0 n0 c0 p1 w R := by kernel_rfl
def VCTryd155 (p0 : ByteArray) (w : World) (R : Ending → World → Prop) : Prop :=
Rets Tryd.prog (156 : Nat) #[Value.string p0] w fun (v0 : Value) (w1 : World) => ∃ (t2 : Bool), v0 = Value.bool t2 ∧ Keeps w w1 [] ∧ R (Ending.returned (Value.bool !t2)) w1
theorem vcTryd155 (p0 : ByteArray) (w : World) (R : Ending → World → Prop) : SX.vcFn Tryd.prog [] Tryd.f155 [.v (.string p0)] [] w R = VCTryd155 p0 w R := by kernel_rfl
def VCTryd156 (p0 : ByteArray) (w : World) (R : Ending → World → Prop) : Prop :=
Runs Tryd.prog (Instr.range (9 : Nat) (Value.string p0)) w fun (v0 : Value) (w1 : World) =>
 ∃ (q2 : Option Addr),
  v0 = Value.pointer q2 ∧
   Keeps w w1 [] ∧
    ∃ (I3 : World → Prop),
     ∃ (I4 : World → Nat),
      I3 w1 ∧
       ∀ (w5 : World),
        I3 w5 →
         Runs Tryd.prog (Instr.next (Value.pointer q2) true (0 : Nat)) w5 fun (v6 : Value) (w7 : World) =>
          (v6 = Value.tuple #[Value.bool false] ∧
            Keeps w5 w7 [] ∧
             bif !p0.toList == ({ data := #[] } : ByteArray).toList then
              bif !p0.toList == ({ data := #[(46 : UInt8)] } : ByteArray).toList then R (Ending.returned (Value.bool !p0.toList == ({ data := #[(46 : UInt8), (46 : UInt8)] } : ByteArray).toList)) w7
              else R (Ending.returned (Value.bool false)) w7
             else R (Ending.returned (Value.bool false)) w7) ∨
           ∃ (i8 : Int),
            ∃ (i9 : Int),
             v6 = Value.tuple #[Value.bool true, Value.int IntKind.i64 i8, Value.int IntKind.i32 i9] ∧
              Keeps w5 w7 [] ∧
               bif decide (i9 < (33 : Int)) then R (Ending.returned (Value.bool false)) w7 else bif decide (i9 > (126 : Int)) then R (Ending.returned (Value.bool false)) w7 else I3 w7 ∧ I4 w7 < I4 w5
theorem vcTryd156 (p0 : ByteArray) (w : World) (R : Ending → World → Prop) : SX.vcFn Tryd.prog [(2, ⟨[], [0, 6], []⟩)] Tryd.f156 [.v (.string p0)] [] w R = VCTryd156 p0 w R := by kernel_rfl
def VCTryd183 (p0 : Option Addr) (n0 c0 : Nat) (p1 : Value) (w : World) (R : Ending → World → Prop) : Prop :=
∃ (I0 : Int → World → Prop),
 ∃ (I1 : Int → World → Nat),
  I0 (0 : Int) w ∧
   ∀ (i2 : Int) (w3 : World),
    I0 i2 w3 →
     bif decide (i2 < (↑n0 : Int)) then
      ((0 : Int) ≤ i2 ∧ i2 < (↑n0 : Int)) ∧
       SX.Ptr p0 fun (a4 : Addr) =>
        ∃ (s5 : ByteArray),
         w3.cell? (a4.add (i2.toNat * (1 : Nat))) = some (Value.string s5) ∧
          CallsVal Tryd.prog p1 #[Value.string s5] w3 fun (v6 : Value) (w7 : World) =>
           ∃ (t8 : Bool),
            v6 = Value.bool t8 ∧ Keeps w3 w7 [] ∧ bif t8 then R (Ending.returned (Value.int IntKind.i64 i2)) w7 else Wr IntKind.i64 (i2 + (1 : Int)) fun (i9 : Int) => I0 i9 w7 ∧ I1 i9 w7 < I1 i2 w3
     else R (Ending.returned (Value.int IntKind.i64 (-1 : Int))) w3
theorem vcTryd183 (p0 : Option Addr) (n0 c0 : Nat) (p1 : Value) (w : World) (R : Ending → World → Prop) : SX.vcFn Tryd.prog [(2, ⟨[(8, .int .i64)], [0, 1, 7], []⟩)] Tryd.f183 [.v (.slice p0 n0 c0), .v p1] [] w R = VCTryd183 p0 n0 c0 p1 w R := by kernel_rfl
end Go.Proofs.YtbpknjldphckgaaDoor
