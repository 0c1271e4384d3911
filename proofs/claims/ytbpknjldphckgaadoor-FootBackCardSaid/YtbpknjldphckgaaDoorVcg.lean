/- The conditions of functions, as the executor computes them: each is equal to what 'vcFn' says. -/
import Derived.Test.YtbpknjldphckgaaDoorSxLib
import Derived.Test.YtbpknjldphckgaaDoorProg
namespace Go.Proofs.YtbpknjldphckgaaDoor
open Go Go.SX Go.Proofs
set_option maxRecDepth 100000
set_option linter.unusedVariables false
def VCTryd36 (p0 : Option Addr) (n0 c0 : Nat) (w : World) (R : Ending → World → Prop) : Prop :=
∃ (I0 : Int → World → Prop),
 ∃ (I1 : Int → World → Nat),
  I0 (0 : Int) w ∧
   ∀ (i2 : Int) (w3 : World),
    I0 i2 w3 →
     bif decide (i2 < (↑n0 : Int)) then
      bif decide (i2 < (300 : Int)) then
       ((0 : Int) ≤ i2 ∧ i2 < (↑n0 : Int)) ∧
        SX.Ptr p0 fun (a4 : Addr) =>
         ∃ (s5 : ByteArray),
          w3.cell? ((a4.add (i2.toNat * (7 : Nat))).add (0 : Nat)) = some (Value.string s5) ∧
           bif decide ((↑s5.size : Int) > (200 : Int)) then R (Ending.returned (Value.bool true)) w3 else Wr IntKind.i64 (i2 + (1 : Int)) fun (i6 : Int) => I0 i6 w3 ∧ I1 i6 w3 < I1 i2 w3
      else R (Ending.returned (Value.bool (decide ((↑n0 : Int) > (250 : Int))))) w3
     else R (Ending.returned (Value.bool (decide ((↑n0 : Int) > (250 : Int))))) w3
theorem vcTryd36 (p0 : Option Addr) (n0 c0 : Nat) (w : World) (R : Ending → World → Prop) : SX.vcFn Tryd.prog [(2, ⟨[(3, .int .i64)], [0], []⟩)] Tryd.f36 [.v (.slice p0 n0 c0)] [] w R = VCTryd36 p0 n0 c0 w R := by kernel_rfl
def VCTryd37 (w : World) (R : Ending → World → Prop) : Prop :=
Known
  (((((((((w.alloc
                   (Obj.cells
                    #[Value.string { data := #[] }, Value.int IntKind.i64 (0 : Int), Value.int IntKind.i64 (0 : Int), Value.int IntKind.i64 (0 : Int), Value.int IntKind.i64 (0 : Int),
                     Value.int IntKind.u32 (0 : Int), Value.int IntKind.i64 (0 : Int)]
                    (50 : Nat))).setCell
                 {block := w.heap.size, off := (0 : Nat) } (Value.string { data := #[(97 : UInt8)] })).setCell
               {block := w.heap.size, off := (1 : Nat) } (Value.int IntKind.i64 (1024 : Int))).setCell
             {block := w.heap.size, off := (2 : Nat) } (Value.int IntKind.i64 (1047 : Int))).setCell
           {block := w.heap.size, off := (3 : Nat) } (Value.int IntKind.i64 (0 : Int))).setCell
         {block := w.heap.size, off := (4 : Nat) } (Value.int IntKind.i64 (0 : Int))).setCell
       {block := w.heap.size, off := (5 : Nat) } (Value.int IntKind.u32 (0 : Int))).setCell
     {block := w.heap.size, off := (6 : Nat) } (Value.int IntKind.i64 (0 : Int))).alloc
   (Obj.cells
    #[Value.string { data := #[(97 : UInt8)] }, Value.int IntKind.i64 (1024 : Int), Value.int IntKind.i64 (1047 : Int), Value.int IntKind.i64 (0 : Int), Value.int IntKind.i64 (0 : Int),
     Value.int IntKind.u32 (0 : Int), Value.int IntKind.i64 (0 : Int)]
    (50 : Nat)))
  [(w.heap.size,
    [((0 : Nat), Value.string { data := #[(97 : UInt8)] }), ((1 : Nat), Value.int IntKind.i64 (1024 : Int)), ((2 : Nat), Value.int IntKind.i64 (1047 : Int)), ((3 : Nat), Value.int IntKind.i64 (0 : Int)),
     ((4 : Nat), Value.int IntKind.i64 (0 : Int)), ((5 : Nat), Value.int IntKind.u32 (0 : Int)), ((6 : Nat), Value.int IntKind.i64 (0 : Int))])] →
 Rets Tryd.prog (41 : Nat)
  #[Value.slice
    (some
     {
      block :=
       ((((((((w.alloc
                        (Obj.cells
                         #[Value.string { data := #[] }, Value.int IntKind.i64 (0 : Int), Value.int IntKind.i64 (0 : Int), Value.int IntKind.i64 (0 : Int), Value.int IntKind.i64 (0 : Int),
                          Value.int IntKind.u32 (0 : Int), Value.int IntKind.i64 (0 : Int)]
                         (50 : Nat))).setCell
                      {block := w.heap.size, off := (0 : Nat) } (Value.string { data := #[(97 : UInt8)] })).setCell
                    {block := w.heap.size, off := (1 : Nat) } (Value.int IntKind.i64 (1024 : Int))).setCell
                  {block := w.heap.size, off := (2 : Nat) } (Value.int IntKind.i64 (1047 : Int))).setCell
                {block := w.heap.size, off := (3 : Nat) } (Value.int IntKind.i64 (0 : Int))).setCell
              {block := w.heap.size, off := (4 : Nat) } (Value.int IntKind.i64 (0 : Int))).setCell
            {block := w.heap.size, off := (5 : Nat) } (Value.int IntKind.u32 (0 : Int))).setCell
          {block := w.heap.size, off := (6 : Nat) } (Value.int IntKind.i64 (0 : Int))).heap.size,
      off := (0 : Nat) })
    (1 : Nat) (1 : Nat)]
  (((((((((w.alloc
                   (Obj.cells
                    #[Value.string { data := #[] }, Value.int IntKind.i64 (0 : Int), Value.int IntKind.i64 (0 : Int), Value.int IntKind.i64 (0 : Int), Value.int IntKind.i64 (0 : Int),
                     Value.int IntKind.u32 (0 : Int), Value.int IntKind.i64 (0 : Int)]
                    (50 : Nat))).setCell
                 {block := w.heap.size, off := (0 : Nat) } (Value.string { data := #[(97 : UInt8)] })).setCell
               {block := w.heap.size, off := (1 : Nat) } (Value.int IntKind.i64 (1024 : Int))).setCell
             {block := w.heap.size, off := (2 : Nat) } (Value.int IntKind.i64 (1047 : Int))).setCell
           {block := w.heap.size, off := (3 : Nat) } (Value.int IntKind.i64 (0 : Int))).setCell
         {block := w.heap.size, off := (4 : Nat) } (Value.int IntKind.i64 (0 : Int))).setCell
       {block := w.heap.size, off := (5 : Nat) } (Value.int IntKind.u32 (0 : Int))).setCell
     {block := w.heap.size, off := (6 : Nat) } (Value.int IntKind.i64 (0 : Int))).alloc
   (Obj.cells
    #[Value.string { data := #[(97 : UInt8)] }, Value.int IntKind.i64 (1024 : Int), Value.int IntKind.i64 (1047 : Int), Value.int IntKind.i64 (0 : Int), Value.int IntKind.i64 (0 : Int),
     Value.int IntKind.u32 (0 : Int), Value.int IntKind.i64 (0 : Int)]
    (50 : Nat)))
  fun (v0 : Value) (w1 : World) =>
  ∃ (q2 : Option Addr),
   ∃ (n3 : Nat),
    ∃ (n4 : Nat),
     ∃ (i5 : Int),
      v0 = Value.tuple #[Value.slice q2 n3 n4, Value.int IntKind.i64 i5] ∧
       Keeps
         (((((((((w.alloc
                          (Obj.cells
                           #[Value.string { data := #[] }, Value.int IntKind.i64 (0 : Int), Value.int IntKind.i64 (0 : Int), Value.int IntKind.i64 (0 : Int), Value.int IntKind.i64 (0 : Int),
                            Value.int IntKind.u32 (0 : Int), Value.int IntKind.i64 (0 : Int)]
                           (50 : Nat))).setCell
                        {block := w.heap.size, off := (0 : Nat) } (Value.string { data := #[(97 : UInt8)] })).setCell
                      {block := w.heap.size, off := (1 : Nat) } (Value.int IntKind.i64 (1024 : Int))).setCell
                    {block := w.heap.size, off := (2 : Nat) } (Value.int IntKind.i64 (1047 : Int))).setCell
                  {block := w.heap.size, off := (3 : Nat) } (Value.int IntKind.i64 (0 : Int))).setCell
                {block := w.heap.size, off := (4 : Nat) } (Value.int IntKind.i64 (0 : Int))).setCell
              {block := w.heap.size, off := (5 : Nat) } (Value.int IntKind.u32 (0 : Int))).setCell
            {block := w.heap.size, off := (6 : Nat) } (Value.int IntKind.i64 (0 : Int))).alloc
          (Obj.cells
           #[Value.string { data := #[(97 : UInt8)] }, Value.int IntKind.i64 (1024 : Int), Value.int IntKind.i64 (1047 : Int), Value.int IntKind.i64 (0 : Int), Value.int IntKind.i64 (0 : Int),
            Value.int IntKind.u32 (0 : Int), Value.int IntKind.i64 (0 : Int)]
           (50 : Nat)))
         w1 [w.heap.size] ∧
        (Known w1
          [(w.heap.size,
            [((0 : Nat), Value.string { data := #[(97 : UInt8)] }), ((1 : Nat), Value.int IntKind.i64 (1024 : Int)), ((2 : Nat), Value.int IntKind.i64 (1047 : Int)),
             ((3 : Nat), Value.int IntKind.i64 (0 : Int)), ((4 : Nat), Value.int IntKind.i64 (0 : Int)), ((5 : Nat), Value.int IntKind.u32 (0 : Int)), ((6 : Nat), Value.int IntKind.i64 (0 : Int))])] →
         Rets Tryd.prog (117 : Nat) #[Value.slice q2 n3 n4, Value.int IntKind.i64 (1 : Int)] w1 fun (v6 : Value) (w7 : World) =>
          ∃ (q8 : Option Addr),
           ∃ (n9 : Nat),
            ∃ (n10 : Nat),
             ∃ (i11 : Int),
              v6 = Value.tuple #[Value.slice q8 n9 n10, Value.int IntKind.i64 i11] ∧
               Keeps w1 w7 [w.heap.size] ∧
                bif i5 == (0 : Int) then
                 bif i11 == (0 : Int) then
                  bif (↑n3 : Int) == (19 : Int) then
                   bif (↑n9 : Int) == (1 : Int) then
                    ((0 : Int) ≤ (0 : Int) ∧ (0 : Int) < (↑n9 : Int)) ∧
                     SX.Ptr q8 fun (a12 : Addr) =>
                      ∃ (s13 : ByteArray),
                       ∃ (i14 : Int),
                        ∃ (i15 : Int),
                         ∃ (i16 : Int),
                          ∃ (i17 : Int),
                           ∃ (i18 : Int),
                            ∃ (i19 : Int),
                             (w7.drew.cell? ((a12.add (0 : Nat)).add (0 : Nat)) = some (Value.string s13) ∧
                               w7.drew.cell? ((a12.add (0 : Nat)).add (1 : Nat)) = some (Value.int IntKind.i64 i14) ∧
                                w7.drew.cell? ((a12.add (0 : Nat)).add (2 : Nat)) = some (Value.int IntKind.i64 i15) ∧
                                 w7.drew.cell? ((a12.add (0 : Nat)).add (3 : Nat)) = some (Value.int IntKind.i64 i16) ∧
                                  w7.drew.cell? ((a12.add (0 : Nat)).add (4 : Nat)) = some (Value.int IntKind.i64 i17) ∧
                                   w7.drew.cell? ((a12.add (0 : Nat)).add (5 : Nat)) = some (Value.int IntKind.u32 i18) ∧
                                    w7.drew.cell? ((a12.add (0 : Nat)).add (6 : Nat)) = some (Value.int IntKind.i64 i19) ∧ True) ∧
                              true = true ∧
                               (Known w7.drew
                                 [(w.heap.size,
                                   [((0 : Nat), Value.string { data := #[(97 : UInt8)] }), ((1 : Nat), Value.int IntKind.i64 (1024 : Int)),
                                    ((2 : Nat), Value.int IntKind.i64 (1047 : Int)), ((3 : Nat), Value.int IntKind.i64 (0 : Int)), ((4 : Nat), Value.int IntKind.i64 (0 : Int)),
                                    ((5 : Nat), Value.int IntKind.u32 (0 : Int)), ((6 : Nat), Value.int IntKind.i64 (0 : Int))])] →
                                R
                                 (Ending.returned
                                  (Value.bool
                                   (s13.toList == ({ data := #[(97 : UInt8)] } : ByteArray).toList &&
                                    (i14 == (1024 : Int) && (i15 == (1047 : Int) && (i16 == (0 : Int) && (i17 == (0 : Int) && (i18 == (0 : Int) && i19 == (0 : Int)))))))))
                                 w7.drew)
                   else
                    Known w7.drew
                      [(w.heap.size,
                        [((0 : Nat), Value.string { data := #[(97 : UInt8)] }), ((1 : Nat), Value.int IntKind.i64 (1024 : Int)), ((2 : Nat), Value.int IntKind.i64 (1047 : Int)),
                         ((3 : Nat), Value.int IntKind.i64 (0 : Int)), ((4 : Nat), Value.int IntKind.i64 (0 : Int)), ((5 : Nat), Value.int IntKind.u32 (0 : Int)),
                         ((6 : Nat), Value.int IntKind.i64 (0 : Int))])] →
                     R (Ending.returned (Value.bool false)) w7.drew
                  else
                   Known w7.drew
                     [(w.heap.size,
                       [((0 : Nat), Value.string { data := #[(97 : UInt8)] }), ((1 : Nat), Value.int IntKind.i64 (1024 : Int)), ((2 : Nat), Value.int IntKind.i64 (1047 : Int)),
                        ((3 : Nat), Value.int IntKind.i64 (0 : Int)), ((4 : Nat), Value.int IntKind.i64 (0 : Int)), ((5 : Nat), Value.int IntKind.u32 (0 : Int)),
                        ((6 : Nat), Value.int IntKind.i64 (0 : Int))])] →
                    R (Ending.returned (Value.bool false)) w7.drew
                 else
                  Known w7.drew
                    [(w.heap.size,
                      [((0 : Nat), Value.string { data := #[(97 : UInt8)] }), ((1 : Nat), Value.int IntKind.i64 (1024 : Int)), ((2 : Nat), Value.int IntKind.i64 (1047 : Int)),
                       ((3 : Nat), Value.int IntKind.i64 (0 : Int)), ((4 : Nat), Value.int IntKind.i64 (0 : Int)), ((5 : Nat), Value.int IntKind.u32 (0 : Int)),
                       ((6 : Nat), Value.int IntKind.i64 (0 : Int))])] →
                   R (Ending.returned (Value.bool false)) w7.drew
                else
                 Known w7.drew
                   [(w.heap.size,
                     [((0 : Nat), Value.string { data := #[(97 : UInt8)] }), ((1 : Nat), Value.int IntKind.i64 (1024 : Int)), ((2 : Nat), Value.int IntKind.i64 (1047 : Int)),
                      ((3 : Nat), Value.int IntKind.i64 (0 : Int)), ((4 : Nat), Value.int IntKind.i64 (0 : Int)), ((5 : Nat), Value.int IntKind.u32 (0 : Int)),
                      ((6 : Nat), Value.int IntKind.i64 (0 : Int))])] →
                  R (Ending.returned (Value.bool false)) w7.drew)
theorem vcTryd37 (w : World) (R : Ending → World → Prop) : SX.vcFn Tryd.prog [] Tryd.f37 [] [] w R = VCTryd37  w R := by kernel_rfl
def VCTryd38 (p0 : Option Addr) (n0 c0 : Nat) (p1 : Option Addr) (n1 c1 : Nat) (w : World) (R : Ending → World → Prop) : Prop :=
Rets Tryd.prog (118 : Nat) #[Value.slice p0 n0 c0, Value.slice p1 n1 c1] w fun (v0 : Value) (w1 : World) => ∃ (t2 : Bool), v0 = Value.bool t2 ∧ Keeps w w1 [] ∧ R (Ending.returned (Value.bool t2)) w1
theorem vcTryd38 (p0 : Option Addr) (n0 c0 : Nat) (p1 : Option Addr) (n1 c1 : Nat) (w : World) (R : Ending → World → Prop) : SX.vcFn Tryd.prog [] Tryd.f38 [.v (.slice p0 n0 c0), .v (.slice p1 n1 c1)] [] w R = VCTryd38 p0 n0 c0 p1 n1 c1 w R := by kernel_rfl
def VCTryd39 (p0 : Option Addr) (n0 c0 : Nat) (p1 : Option Addr) (n1 c1 : Nat) (w : World) (R : Ending → World → Prop) : Prop :=
bif (↑n0 : Int) != (↑n1 : Int) then R (Ending.returned (Value.bool false)) w
else
 ∃ (I0 : Int → World → Prop),
  ∃ (I1 : Int → World → Nat),
   I0 (0 : Int) w ∧
    ∀ (i2 : Int) (w3 : World),
     I0 i2 w3 →
      bif decide (i2 < (↑n0 : Int)) then
       ((0 : Int) ≤ i2 ∧ i2 < (↑n0 : Int)) ∧
        SX.Ptr p0 fun (a4 : Addr) =>
         ∃ (s5 : ByteArray),
          ∃ (i6 : Int),
           ∃ (i7 : Int),
            ∃ (i8 : Int),
             ∃ (i9 : Int),
              ∃ (i10 : Int),
               ∃ (i11 : Int),
                (w3.drew.cell? ((a4.add (i2.toNat * (7 : Nat))).add (0 : Nat)) = some (Value.string s5) ∧
                  w3.drew.cell? ((a4.add (i2.toNat * (7 : Nat))).add (1 : Nat)) = some (Value.int IntKind.i64 i6) ∧
                   w3.drew.cell? ((a4.add (i2.toNat * (7 : Nat))).add (2 : Nat)) = some (Value.int IntKind.i64 i7) ∧
                    w3.drew.cell? ((a4.add (i2.toNat * (7 : Nat))).add (3 : Nat)) = some (Value.int IntKind.i64 i8) ∧
                     w3.drew.cell? ((a4.add (i2.toNat * (7 : Nat))).add (4 : Nat)) = some (Value.int IntKind.i64 i9) ∧
                      w3.drew.cell? ((a4.add (i2.toNat * (7 : Nat))).add (5 : Nat)) = some (Value.int IntKind.u32 i10) ∧
                       w3.drew.cell? ((a4.add (i2.toNat * (7 : Nat))).add (6 : Nat)) = some (Value.int IntKind.i64 i11) ∧ True) ∧
                 ((0 : Int) ≤ i2 ∧ i2 < (↑n1 : Int)) ∧
                  SX.Ptr p1 fun (a12 : Addr) =>
                   ∃ (s13 : ByteArray),
                    ∃ (i14 : Int),
                     ∃ (i15 : Int),
                      ∃ (i16 : Int),
                       ∃ (i17 : Int),
                        ∃ (i18 : Int),
                         ∃ (i19 : Int),
                          (w3.drew.cell? ((a12.add (i2.toNat * (7 : Nat))).add (0 : Nat)) = some (Value.string s13) ∧
                            w3.drew.cell? ((a12.add (i2.toNat * (7 : Nat))).add (1 : Nat)) = some (Value.int IntKind.i64 i14) ∧
                             w3.drew.cell? ((a12.add (i2.toNat * (7 : Nat))).add (2 : Nat)) = some (Value.int IntKind.i64 i15) ∧
                              w3.drew.cell? ((a12.add (i2.toNat * (7 : Nat))).add (3 : Nat)) = some (Value.int IntKind.i64 i16) ∧
                               w3.drew.cell? ((a12.add (i2.toNat * (7 : Nat))).add (4 : Nat)) = some (Value.int IntKind.i64 i17) ∧
                                w3.drew.cell? ((a12.add (i2.toNat * (7 : Nat))).add (5 : Nat)) = some (Value.int IntKind.u32 i18) ∧
                                 w3.drew.cell? ((a12.add (i2.toNat * (7 : Nat))).add (6 : Nat)) = some (Value.int IntKind.i64 i19) ∧ True) ∧
                           true = true ∧
                            bif !(s5.toList == s13.toList && (i6 == i14 && (i7 == i15 && (i8 == i16 && (i9 == i17 && (i10 == i18 && i11 == i19)))))) then
                             R (Ending.returned (Value.bool false)) w3.drew
                            else Wr IntKind.i64 (i2 + (1 : Int)) fun (i20 : Int) => I0 i20 w3.drew ∧ I1 i20 w3.drew < I1 i2 w3
      else R (Ending.returned (Value.bool true)) w3
theorem vcTryd39 (p0 : Option Addr) (n0 c0 : Nat) (p1 : Option Addr) (n1 c1 : Nat) (w : World) (R : Ending → World → Prop) : SX.vcFn Tryd.prog [(4, ⟨[(5, .int .i64)], [1, 0], []⟩)] Tryd.f39 [.v (.slice p0 n0 c0), .v (.slice p1 n1 c1)] [] w R = VCTryd39 p0 n0 c0 p1 n1 c1 w R := by kernel_rfl
def VCTryd40 (p0 : Option Addr) (n0 c0 : Nat) (w : World) (R : Ending → World → Prop) : Prop :=
∃ (I0 : Int → World → Prop),
 ∃ (I1 : Int → World → Nat),
  I0 (0 : Int) w ∧
   ∀ (i2 : Int) (w3 : World),
    I0 i2 w3 →
     bif decide (i2 < (↑n0 : Int)) then
      ((0 : Int) ≤ i2 ∧ i2 < (↑n0 : Int)) ∧
       SX.Ptr p0 fun (a4 : Addr) =>
        ∃ (s5 : ByteArray),
         ∃ (i6 : Int),
          ∃ (i7 : Int),
           ∃ (i8 : Int),
            ∃ (i9 : Int),
             ∃ (i10 : Int),
              ∃ (i11 : Int),
               (w3.drew.cell? ((a4.add (i2.toNat * (7 : Nat))).add (0 : Nat)) = some (Value.string s5) ∧
                 w3.drew.cell? ((a4.add (i2.toNat * (7 : Nat))).add (1 : Nat)) = some (Value.int IntKind.i64 i6) ∧
                  w3.drew.cell? ((a4.add (i2.toNat * (7 : Nat))).add (2 : Nat)) = some (Value.int IntKind.i64 i7) ∧
                   w3.drew.cell? ((a4.add (i2.toNat * (7 : Nat))).add (3 : Nat)) = some (Value.int IntKind.i64 i8) ∧
                    w3.drew.cell? ((a4.add (i2.toNat * (7 : Nat))).add (4 : Nat)) = some (Value.int IntKind.i64 i9) ∧
                     w3.drew.cell? ((a4.add (i2.toNat * (7 : Nat))).add (5 : Nat)) = some (Value.int IntKind.u32 i10) ∧
                      w3.drew.cell? ((a4.add (i2.toNat * (7 : Nat))).add (6 : Nat)) = some (Value.int IntKind.i64 i11) ∧ True) ∧
                Rets Tryd.prog (45 : Nat)
                 #[Value.agg
                   #[Value.string s5, Value.int IntKind.i64 i6, Value.int IntKind.i64 i7, Value.int IntKind.i64 i8, Value.int IntKind.i64 i9, Value.int IntKind.u32 i10, Value.int IntKind.i64 i11]]
                 w3.drew fun (v12 : Value) (w13 : World) =>
                 ∃ (t14 : Bool),
                  v12 = Value.bool t14 ∧
                   Keeps w3.drew w13 [] ∧
                    bif !t14 then R (Ending.returned (Value.bool false)) w13
                    else
                     bif decide (i2 > (0 : Int)) then
                      ((0 : Int) ≤ i2 ∧ i2 < (↑n0 : Int)) ∧
                       SX.Ptr p0 fun (a15 : Addr) =>
                        ∃ (s16 : ByteArray),
                         w13.cell? ((a15.add (i2.toNat * (7 : Nat))).add (0 : Nat)) = some (Value.string s16) ∧
                          Wr IntKind.i64 (i2 - (1 : Int)) fun (i17 : Int) =>
                           ((0 : Int) ≤ i17 ∧ i17 < (↑n0 : Int)) ∧
                            SX.Ptr p0 fun (a18 : Addr) =>
                             ∃ (s19 : ByteArray),
                              w13.cell? ((a18.add (i17.toNat * (7 : Nat))).add (0 : Nat)) = some (Value.string s19) ∧
                               bif Op.bytesLess s16.toList s19.toList || s16.toList == s19.toList then R (Ending.returned (Value.bool false)) w13
                               else Wr IntKind.i64 (i2 + (1 : Int)) fun (i20 : Int) => I0 i20 w13 ∧ I1 i20 w13 < I1 i2 w3
                     else Wr IntKind.i64 (i2 + (1 : Int)) fun (i21 : Int) => I0 i21 w13 ∧ I1 i21 w13 < I1 i2 w3
     else R (Ending.returned (Value.bool (decide ((↑n0 : Int) < (201 : Int))))) w3
theorem vcTryd40 (p0 : Option Addr) (n0 c0 : Nat) (w : World) (R : Ending → World → Prop) : SX.vcFn Tryd.prog [(2, ⟨[(3, .int .i64)], [0], []⟩)] Tryd.f40 [.v (.slice p0 n0 c0)] [] w R = VCTryd40 p0 n0 c0 w R := by kernel_rfl
def VCTryd41 (p0 : Option Addr) (n0 c0 : Nat) (w : World) (R : Ending → World → Prop) : Prop :=
Rets Tryd.prog (43 : Nat) #[Value.slice p0 n0 c0] w fun (v0 : Value) (w1 : World) =>
 ∃ (t2 : Bool),
  v0 = Value.bool t2 ∧
   Keeps w w1 [] ∧
    bif !t2 then R (Ending.returned (Value.tuple #[Value.slice none (0 : Nat) (0 : Nat), Value.int IntKind.i64 (1 : Int)])) w1
    else
     ∃ (I3 : Int → Option Addr → Nat → Nat → World → Prop),
      ∃ (I4 : Int → Option Addr → Nat → Nat → World → Nat),
       I3 (0 : Int) none (0 : Nat) (0 : Nat) w1 ∧
        ∀ (i5 : Int) (q6 : Option Addr) (n7 n8 : Nat) (w9 : World),
         I3 i5 q6 n7 n8 w9 →
          bif decide (i5 < (↑n0 : Int)) then
           ((0 : Int) ≤ i5 ∧ i5 < (↑n0 : Int)) ∧
            SX.Ptr p0 fun (a10 : Addr) =>
             ∃ (s11 : ByteArray),
              ∃ (i12 : Int),
               ∃ (i13 : Int),
                ∃ (i14 : Int),
                 ∃ (i15 : Int),
                  ∃ (i16 : Int),
                   ∃ (i17 : Int),
                    (w9.cell? ((a10.add (i5.toNat * (7 : Nat))).add (0 : Nat)) = some (Value.string s11) ∧
                      w9.cell? ((a10.add (i5.toNat * (7 : Nat))).add (1 : Nat)) = some (Value.int IntKind.i64 i12) ∧
                       w9.cell? ((a10.add (i5.toNat * (7 : Nat))).add (2 : Nat)) = some (Value.int IntKind.i64 i13) ∧
                        w9.cell? ((a10.add (i5.toNat * (7 : Nat))).add (3 : Nat)) = some (Value.int IntKind.i64 i14) ∧
                         w9.cell? ((a10.add (i5.toNat * (7 : Nat))).add (4 : Nat)) = some (Value.int IntKind.i64 i15) ∧
                          w9.cell? ((a10.add (i5.toNat * (7 : Nat))).add (5 : Nat)) = some (Value.int IntKind.u32 i16) ∧
                           w9.cell? ((a10.add (i5.toNat * (7 : Nat))).add (6 : Nat)) = some (Value.int IntKind.i64 i17) ∧ True) ∧
                     Wr IntKind.u8 i17 fun (i18 : Int) =>
                      Wr IntKind.u8 (↑s11.size : Int) fun (i19 : Int) =>
                       Runs Tryd.prog
                        (Builtin.append_ #[(27 : Nat), (27 : Nat)] (27 : Nat)
                         #[Value.slice q6 n7 n8,
                          Value.slice
                           (some
                            {
                             block :=
                              ((((((((w9.alloc
                                               (Obj.cells
                                                #[Value.string { data := #[] }, Value.int IntKind.i64 (0 : Int), Value.int IntKind.i64 (0 : Int),
                                                 Value.int IntKind.i64 (0 : Int), Value.int IntKind.i64 (0 : Int), Value.int IntKind.u32 (0 : Int),
                                                 Value.int IntKind.i64 (0 : Int)]
                                                (50 : Nat))).setCell
                                             {block := w9.heap.size, off := (0 : Nat) } (Value.string s11)).setCell
                                           {block := w9.heap.size, off := (1 : Nat) } (Value.int IntKind.i64 i12)).setCell
                                         {block := w9.heap.size, off := (2 : Nat) } (Value.int IntKind.i64 i13)).setCell
                                       {block := w9.heap.size, off := (3 : Nat) } (Value.int IntKind.i64 i14)).setCell
                                     {block := w9.heap.size, off := (4 : Nat) } (Value.int IntKind.i64 i15)).setCell
                                   {block := w9.heap.size, off := (5 : Nat) } (Value.int IntKind.u32 i16)).setCell
                                 {block := w9.heap.size, off := (6 : Nat) } (Value.int IntKind.i64 i17)).heap.size,
                             off := (0 : Nat) })
                           (2 : Nat) (2 : Nat)])
                        (((((((((w9.alloc
                                         (Obj.cells
                                          #[Value.string { data := #[] }, Value.int IntKind.i64 (0 : Int), Value.int IntKind.i64 (0 : Int), Value.int IntKind.i64 (0 : Int),
                                           Value.int IntKind.i64 (0 : Int), Value.int IntKind.u32 (0 : Int), Value.int IntKind.i64 (0 : Int)]
                                          (50 : Nat))).setCell
                                       {block := w9.heap.size, off := (0 : Nat) } (Value.string s11)).setCell
                                     {block := w9.heap.size, off := (1 : Nat) } (Value.int IntKind.i64 i12)).setCell
                                   {block := w9.heap.size, off := (2 : Nat) } (Value.int IntKind.i64 i13)).setCell
                                 {block := w9.heap.size, off := (3 : Nat) } (Value.int IntKind.i64 i14)).setCell
                               {block := w9.heap.size, off := (4 : Nat) } (Value.int IntKind.i64 i15)).setCell
                             {block := w9.heap.size, off := (5 : Nat) } (Value.int IntKind.u32 i16)).setCell
                           {block := w9.heap.size, off := (6 : Nat) } (Value.int IntKind.i64 i17)).alloc
                         (Obj.cells #[Value.int IntKind.u8 i18, Value.int IntKind.u8 i19] (5 : Nat)))
                        fun (v20 : Value) (w21 : World) =>
                        ∃ (q22 : Option Addr),
                         ∃ (n23 : Nat),
                          ∃ (n24 : Nat),
                           v20 = Value.slice q22 n23 n24 ∧
                            Keeps
                              (((((((((w9.alloc
                                               (Obj.cells
                                                #[Value.string { data := #[] }, Value.int IntKind.i64 (0 : Int), Value.int IntKind.i64 (0 : Int),
                                                 Value.int IntKind.i64 (0 : Int), Value.int IntKind.i64 (0 : Int), Value.int IntKind.u32 (0 : Int),
                                                 Value.int IntKind.i64 (0 : Int)]
                                                (50 : Nat))).setCell
                                             {block := w9.heap.size, off := (0 : Nat) } (Value.string s11)).setCell
                                           {block := w9.heap.size, off := (1 : Nat) } (Value.int IntKind.i64 i12)).setCell
                                         {block := w9.heap.size, off := (2 : Nat) } (Value.int IntKind.i64 i13)).setCell
                                       {block := w9.heap.size, off := (3 : Nat) } (Value.int IntKind.i64 i14)).setCell
                                     {block := w9.heap.size, off := (4 : Nat) } (Value.int IntKind.i64 i15)).setCell
                                   {block := w9.heap.size, off := (5 : Nat) } (Value.int IntKind.u32 i16)).setCell
                                 {block := w9.heap.size, off := (6 : Nat) } (Value.int IntKind.i64 i17)).alloc
                               (Obj.cells #[Value.int IntKind.u8 i18, Value.int IntKind.u8 i19] (5 : Nat)))
                              w21 [w9.heap.size] ∧
                             Wr IntKind.u32 i12 fun (i25 : Int) =>
                              Wr IntKind.u32 i15 fun (i26 : Int) =>
                               Wr IntKind.u32 i14 fun (i27 : Int) =>
                                ∃ (I28 : Int → Option Addr → Nat → Nat → World → Prop),
                                 ∃ (I29 : Int → Option Addr → Nat → Nat → World → Nat),
                                  I28 (0 : Int) q22 n23 n24 w21 ∧
                                   ∀ (i30 : Int) (q31 : Option Addr) (n32 n33 : Nat) (w34 : World),
                                    I28 i30 q31 n32 n33 w34 →
                                     Known w34
                                       [(w9.heap.size,
                                         [((0 : Nat), Value.string s11), ((1 : Nat), Value.int IntKind.i64 i12), ((2 : Nat), Value.int IntKind.i64 i13),
                                          ((3 : Nat), Value.int IntKind.i64 i14), ((4 : Nat), Value.int IntKind.i64 i15), ((5 : Nat), Value.int IntKind.u32 i16),
                                          ((6 : Nat), Value.int IntKind.i64 i17)])] →
                                      bif decide (i30 < (4 : Int)) then
                                       ((0 : Int) ≤ i30 ∧ i30 < (↑(4 : Nat) : Int)) ∧
                                        ∃ (i35 : Int),
                                         nth [Value.int IntKind.u32 i25, Value.int IntKind.u32 i26, Value.int IntKind.u32 i27, Value.int IntKind.u32 i16] i30.toNat =
                                           some (Value.int IntKind.u32 i35) ∧
                                          (Known w34
                                            [(w9.heap.size,
                                              [((0 : Nat), Value.string s11), ((1 : Nat), Value.int IntKind.i64 i12), ((2 : Nat), Value.int IntKind.i64 i13),
                                               ((3 : Nat), Value.int IntKind.i64 i14), ((4 : Nat), Value.int IntKind.i64 i15), ((5 : Nat), Value.int IntKind.u32 i16),
                                               ((6 : Nat), Value.int IntKind.i64 i17)])] →
                                           Rets Tryd.prog (105 : Nat) #[Value.slice q31 n32 n33, Value.int IntKind.u32 i35, Value.int IntKind.i64 (4 : Int)] w34
                                            fun (v36 : Value) (w37 : World) =>
                                            ∃ (q38 : Option Addr),
                                             ∃ (n39 : Nat),
                                              ∃ (n40 : Nat),
                                               v36 = Value.slice q38 n39 n40 ∧
                                                Keeps w34 w37 [w9.heap.size] ∧
                                                 Wr IntKind.i64 (i30 + (1 : Int)) fun (i41 : Int) =>
                                                  SameVals
                                                    [Value.string s11, Value.int IntKind.i64 i12, Value.int IntKind.i64 i13, Value.int IntKind.i64 i14,
                                                     Value.int IntKind.i64 i15, Value.int IntKind.u32 i16, Value.int IntKind.i64 i17]
                                                    [Value.string s11, Value.int IntKind.i64 i12, Value.int IntKind.i64 i13, Value.int IntKind.i64 i14,
                                                     Value.int IntKind.i64 i15, Value.int IntKind.u32 i16, Value.int IntKind.i64 i17] ∧
                                                   I28 i41 q38 n39 n40 w37 ∧ I29 i41 q38 n39 n40 w37 < I29 i30 q31 n32 n33 w34)
                                      else
                                       Runs Tryd.prog (Builtin.append_ #[(27 : Nat), (9 : Nat)] (27 : Nat) #[Value.slice q31 n32 n33, Value.string s11]) w34
                                        fun (v42 : Value) (w43 : World) =>
                                        ∃ (q44 : Option Addr),
                                         ∃ (n45 : Nat),
                                          ∃ (n46 : Nat),
                                           v42 = Value.slice q44 n45 n46 ∧
                                            Keeps w34 w43 [w9.heap.size] ∧
                                             Wr IntKind.i64 (i5 + (1 : Int)) fun (i47 : Int) => I3 i47 q44 n45 n46 w43 ∧ I4 i47 q44 n45 n46 w43 < I4 i5 q6 n7 n8 w9
          else R (Ending.returned (Value.tuple #[Value.slice q6 n7 n8, Value.int IntKind.i64 (0 : Int)])) w9
theorem vcTryd41 (p0 : Option Addr) (n0 c0 : Nat) (w : World) (R : Ending → World → Prop) : SX.vcFn Tryd.prog [(9, ⟨[(40, .int .i64), (4, .slice)], [39, 6, 14, 12, 13], []⟩), (5, ⟨[(14, .int .i64), (4, .slice)], [12, 13], []⟩)] Tryd.f41 [.v (.slice p0 n0 c0)] [] w R = VCTryd41 p0 n0 c0 w R := by kernel_rfl
def VCTryd42 (p0 : Option Addr) (n0 c0 : Nat) (w : World) (R : Ending → World → Prop) : Prop :=
∃ (I0 : Int → Option Addr → Nat → Nat → World → Prop),
 ∃ (I1 : Int → Option Addr → Nat → Nat → World → Nat),
  I0 (0 : Int) none (0 : Nat) (0 : Nat) w ∧
   ∀ (i2 : Int) (q3 : Option Addr) (n4 n5 : Nat) (w6 : World),
    I0 i2 q3 n4 n5 w6 →
     bif decide (i2 < (↑n0 : Int)) then
      ((0 : Int) ≤ i2 ∧ i2 < (↑n0 : Int)) ∧
       SX.Ptr p0 fun (a7 : Addr) =>
        ∃ (s8 : ByteArray),
         ∃ (i9 : Int),
          ∃ (i10 : Int),
           ∃ (i11 : Int),
            ∃ (i12 : Int),
             ∃ (i13 : Int),
              ∃ (i14 : Int),
               (w6.cell? ((a7.add (i2.toNat * (7 : Nat))).add (0 : Nat)) = some (Value.string s8) ∧
                 w6.cell? ((a7.add (i2.toNat * (7 : Nat))).add (1 : Nat)) = some (Value.int IntKind.i64 i9) ∧
                  w6.cell? ((a7.add (i2.toNat * (7 : Nat))).add (2 : Nat)) = some (Value.int IntKind.i64 i10) ∧
                   w6.cell? ((a7.add (i2.toNat * (7 : Nat))).add (3 : Nat)) = some (Value.int IntKind.i64 i11) ∧
                    w6.cell? ((a7.add (i2.toNat * (7 : Nat))).add (4 : Nat)) = some (Value.int IntKind.i64 i12) ∧
                     w6.cell? ((a7.add (i2.toNat * (7 : Nat))).add (5 : Nat)) = some (Value.int IntKind.u32 i13) ∧
                      w6.cell? ((a7.add (i2.toNat * (7 : Nat))).add (6 : Nat)) = some (Value.int IntKind.i64 i14) ∧ True) ∧
                Runs Tryd.prog
                 (Builtin.append_ #[(46 : Nat), (46 : Nat)] (46 : Nat)
                  #[Value.slice q3 n4 n5,
                   Value.slice
                    (some
                     {
                      block :=
                       ((((((((w6.alloc
                                 (Obj.cells
                                  #[Value.string { data := #[] }, Value.int IntKind.i64 (0 : Int), Value.int IntKind.i64 (0 : Int), Value.int IntKind.i64 (0 : Int),
                                   Value.int IntKind.i64 (0 : Int), Value.int IntKind.u32 (0 : Int), Value.int IntKind.i64 (0 : Int)]
                                  (50 : Nat))).setCell
                                {block := w6.heap.size, off := (0 : Nat) } (Value.string s8)).setCell
                               {block := w6.heap.size, off := (1 : Nat) } (Value.int IntKind.i64 i9)).setCell
                             {block := w6.heap.size, off := (2 : Nat) } (Value.int IntKind.i64 i10)).setCell
                            {block := w6.heap.size, off := (3 : Nat) } (Value.int IntKind.i64 i11)).setCell
                           {block := w6.heap.size, off := (4 : Nat) } (Value.int IntKind.i64 i12)).setCell
                          {block := w6.heap.size, off := (5 : Nat) } (Value.int IntKind.u32 i13)).setCell
                         {block := w6.heap.size, off := (6 : Nat) } (Value.int IntKind.i64 i14)).heap.size,
                      off := (0 : Nat) })
                    (1 : Nat) (1 : Nat)])
                 (((((((((w6.alloc
                             (Obj.cells
                              #[Value.string { data := #[] }, Value.int IntKind.i64 (0 : Int), Value.int IntKind.i64 (0 : Int), Value.int IntKind.i64 (0 : Int),
                               Value.int IntKind.i64 (0 : Int), Value.int IntKind.u32 (0 : Int), Value.int IntKind.i64 (0 : Int)]
                              (50 : Nat))).setCell
                            {block := w6.heap.size, off := (0 : Nat) } (Value.string s8)).setCell
                           {block := w6.heap.size, off := (1 : Nat) } (Value.int IntKind.i64 i9)).setCell
                          {block := w6.heap.size, off := (2 : Nat) } (Value.int IntKind.i64 i10)).setCell
                         {block := w6.heap.size, off := (3 : Nat) } (Value.int IntKind.i64 i11)).setCell
                        {block := w6.heap.size, off := (4 : Nat) } (Value.int IntKind.i64 i12)).setCell
                      {block := w6.heap.size, off := (5 : Nat) } (Value.int IntKind.u32 i13)).setCell
                    {block := w6.heap.size, off := (6 : Nat) } (Value.int IntKind.i64 i14)).alloc
                  (Obj.cells #[Value.string s8] (9 : Nat)))
                 fun (v15 : Value) (w16 : World) =>
                 ∃ (q17 : Option Addr),
                  ∃ (n18 : Nat),
                   ∃ (n19 : Nat),
                    v15 = Value.slice q17 n18 n19 ∧
                     Keeps
                       (((((((((w6.alloc
                                 (Obj.cells
                                  #[Value.string { data := #[] }, Value.int IntKind.i64 (0 : Int), Value.int IntKind.i64 (0 : Int), Value.int IntKind.i64 (0 : Int),
                                   Value.int IntKind.i64 (0 : Int), Value.int IntKind.u32 (0 : Int), Value.int IntKind.i64 (0 : Int)]
                                  (50 : Nat))).setCell
                                {block := w6.heap.size, off := (0 : Nat) } (Value.string s8)).setCell
                               {block := w6.heap.size, off := (1 : Nat) } (Value.int IntKind.i64 i9)).setCell
                             {block := w6.heap.size, off := (2 : Nat) } (Value.int IntKind.i64 i10)).setCell
                            {block := w6.heap.size, off := (3 : Nat) } (Value.int IntKind.i64 i11)).setCell
                           {block := w6.heap.size, off := (4 : Nat) } (Value.int IntKind.i64 i12)).setCell
                          {block := w6.heap.size, off := (5 : Nat) } (Value.int IntKind.u32 i13)).setCell
                         {block := w6.heap.size, off := (6 : Nat) } (Value.int IntKind.i64 i14)).alloc
                        (Obj.cells #[Value.string s8] (9 : Nat)))
                       w16 [w6.heap.size] ∧
                      Wr IntKind.i64 (i2 + (1 : Int)) fun (i20 : Int) => I0 i20 q17 n18 n19 w16 ∧ I1 i20 q17 n18 n19 w16 < I1 i2 q3 n4 n5 w6
     else R (Ending.returned (Value.slice q3 n4 n5)) w6
theorem vcTryd42 (p0 : Option Addr) (n0 c0 : Nat) (w : World) (R : Ending → World → Prop) : SX.vcFn Tryd.prog [(3, ⟨[(8, .int .i64), (3, .slice)], [6, 7], []⟩)] Tryd.f42 [.v (.slice p0 n0 c0)] [] w R = VCTryd42 p0 n0 c0 w R := by kernel_rfl
def VCTryd43 (p0 : Option Addr) (n0 c0 : Nat) (w : World) (R : Ending → World → Prop) : Prop :=
bif decide ((↑n0 : Int) > (200 : Int)) then R (Ending.returned (Value.bool false)) w
else
 ∃ (I0 : Int → World → Prop),
  ∃ (I1 : Int → World → Nat),
   I0 (0 : Int) w ∧
    ∀ (i2 : Int) (w3 : World),
     I0 i2 w3 →
      bif decide (i2 < (↑n0 : Int)) then
       ((0 : Int) ≤ i2 ∧ i2 < (↑n0 : Int)) ∧
        SX.Ptr p0 fun (a4 : Addr) =>
         ∃ (s5 : ByteArray),
          ∃ (i6 : Int),
           ∃ (i7 : Int),
            ∃ (i8 : Int),
             ∃ (i9 : Int),
              ∃ (i10 : Int),
               ∃ (i11 : Int),
                (w3.cell? ((a4.add (i2.toNat * (7 : Nat))).add (0 : Nat)) = some (Value.string s5) ∧
                  w3.cell? ((a4.add (i2.toNat * (7 : Nat))).add (1 : Nat)) = some (Value.int IntKind.i64 i6) ∧
                   w3.cell? ((a4.add (i2.toNat * (7 : Nat))).add (2 : Nat)) = some (Value.int IntKind.i64 i7) ∧
                    w3.cell? ((a4.add (i2.toNat * (7 : Nat))).add (3 : Nat)) = some (Value.int IntKind.i64 i8) ∧
                     w3.cell? ((a4.add (i2.toNat * (7 : Nat))).add (4 : Nat)) = some (Value.int IntKind.i64 i9) ∧
                      w3.cell? ((a4.add (i2.toNat * (7 : Nat))).add (5 : Nat)) = some (Value.int IntKind.u32 i10) ∧
                       w3.cell? ((a4.add (i2.toNat * (7 : Nat))).add (6 : Nat)) = some (Value.int IntKind.i64 i11) ∧ True) ∧
                 (Known
                   ((((((((w3.alloc
                                   (Obj.cells
                                    #[Value.string { data := #[] }, Value.int IntKind.i64 (0 : Int), Value.int IntKind.i64 (0 : Int), Value.int IntKind.i64 (0 : Int),
                                     Value.int IntKind.i64 (0 : Int), Value.int IntKind.u32 (0 : Int), Value.int IntKind.i64 (0 : Int)]
                                    (50 : Nat))).setCell
                                 {block := w3.heap.size, off := (0 : Nat) } (Value.string s5)).setCell
                               {block := w3.heap.size, off := (1 : Nat) } (Value.int IntKind.i64 i6)).setCell
                             {block := w3.heap.size, off := (2 : Nat) } (Value.int IntKind.i64 i7)).setCell
                           {block := w3.heap.size, off := (3 : Nat) } (Value.int IntKind.i64 i8)).setCell
                         {block := w3.heap.size, off := (4 : Nat) } (Value.int IntKind.i64 i9)).setCell
                       {block := w3.heap.size, off := (5 : Nat) } (Value.int IntKind.u32 i10)).setCell
                     {block := w3.heap.size, off := (6 : Nat) } (Value.int IntKind.i64 i11)).drew
                   [(w3.heap.size,
                     [((0 : Nat), Value.string s5), ((1 : Nat), Value.int IntKind.i64 i6), ((2 : Nat), Value.int IntKind.i64 i7), ((3 : Nat), Value.int IntKind.i64 i8),
                      ((4 : Nat), Value.int IntKind.i64 i9), ((5 : Nat), Value.int IntKind.u32 i10), ((6 : Nat), Value.int IntKind.i64 i11)])] →
                  Rets Tryd.prog (44 : Nat)
                   #[Value.agg
                     #[Value.string s5, Value.int IntKind.i64 i6, Value.int IntKind.i64 i7, Value.int IntKind.i64 i8, Value.int IntKind.i64 i9, Value.int IntKind.u32 i10, Value.int IntKind.i64 i11]]
                   ((((((((w3.alloc
                                   (Obj.cells
                                    #[Value.string { data := #[] }, Value.int IntKind.i64 (0 : Int), Value.int IntKind.i64 (0 : Int), Value.int IntKind.i64 (0 : Int),
                                     Value.int IntKind.i64 (0 : Int), Value.int IntKind.u32 (0 : Int), Value.int IntKind.i64 (0 : Int)]
                                    (50 : Nat))).setCell
                                 {block := w3.heap.size, off := (0 : Nat) } (Value.string s5)).setCell
                               {block := w3.heap.size, off := (1 : Nat) } (Value.int IntKind.i64 i6)).setCell
                             {block := w3.heap.size, off := (2 : Nat) } (Value.int IntKind.i64 i7)).setCell
                           {block := w3.heap.size, off := (3 : Nat) } (Value.int IntKind.i64 i8)).setCell
                         {block := w3.heap.size, off := (4 : Nat) } (Value.int IntKind.i64 i9)).setCell
                       {block := w3.heap.size, off := (5 : Nat) } (Value.int IntKind.u32 i10)).setCell
                     {block := w3.heap.size, off := (6 : Nat) } (Value.int IntKind.i64 i11)).drew
                   fun (v12 : Value) (w13 : World) =>
                   ∃ (t14 : Bool),
                    v12 = Value.bool t14 ∧
                     Keeps
                       ((((((((w3.alloc
                                      (Obj.cells
                                       #[Value.string { data := #[] }, Value.int IntKind.i64 (0 : Int), Value.int IntKind.i64 (0 : Int), Value.int IntKind.i64 (0 : Int),
                                        Value.int IntKind.i64 (0 : Int), Value.int IntKind.u32 (0 : Int), Value.int IntKind.i64 (0 : Int)]
                                       (50 : Nat))).setCell
                                     {block := w3.heap.size, off := (0 : Nat) } (Value.string s5)).setCell
                                   {block := w3.heap.size, off := (1 : Nat) } (Value.int IntKind.i64 i6)).setCell
                                 {block := w3.heap.size, off := (2 : Nat) } (Value.int IntKind.i64 i7)).setCell
                               {block := w3.heap.size, off := (3 : Nat) } (Value.int IntKind.i64 i8)).setCell
                             {block := w3.heap.size, off := (4 : Nat) } (Value.int IntKind.i64 i9)).setCell
                           {block := w3.heap.size, off := (5 : Nat) } (Value.int IntKind.u32 i10)).setCell
                         {block := w3.heap.size, off := (6 : Nat) } (Value.int IntKind.i64 i11)).drew
                       w13 [w3.heap.size] ∧
                      bif !t14 then
                       Known w13
                         [(w3.heap.size,
                           [((0 : Nat), Value.string s5), ((1 : Nat), Value.int IntKind.i64 i6), ((2 : Nat), Value.int IntKind.i64 i7), ((3 : Nat), Value.int IntKind.i64 i8),
                            ((4 : Nat), Value.int IntKind.i64 i9), ((5 : Nat), Value.int IntKind.u32 i10), ((6 : Nat), Value.int IntKind.i64 i11)])] →
                        R (Ending.returned (Value.bool false)) w13
                      else
                       bif decide (i2 > (0 : Int)) then
                        Wr IntKind.i64 (i2 - (1 : Int)) fun (i15 : Int) =>
                         ((0 : Int) ≤ i15 ∧ i15 < (↑n0 : Int)) ∧
                          SX.Ptr p0 fun (a16 : Addr) =>
                           ∃ (s17 : ByteArray),
                            w13.cell? ((a16.add (i15.toNat * (7 : Nat))).add (0 : Nat)) = some (Value.string s17) ∧
                             bif !Op.bytesLess s17.toList s5.toList then
                              Known w13
                                [(w3.heap.size,
                                  [((0 : Nat), Value.string s5), ((1 : Nat), Value.int IntKind.i64 i6), ((2 : Nat), Value.int IntKind.i64 i7), ((3 : Nat), Value.int IntKind.i64 i8),
                                   ((4 : Nat), Value.int IntKind.i64 i9), ((5 : Nat), Value.int IntKind.u32 i10), ((6 : Nat), Value.int IntKind.i64 i11)])] →
                               R (Ending.returned (Value.bool false)) w13
                             else Wr IntKind.i64 (i2 + (1 : Int)) fun (i18 : Int) => I0 i18 w13 ∧ I1 i18 w13 < I1 i2 w3
                       else Wr IntKind.i64 (i2 + (1 : Int)) fun (i19 : Int) => I0 i19 w13 ∧ I1 i19 w13 < I1 i2 w3)
      else R (Ending.returned (Value.bool true)) w3
theorem vcTryd43 (p0 : Option Addr) (n0 c0 : Nat) (w : World) (R : Ending → World → Prop) : SX.vcFn Tryd.prog [(4, ⟨[(10, .int .i64)], [0, 8, 9], []⟩)] Tryd.f43 [.v (.slice p0 n0 c0)] [] w R = VCTryd43 p0 n0 c0 w R := by kernel_rfl
def VCTryd44 (s : ByteArray) (a f r z u m : Int) (w : World) (R : Ending → World → Prop) : Prop :=
Known (w.alloc (Obj.cells #[Value.string s, Value.int IntKind.i64 a, Value.int IntKind.i64 f, Value.int IntKind.i64 r, Value.int IntKind.i64 z, Value.int IntKind.u32 u, Value.int IntKind.i64 m] (50 : Nat))).drew
  [(w.heap.size,
    [((0 : Nat), Value.string s), ((1 : Nat), Value.int IntKind.i64 a), ((2 : Nat), Value.int IntKind.i64 f), ((3 : Nat), Value.int IntKind.i64 r), ((4 : Nat), Value.int IntKind.i64 z),
     ((5 : Nat), Value.int IntKind.u32 u), ((6 : Nat), Value.int IntKind.i64 m)])] →
 Rets Tryd.prog (119 : Nat) #[Value.int IntKind.i64 a, Value.int IntKind.i64 (1024 : Int), Value.int IntKind.i64 (1073741824 : Int)]
  (w.alloc (Obj.cells #[Value.string s, Value.int IntKind.i64 a, Value.int IntKind.i64 f, Value.int IntKind.i64 r, Value.int IntKind.i64 z, Value.int IntKind.u32 u, Value.int IntKind.i64 m] (50 : Nat))).drew
  fun (v0 : Value) (w1 : World) =>
  ∃ (t2 : Bool),
   v0 = Value.bool t2 ∧
    Keeps (w.alloc (Obj.cells #[Value.string s, Value.int IntKind.i64 a, Value.int IntKind.i64 f, Value.int IntKind.i64 r, Value.int IntKind.i64 z, Value.int IntKind.u32 u, Value.int IntKind.i64 m] (50 : Nat))).drew
      w1 [w.heap.size] ∧
     bif t2 then
      Known w1
        [(w.heap.size,
          [((0 : Nat), Value.string s), ((1 : Nat), Value.int IntKind.i64 a), ((2 : Nat), Value.int IntKind.i64 f), ((3 : Nat), Value.int IntKind.i64 r), ((4 : Nat), Value.int IntKind.i64 z),
           ((5 : Nat), Value.int IntKind.u32 u), ((6 : Nat), Value.int IntKind.i64 m)])] →
       Rets Tryd.prog (52 : Nat) #[Value.string s] w1 fun (v3 : Value) (w4 : World) =>
        ∃ (i5 : Int),
         v3 = Value.int IntKind.i64 i5 ∧
          Keeps w1 w4 [w.heap.size] ∧
           w4.cell? { block := w.heap.size, off := (1 : Nat) } = some (Value.int IntKind.i64 a) ∧
            w4.cell? { block := w.heap.size, off := (2 : Nat) } = some (Value.int IntKind.i64 f) ∧
             Wr IntKind.i64 (a + i5) fun (i6 : Int) =>
              bif f == i6 then
               Known w4
                 [(w.heap.size,
                   [((0 : Nat), Value.string s), ((1 : Nat), Value.int IntKind.i64 a), ((2 : Nat), Value.int IntKind.i64 f), ((3 : Nat), Value.int IntKind.i64 r), ((4 : Nat), Value.int IntKind.i64 z),
                    ((5 : Nat), Value.int IntKind.u32 u), ((6 : Nat), Value.int IntKind.i64 m)])] →
                Rets Tryd.prog (104 : Nat) #[Value.string s] w4 fun (v7 : Value) (w8 : World) =>
                 ∃ (t9 : Bool),
                  v7 = Value.bool t9 ∧
                   Keeps w4 w8 [w.heap.size] ∧
                    bif t9 then
                     Known w8
                       [(w.heap.size,
                         [((0 : Nat), Value.string s), ((1 : Nat), Value.int IntKind.i64 a), ((2 : Nat), Value.int IntKind.i64 f), ((3 : Nat), Value.int IntKind.i64 r),
                          ((4 : Nat), Value.int IntKind.i64 z), ((5 : Nat), Value.int IntKind.u32 u), ((6 : Nat), Value.int IntKind.i64 m)])] →
                      Rets Tryd.prog (119 : Nat) #[Value.int IntKind.i64 m, Value.int IntKind.i64 (0 : Int), Value.int IntKind.i64 (2 : Int)] w8 fun (v10 : Value) (w11 : World) =>
                       ∃ (t12 : Bool),
                        v10 = Value.bool t12 ∧
                         Keeps w8 w11 [w.heap.size] ∧
                          bif t12 then
                           Known w11
                             [(w.heap.size,
                               [((0 : Nat), Value.string s), ((1 : Nat), Value.int IntKind.i64 a), ((2 : Nat), Value.int IntKind.i64 f), ((3 : Nat), Value.int IntKind.i64 r),
                                ((4 : Nat), Value.int IntKind.i64 z), ((5 : Nat), Value.int IntKind.u32 u), ((6 : Nat), Value.int IntKind.i64 m)])] →
                            Rets Tryd.prog (119 : Nat) #[Value.int IntKind.i64 r, Value.int IntKind.i64 (0 : Int), Value.int IntKind.i64 (262144 : Int)] w11 fun (v13 : Value) (w14 : World) =>
                             ∃ (t15 : Bool),
                              v13 = Value.bool t15 ∧
                               Keeps w11 w14 [w.heap.size] ∧
                                bif t15 then
                                 Known w14
                                   [(w.heap.size,
                                     [((0 : Nat), Value.string s), ((1 : Nat), Value.int IntKind.i64 a), ((2 : Nat), Value.int IntKind.i64 f), ((3 : Nat), Value.int IntKind.i64 r),
                                      ((4 : Nat), Value.int IntKind.i64 z), ((5 : Nat), Value.int IntKind.u32 u), ((6 : Nat), Value.int IntKind.i64 m)])] →
                                  Rets Tryd.prog (119 : Nat) #[Value.int IntKind.i64 z, Value.int IntKind.i64 (0 : Int), Value.int IntKind.i64 (65536 : Int)] w14
                                   fun (v16 : Value) (w17 : World) =>
                                   ∃ (t18 : Bool),
                                    v16 = Value.bool t18 ∧
                                     Keeps w14 w17 [w.heap.size] ∧
                                      (Known w17
                                        [(w.heap.size,
                                         [((0 : Nat), Value.string s), ((1 : Nat), Value.int IntKind.i64 a), ((2 : Nat), Value.int IntKind.i64 f),
                                          ((3 : Nat), Value.int IntKind.i64 r), ((4 : Nat), Value.int IntKind.i64 z), ((5 : Nat), Value.int IntKind.u32 u),
                                          ((6 : Nat), Value.int IntKind.i64 m)])] →
                                       R (Ending.returned (Value.bool t18)) w17)
                                else
                                 Known w14
                                   [(w.heap.size,
                                     [((0 : Nat), Value.string s), ((1 : Nat), Value.int IntKind.i64 a), ((2 : Nat), Value.int IntKind.i64 f), ((3 : Nat), Value.int IntKind.i64 r),
                                      ((4 : Nat), Value.int IntKind.i64 z), ((5 : Nat), Value.int IntKind.u32 u), ((6 : Nat), Value.int IntKind.i64 m)])] →
                                  R (Ending.returned (Value.bool false)) w14
                          else
                           Known w11
                             [(w.heap.size,
                               [((0 : Nat), Value.string s), ((1 : Nat), Value.int IntKind.i64 a), ((2 : Nat), Value.int IntKind.i64 f), ((3 : Nat), Value.int IntKind.i64 r),
                                ((4 : Nat), Value.int IntKind.i64 z), ((5 : Nat), Value.int IntKind.u32 u), ((6 : Nat), Value.int IntKind.i64 m)])] →
                            R (Ending.returned (Value.bool false)) w11
                    else
                     Known w8
                       [(w.heap.size,
                         [((0 : Nat), Value.string s), ((1 : Nat), Value.int IntKind.i64 a), ((2 : Nat), Value.int IntKind.i64 f), ((3 : Nat), Value.int IntKind.i64 r),
                          ((4 : Nat), Value.int IntKind.i64 z), ((5 : Nat), Value.int IntKind.u32 u), ((6 : Nat), Value.int IntKind.i64 m)])] →
                      R (Ending.returned (Value.bool false)) w8
              else
               Known w4
                 [(w.heap.size,
                   [((0 : Nat), Value.string s), ((1 : Nat), Value.int IntKind.i64 a), ((2 : Nat), Value.int IntKind.i64 f), ((3 : Nat), Value.int IntKind.i64 r), ((4 : Nat), Value.int IntKind.i64 z),
                    ((5 : Nat), Value.int IntKind.u32 u), ((6 : Nat), Value.int IntKind.i64 m)])] →
                R (Ending.returned (Value.bool false)) w4
     else
      Known w1
        [(w.heap.size,
          [((0 : Nat), Value.string s), ((1 : Nat), Value.int IntKind.i64 a), ((2 : Nat), Value.int IntKind.i64 f), ((3 : Nat), Value.int IntKind.i64 r), ((4 : Nat), Value.int IntKind.i64 z),
           ((5 : Nat), Value.int IntKind.u32 u), ((6 : Nat), Value.int IntKind.i64 m)])] →
       R (Ending.returned (Value.bool false)) w1
theorem vcTryd44 (s : ByteArray) (a f r z u m : Int) (w : World) (R : Ending → World → Prop) : SX.vcFn Tryd.prog [] Tryd.f44 [.v (.agg #[.string s, .int .i64 a, .int .i64 f, .int .i64 r, .int .i64 z, .int .u32 u, .int .i64 m])] [] w R = VCTryd44 s a f r z u m w R := by kernel_rfl
def VCTryd45 (s : ByteArray) (a f r z u m : Int) (w : World) (R : Ending → World → Prop) : Prop :=
Known (w.alloc (Obj.cells #[Value.string s, Value.int IntKind.i64 a, Value.int IntKind.i64 f, Value.int IntKind.i64 r, Value.int IntKind.i64 z, Value.int IntKind.u32 u, Value.int IntKind.i64 m] (50 : Nat)))
  [(w.heap.size,
    [((0 : Nat), Value.string s), ((1 : Nat), Value.int IntKind.i64 a), ((2 : Nat), Value.int IntKind.i64 f), ((3 : Nat), Value.int IntKind.i64 r), ((4 : Nat), Value.int IntKind.i64 z),
     ((5 : Nat), Value.int IntKind.u32 u), ((6 : Nat), Value.int IntKind.i64 m)])] →
 Rets Tryd.prog (29 : Nat) #[Value.string s]
  (w.alloc (Obj.cells #[Value.string s, Value.int IntKind.i64 a, Value.int IntKind.i64 f, Value.int IntKind.i64 r, Value.int IntKind.i64 z, Value.int IntKind.u32 u, Value.int IntKind.i64 m] (50 : Nat)))
  fun (v0 : Value) (w1 : World) =>
  ∃ (t2 : Bool),
   v0 = Value.bool t2 ∧
    Keeps (w.alloc (Obj.cells #[Value.string s, Value.int IntKind.i64 a, Value.int IntKind.i64 f, Value.int IntKind.i64 r, Value.int IntKind.i64 z, Value.int IntKind.u32 u, Value.int IntKind.i64 m] (50 : Nat))) w1
      [w.heap.size] ∧
     bif !t2 then
      Known w1
        [(w.heap.size,
          [((0 : Nat), Value.string s), ((1 : Nat), Value.int IntKind.i64 a), ((2 : Nat), Value.int IntKind.i64 f), ((3 : Nat), Value.int IntKind.i64 r), ((4 : Nat), Value.int IntKind.i64 z),
           ((5 : Nat), Value.int IntKind.u32 u), ((6 : Nat), Value.int IntKind.i64 m)])] →
       R (Ending.returned (Value.bool false)) w1
     else
      bif decide (m < (0 : Int)) then
       Known w1
         [(w.heap.size,
           [((0 : Nat), Value.string s), ((1 : Nat), Value.int IntKind.i64 a), ((2 : Nat), Value.int IntKind.i64 f), ((3 : Nat), Value.int IntKind.i64 r), ((4 : Nat), Value.int IntKind.i64 z),
            ((5 : Nat), Value.int IntKind.u32 u), ((6 : Nat), Value.int IntKind.i64 m)])] →
        R (Ending.returned (Value.bool false)) w1
      else
       bif decide (m > (2 : Int)) then
        Known w1
          [(w.heap.size,
            [((0 : Nat), Value.string s), ((1 : Nat), Value.int IntKind.i64 a), ((2 : Nat), Value.int IntKind.i64 f), ((3 : Nat), Value.int IntKind.i64 r), ((4 : Nat), Value.int IntKind.i64 z),
             ((5 : Nat), Value.int IntKind.u32 u), ((6 : Nat), Value.int IntKind.i64 m)])] →
         R (Ending.returned (Value.bool false)) w1
       else
        bif decide (a < (1024 : Int)) then
         Known w1
           [(w.heap.size,
             [((0 : Nat), Value.string s), ((1 : Nat), Value.int IntKind.i64 a), ((2 : Nat), Value.int IntKind.i64 f), ((3 : Nat), Value.int IntKind.i64 r), ((4 : Nat), Value.int IntKind.i64 z),
              ((5 : Nat), Value.int IntKind.u32 u), ((6 : Nat), Value.int IntKind.i64 m)])] →
          R (Ending.returned (Value.bool false)) w1
        else
         bif decide (a > (1073741824 : Int)) then
          Known w1
            [(w.heap.size,
              [((0 : Nat), Value.string s), ((1 : Nat), Value.int IntKind.i64 a), ((2 : Nat), Value.int IntKind.i64 f), ((3 : Nat), Value.int IntKind.i64 r), ((4 : Nat), Value.int IntKind.i64 z),
               ((5 : Nat), Value.int IntKind.u32 u), ((6 : Nat), Value.int IntKind.i64 m)])] →
           R (Ending.returned (Value.bool false)) w1
         else
          Wr IntKind.i64 (f - a) fun (i3 : Int) =>
           Wr IntKind.i64 ((22 : Int) + (↑s.size : Int)) fun (i4 : Int) =>
            bif i3 != i4 then
             Known w1
               [(w.heap.size,
                 [((0 : Nat), Value.string s), ((1 : Nat), Value.int IntKind.i64 a), ((2 : Nat), Value.int IntKind.i64 f), ((3 : Nat), Value.int IntKind.i64 r), ((4 : Nat), Value.int IntKind.i64 z),
                  ((5 : Nat), Value.int IntKind.u32 u), ((6 : Nat), Value.int IntKind.i64 m)])] →
              R (Ending.returned (Value.bool false)) w1
            else
             bif decide (r < (0 : Int)) then
              Known w1
                [(w.heap.size,
                  [((0 : Nat), Value.string s), ((1 : Nat), Value.int IntKind.i64 a), ((2 : Nat), Value.int IntKind.i64 f), ((3 : Nat), Value.int IntKind.i64 r), ((4 : Nat), Value.int IntKind.i64 z),
                   ((5 : Nat), Value.int IntKind.u32 u), ((6 : Nat), Value.int IntKind.i64 m)])] →
               R (Ending.returned (Value.bool false)) w1
             else
              bif decide (r > (262144 : Int)) then
               Known w1
                 [(w.heap.size,
                   [((0 : Nat), Value.string s), ((1 : Nat), Value.int IntKind.i64 a), ((2 : Nat), Value.int IntKind.i64 f), ((3 : Nat), Value.int IntKind.i64 r), ((4 : Nat), Value.int IntKind.i64 z),
                    ((5 : Nat), Value.int IntKind.u32 u), ((6 : Nat), Value.int IntKind.i64 m)])] →
                R (Ending.returned (Value.bool false)) w1
              else
               bif decide (z ≥ (0 : Int)) then
                Known w1
                  [(w.heap.size,
                    [((0 : Nat), Value.string s), ((1 : Nat), Value.int IntKind.i64 a), ((2 : Nat), Value.int IntKind.i64 f), ((3 : Nat), Value.int IntKind.i64 r),
                     ((4 : Nat), Value.int IntKind.i64 z), ((5 : Nat), Value.int IntKind.u32 u), ((6 : Nat), Value.int IntKind.i64 m)])] →
                 R (Ending.returned (Value.bool (decide (z ≤ (65536 : Int))))) w1
               else
                Known w1
                  [(w.heap.size,
                    [((0 : Nat), Value.string s), ((1 : Nat), Value.int IntKind.i64 a), ((2 : Nat), Value.int IntKind.i64 f), ((3 : Nat), Value.int IntKind.i64 r),
                     ((4 : Nat), Value.int IntKind.i64 z), ((5 : Nat), Value.int IntKind.u32 u), ((6 : Nat), Value.int IntKind.i64 m)])] →
                 R (Ending.returned (Value.bool false)) w1
theorem vcTryd45 (s : ByteArray) (a f r z u m : Int) (w : World) (R : Ending → World → Prop) : SX.vcFn Tryd.prog [] Tryd.f45 [.v (.agg #[.string s, .int .i64 a, .int .i64 f, .int .i64 r, .int .i64 z, .int .u32 u, .int .i64 m])] [] w R = VCTryd45 s a f r z u m w R := by kernel_rfl
def VCTryd46 (p0 : Option Addr) (n0 c0 : Nat) (w : World) (R : Ending → World → Prop) : Prop :=
∃ (I0 : Int → Int → World → Prop),
 ∃ (I1 : Int → Int → World → Nat),
  I0 (0 : Int) (0 : Int) w ∧
   ∀ (i2 i3 : Int) (w4 : World),
    I0 i2 i3 w4 →
     bif decide (i2 < (↑n0 : Int)) then
      ((0 : Int) ≤ i2 ∧ i2 < (↑n0 : Int)) ∧
       SX.Ptr p0 fun (a5 : Addr) =>
        ∃ (s6 : ByteArray),
         ∃ (i7 : Int),
          ∃ (i8 : Int),
           ∃ (i9 : Int),
            ∃ (i10 : Int),
             ∃ (i11 : Int),
              ∃ (i12 : Int),
               (w4.cell? ((a5.add (i2.toNat * (7 : Nat))).add (0 : Nat)) = some (Value.string s6) ∧
                 w4.cell? ((a5.add (i2.toNat * (7 : Nat))).add (1 : Nat)) = some (Value.int IntKind.i64 i7) ∧
                  w4.cell? ((a5.add (i2.toNat * (7 : Nat))).add (2 : Nat)) = some (Value.int IntKind.i64 i8) ∧
                   w4.cell? ((a5.add (i2.toNat * (7 : Nat))).add (3 : Nat)) = some (Value.int IntKind.i64 i9) ∧
                    w4.cell? ((a5.add (i2.toNat * (7 : Nat))).add (4 : Nat)) = some (Value.int IntKind.i64 i10) ∧
                     w4.cell? ((a5.add (i2.toNat * (7 : Nat))).add (5 : Nat)) = some (Value.int IntKind.u32 i11) ∧
                      w4.cell? ((a5.add (i2.toNat * (7 : Nat))).add (6 : Nat)) = some (Value.int IntKind.i64 i12) ∧ True) ∧
                Wr IntKind.i64 ((18 : Int) + (↑s6.size : Int)) fun (i13 : Int) =>
                 Wr IntKind.i64 (i3 + i13) fun (i14 : Int) =>
                  Wr IntKind.i64 (i2 + (1 : Int)) fun (i15 : Int) =>
                   I0 i15 i14
                     ((((((((w4.alloc
                                    (Obj.cells
                                     #[Value.string { data := #[] }, Value.int IntKind.i64 (0 : Int), Value.int IntKind.i64 (0 : Int), Value.int IntKind.i64 (0 : Int),
                                      Value.int IntKind.i64 (0 : Int), Value.int IntKind.u32 (0 : Int), Value.int IntKind.i64 (0 : Int)]
                                     (50 : Nat))).setCell
                                  {block := w4.heap.size, off := (0 : Nat) } (Value.string s6)).setCell
                                {block := w4.heap.size, off := (1 : Nat) } (Value.int IntKind.i64 i7)).setCell
                              {block := w4.heap.size, off := (2 : Nat) } (Value.int IntKind.i64 i8)).setCell
                            {block := w4.heap.size, off := (3 : Nat) } (Value.int IntKind.i64 i9)).setCell
                          {block := w4.heap.size, off := (4 : Nat) } (Value.int IntKind.i64 i10)).setCell
                        {block := w4.heap.size, off := (5 : Nat) } (Value.int IntKind.u32 i11)).setCell
                      {block := w4.heap.size, off := (6 : Nat) } (Value.int IntKind.i64 i12)) ∧
                    I1 i15 i14
                      ((((((((w4.alloc
                                     (Obj.cells
                                      #[Value.string { data := #[] }, Value.int IntKind.i64 (0 : Int), Value.int IntKind.i64 (0 : Int), Value.int IntKind.i64 (0 : Int),
                                       Value.int IntKind.i64 (0 : Int), Value.int IntKind.u32 (0 : Int), Value.int IntKind.i64 (0 : Int)]
                                      (50 : Nat))).setCell
                                   {block := w4.heap.size, off := (0 : Nat) } (Value.string s6)).setCell
                                 {block := w4.heap.size, off := (1 : Nat) } (Value.int IntKind.i64 i7)).setCell
                               {block := w4.heap.size, off := (2 : Nat) } (Value.int IntKind.i64 i8)).setCell
                             {block := w4.heap.size, off := (3 : Nat) } (Value.int IntKind.i64 i9)).setCell
                           {block := w4.heap.size, off := (4 : Nat) } (Value.int IntKind.i64 i10)).setCell
                         {block := w4.heap.size, off := (5 : Nat) } (Value.int IntKind.u32 i11)).setCell
                       {block := w4.heap.size, off := (6 : Nat) } (Value.int IntKind.i64 i12)) <
                     I1 i2 i3 w4
     else R (Ending.returned (Value.int IntKind.i64 i3)) w4
theorem vcTryd46 (p0 : Option Addr) (n0 c0 : Nat) (w : World) (R : Ending → World → Prop) : SX.vcFn Tryd.prog [(3, ⟨[(8, .int .i64), (3, .int .i64)], [6, 7], []⟩)] Tryd.f46 [.v (.slice p0 n0 c0)] [] w R = VCTryd46 p0 n0 c0 w R := by kernel_rfl
def VCTryd47 (p0 : Option Addr) (n0 c0 : Nat) (w : World) (R : Ending → World → Prop) : Prop :=
∃ (I0 : Int → Option Addr → Nat → Nat → World → Prop),
 ∃ (I1 : Int → Option Addr → Nat → Nat → World → Nat),
  I0 (0 : Int) none (0 : Nat) (0 : Nat) w ∧
   ∀ (i2 : Int) (q3 : Option Addr) (n4 n5 : Nat) (w6 : World),
    I0 i2 q3 n4 n5 w6 →
     bif decide (i2 < (↑n0 : Int)) then
      ((0 : Int) ≤ i2 ∧ i2 < (↑n0 : Int)) ∧
       SX.Ptr p0 fun (a7 : Addr) =>
        ∃ (s8 : ByteArray),
         ∃ (i9 : Int),
          ∃ (i10 : Int),
           ∃ (i11 : Int),
            ∃ (i12 : Int),
             ∃ (i13 : Int),
              ∃ (i14 : Int),
               (w6.cell? ((a7.add (i2.toNat * (7 : Nat))).add (0 : Nat)) = some (Value.string s8) ∧
                 w6.cell? ((a7.add (i2.toNat * (7 : Nat))).add (1 : Nat)) = some (Value.int IntKind.i64 i9) ∧
                  w6.cell? ((a7.add (i2.toNat * (7 : Nat))).add (2 : Nat)) = some (Value.int IntKind.i64 i10) ∧
                   w6.cell? ((a7.add (i2.toNat * (7 : Nat))).add (3 : Nat)) = some (Value.int IntKind.i64 i11) ∧
                    w6.cell? ((a7.add (i2.toNat * (7 : Nat))).add (4 : Nat)) = some (Value.int IntKind.i64 i12) ∧
                     w6.cell? ((a7.add (i2.toNat * (7 : Nat))).add (5 : Nat)) = some (Value.int IntKind.u32 i13) ∧
                      w6.cell? ((a7.add (i2.toNat * (7 : Nat))).add (6 : Nat)) = some (Value.int IntKind.i64 i14) ∧ True) ∧
                Wr IntKind.u8 i14 fun (i15 : Int) =>
                 Wr IntKind.u8 (↑s8.size : Int) fun (i16 : Int) =>
                  Runs Tryd.prog
                   (Builtin.append_ #[(27 : Nat), (27 : Nat)] (27 : Nat)
                    #[Value.slice q3 n4 n5,
                     Value.slice
                      (some
                       {
                        block :=
                         ((((((((w6.alloc
                                          (Obj.cells
                                           #[Value.string { data := #[] }, Value.int IntKind.i64 (0 : Int), Value.int IntKind.i64 (0 : Int), Value.int IntKind.i64 (0 : Int),
                                            Value.int IntKind.i64 (0 : Int), Value.int IntKind.u32 (0 : Int), Value.int IntKind.i64 (0 : Int)]
                                           (50 : Nat))).setCell
                                        {block := w6.heap.size, off := (0 : Nat) } (Value.string s8)).setCell
                                      {block := w6.heap.size, off := (1 : Nat) } (Value.int IntKind.i64 i9)).setCell
                                    {block := w6.heap.size, off := (2 : Nat) } (Value.int IntKind.i64 i10)).setCell
                                  {block := w6.heap.size, off := (3 : Nat) } (Value.int IntKind.i64 i11)).setCell
                                {block := w6.heap.size, off := (4 : Nat) } (Value.int IntKind.i64 i12)).setCell
                              {block := w6.heap.size, off := (5 : Nat) } (Value.int IntKind.u32 i13)).setCell
                            {block := w6.heap.size, off := (6 : Nat) } (Value.int IntKind.i64 i14)).heap.size,
                        off := (0 : Nat) })
                      (2 : Nat) (2 : Nat)])
                   (((((((((w6.alloc
                                    (Obj.cells
                                     #[Value.string { data := #[] }, Value.int IntKind.i64 (0 : Int), Value.int IntKind.i64 (0 : Int), Value.int IntKind.i64 (0 : Int),
                                      Value.int IntKind.i64 (0 : Int), Value.int IntKind.u32 (0 : Int), Value.int IntKind.i64 (0 : Int)]
                                     (50 : Nat))).setCell
                                  {block := w6.heap.size, off := (0 : Nat) } (Value.string s8)).setCell
                                {block := w6.heap.size, off := (1 : Nat) } (Value.int IntKind.i64 i9)).setCell
                              {block := w6.heap.size, off := (2 : Nat) } (Value.int IntKind.i64 i10)).setCell
                            {block := w6.heap.size, off := (3 : Nat) } (Value.int IntKind.i64 i11)).setCell
                          {block := w6.heap.size, off := (4 : Nat) } (Value.int IntKind.i64 i12)).setCell
                        {block := w6.heap.size, off := (5 : Nat) } (Value.int IntKind.u32 i13)).setCell
                      {block := w6.heap.size, off := (6 : Nat) } (Value.int IntKind.i64 i14)).alloc
                    (Obj.cells #[Value.int IntKind.u8 i15, Value.int IntKind.u8 i16] (5 : Nat)))
                   fun (v17 : Value) (w18 : World) =>
                   ∃ (q19 : Option Addr),
                    ∃ (n20 : Nat),
                     ∃ (n21 : Nat),
                      v17 = Value.slice q19 n20 n21 ∧
                       Keeps
                         (((((((((w6.alloc
                                          (Obj.cells
                                           #[Value.string { data := #[] }, Value.int IntKind.i64 (0 : Int), Value.int IntKind.i64 (0 : Int), Value.int IntKind.i64 (0 : Int),
                                            Value.int IntKind.i64 (0 : Int), Value.int IntKind.u32 (0 : Int), Value.int IntKind.i64 (0 : Int)]
                                           (50 : Nat))).setCell
                                        {block := w6.heap.size, off := (0 : Nat) } (Value.string s8)).setCell
                                      {block := w6.heap.size, off := (1 : Nat) } (Value.int IntKind.i64 i9)).setCell
                                    {block := w6.heap.size, off := (2 : Nat) } (Value.int IntKind.i64 i10)).setCell
                                  {block := w6.heap.size, off := (3 : Nat) } (Value.int IntKind.i64 i11)).setCell
                                {block := w6.heap.size, off := (4 : Nat) } (Value.int IntKind.i64 i12)).setCell
                              {block := w6.heap.size, off := (5 : Nat) } (Value.int IntKind.u32 i13)).setCell
                            {block := w6.heap.size, off := (6 : Nat) } (Value.int IntKind.i64 i14)).alloc
                          (Obj.cells #[Value.int IntKind.u8 i15, Value.int IntKind.u8 i16] (5 : Nat)))
                         w18 [w6.heap.size] ∧
                        Wr IntKind.u32 i9 fun (i22 : Int) =>
                         Known w18
                           [(w6.heap.size,
                             [((0 : Nat), Value.string s8), ((1 : Nat), Value.int IntKind.i64 i9), ((2 : Nat), Value.int IntKind.i64 i10), ((3 : Nat), Value.int IntKind.i64 i11),
                              ((4 : Nat), Value.int IntKind.i64 i12), ((5 : Nat), Value.int IntKind.u32 i13), ((6 : Nat), Value.int IntKind.i64 i14)])] →
                          Rets Tryd.prog (120 : Nat) #[Value.int IntKind.u32 i22, Value.int IntKind.i64 (4 : Int)] w18 fun (v23 : Value) (w24 : World) =>
                           ∃ (q25 : Option Addr),
                            ∃ (n26 : Nat),
                             ∃ (n27 : Nat),
                              v23 = Value.slice q25 n26 n27 ∧
                               Keeps w18 w24 [w6.heap.size] ∧
                                Runs Tryd.prog (Builtin.append_ #[(27 : Nat), (27 : Nat)] (27 : Nat) #[Value.slice q19 n20 n21, Value.slice q25 n26 n27]) w24
                                 fun (v28 : Value) (w29 : World) =>
                                 ∃ (q30 : Option Addr),
                                  ∃ (n31 : Nat),
                                   ∃ (n32 : Nat),
                                    v28 = Value.slice q30 n31 n32 ∧
                                     Keeps w24 w29 [w6.heap.size] ∧
                                      Wr IntKind.u32 i12 fun (i33 : Int) =>
                                       Known w29
                                         [(w6.heap.size,
                                           [((0 : Nat), Value.string s8), ((1 : Nat), Value.int IntKind.i64 i9), ((2 : Nat), Value.int IntKind.i64 i10),
                                            ((3 : Nat), Value.int IntKind.i64 i11), ((4 : Nat), Value.int IntKind.i64 i12), ((5 : Nat), Value.int IntKind.u32 i13),
                                            ((6 : Nat), Value.int IntKind.i64 i14)])] →
                                        Rets Tryd.prog (120 : Nat) #[Value.int IntKind.u32 i33, Value.int IntKind.i64 (4 : Int)] w29 fun (v34 : Value) (w35 : World) =>
                                         ∃ (q36 : Option Addr),
                                          ∃ (n37 : Nat),
                                           ∃ (n38 : Nat),
                                            v34 = Value.slice q36 n37 n38 ∧
                                             Keeps w29 w35 [w6.heap.size] ∧
                                              Runs Tryd.prog (Builtin.append_ #[(27 : Nat), (27 : Nat)] (27 : Nat) #[Value.slice q30 n31 n32, Value.slice q36 n37 n38]) w35
                                               fun (v39 : Value) (w40 : World) =>
                                               ∃ (q41 : Option Addr),
                                                ∃ (n42 : Nat),
                                                 ∃ (n43 : Nat),
                                                  v39 = Value.slice q41 n42 n43 ∧
                                                   Keeps w35 w40 [w6.heap.size] ∧
                                                    Wr IntKind.u32 i11 fun (i44 : Int) =>
                                                     Known w40
                                                       [(w6.heap.size,
                                                         [((0 : Nat), Value.string s8), ((1 : Nat), Value.int IntKind.i64 i9),
                                                          ((2 : Nat), Value.int IntKind.i64 i10), ((3 : Nat), Value.int IntKind.i64 i11),
                                                          ((4 : Nat), Value.int IntKind.i64 i12), ((5 : Nat), Value.int IntKind.u32 i13),
                                                          ((6 : Nat), Value.int IntKind.i64 i14)])] →
                                                      Rets Tryd.prog (120 : Nat) #[Value.int IntKind.u32 i44, Value.int IntKind.i64 (4 : Int)] w40
                                                       fun (v45 : Value) (w46 : World) =>
                                                       ∃ (q47 : Option Addr),
                                                        ∃ (n48 : Nat),
                                                         ∃ (n49 : Nat),
                                                          v45 = Value.slice q47 n48 n49 ∧
                                                           Keeps w40 w46 [w6.heap.size] ∧
                                                            Runs Tryd.prog
                                                             (Builtin.append_ #[(27 : Nat), (27 : Nat)] (27 : Nat)
                                                              #[Value.slice q41 n42 n43, Value.slice q47 n48 n49])
                                                             w46 fun (v50 : Value) (w51 : World) =>
                                                             ∃ (q52 : Option Addr),
                                                              ∃ (n53 : Nat),
                                                               ∃ (n54 : Nat),
                                                                v50 = Value.slice q52 n53 n54 ∧
                                                                 Keeps w46 w51 [w6.heap.size] ∧
                                                                  (Known w51
                                                                    [(w6.heap.size,
                                                                      [((0 : Nat), Value.string s8), ((1 : Nat), Value.int IntKind.i64 i9),
                                                                       ((2 : Nat), Value.int IntKind.i64 i10),
                                                                       ((3 : Nat), Value.int IntKind.i64 i11),
                                                                       ((4 : Nat), Value.int IntKind.i64 i12),
                                                                       ((5 : Nat), Value.int IntKind.u32 i13),
                                                                       ((6 : Nat), Value.int IntKind.i64 i14)])] →
                                                                   Rets Tryd.prog (120 : Nat)
                                                                    #[Value.int IntKind.u32 i13, Value.int IntKind.i64 (4 : Int)] w51
                                                                    fun (v55 : Value) (w56 : World) =>
                                                                    ∃ (q57 : Option Addr),
                                                                     ∃ (n58 : Nat),
                                                                      ∃ (n59 : Nat),
                                                                       v55 = Value.slice q57 n58 n59 ∧
                                                                        Keeps w51 w56 [w6.heap.size] ∧
                                                                         Runs Tryd.prog
                                                                          (Builtin.append_ #[(27 : Nat), (27 : Nat)] (27 : Nat)
                                                                           #[Value.slice q52 n53 n54, Value.slice q57 n58 n59])
                                                                          w56 fun (v60 : Value) (w61 : World) =>
                                                                          ∃ (q62 : Option Addr),
                                                                           ∃ (n63 : Nat),
                                                                            ∃ (n64 : Nat),
                                                                             v60 = Value.slice q62 n63 n64 ∧
                                                                              Keeps w56 w61 [w6.heap.size] ∧
                                                                               Runs Tryd.prog
                                                                                (Builtin.append_ #[(27 : Nat), (9 : Nat)] (27 : Nat)
                                                                                 #[Value.slice q62 n63 n64, Value.string s8])
                                                                                w61 fun (v65 : Value) (w66 : World) =>
                                                                                ∃ (q67 : Option Addr),
                                                                                 ∃ (n68 : Nat),
                                                                                  ∃ (n69 : Nat),
                                                                                   v65 = Value.slice q67 n68 n69 ∧
                                                                                    Keeps w61 w66 [w6.heap.size] ∧
                                                                                     Wr IntKind.i64 (i2 + (1 : Int)) fun (i70 : Int) =>
                                                                                      I0 i70 q67 n68 n69 w66 ∧
                                                                                       I1 i70 q67 n68 n69 w66 < I1 i2 q3 n4 n5 w6)
     else R (Ending.returned (Value.slice q3 n4 n5)) w6
theorem vcTryd47 (p0 : Option Addr) (n0 c0 : Nat) (w : World) (R : Ending → World → Prop) : SX.vcFn Tryd.prog [(3, ⟨[(4, .int .i64), (3, .slice)], [0], []⟩)] Tryd.f47 [.v (.slice p0 n0 c0)] [] w R = VCTryd47 p0 n0 c0 w R := by kernel_rfl
def VCTryd117 (p0 : Option Addr) (n0 c0 : Nat) (p1 : Int) (w : World) (R : Ending → World → Prop) : Prop :=
Rets Tryd.prog (119 : Nat) #[Value.int IntKind.i64 p1, Value.int IntKind.i64 (0 : Int), Value.int IntKind.i64 (200 : Int)] w fun (v0 : Value) (w1 : World) =>
 ∃ (t2 : Bool),
  v0 = Value.bool t2 ∧
   Keeps w w1 [] ∧
    bif !t2 then R (Ending.returned (Value.tuple #[Value.slice none (0 : Nat) (0 : Nat), Value.int IntKind.i64 (14 : Int)])) w1
    else
     Rets Tryd.prog (109 : Nat) #[Value.slice p0 n0 c0] w1 fun (v3 : Value) (w4 : World) =>
      ∃ (q5 : Option Addr),
       v3 = Value.pointer q5 ∧
        Keeps w1 w4 [] ∧
         ∃ (I6 : Int → Option Addr → Nat → Nat → World → Prop),
          ∃ (I7 : Int → Option Addr → Nat → Nat → World → Nat),
           I6 (0 : Int) none (0 : Nat) (0 : Nat) w4 ∧
            ∀ (i8 : Int) (q9 : Option Addr) (n10 n11 : Nat) (w12 : World),
             I6 i8 q9 n10 n11 w12 →
              bif decide (i8 < p1) then
               Rets Tryd.prog (162 : Nat) #[Value.pointer q5] w12 fun (v13 : Value) (w14 : World) =>
                ∃ (s15 : ByteArray),
                 ∃ (i16 : Int),
                  ∃ (i17 : Int),
                   ∃ (i18 : Int),
                    ∃ (i19 : Int),
                     ∃ (i20 : Int),
                      ∃ (i21 : Int),
                       v13 =
                         Value.agg
                          #[Value.string s15, Value.int IntKind.i64 i16, Value.int IntKind.i64 i17, Value.int IntKind.i64 i18, Value.int IntKind.i64 i19, Value.int IntKind.u32 i20,
                           Value.int IntKind.i64 i21] ∧
                        Keeps w12 w14 [] ∧
                         Runs Tryd.prog
                          (Builtin.append_ #[(42 : Nat), (42 : Nat)] (42 : Nat) #[Value.slice q9 n10 n11, Value.slice (some { block := w14.heap.size, off := (0 : Nat) }) (1 : Nat) (1 : Nat)])
                          (w14.alloc
                           (Obj.cells
                            #[Value.string s15, Value.int IntKind.i64 i16, Value.int IntKind.i64 i17, Value.int IntKind.i64 i18, Value.int IntKind.i64 i19, Value.int IntKind.u32 i20,
                             Value.int IntKind.i64 i21]
                            (50 : Nat)))
                          fun (v22 : Value) (w23 : World) =>
                          ∃ (q24 : Option Addr),
                           ∃ (n25 : Nat),
                            ∃ (n26 : Nat),
                             v22 = Value.slice q24 n25 n26 ∧
                              Keeps
                                (w14.alloc
                                 (Obj.cells
                                  #[Value.string s15, Value.int IntKind.i64 i16, Value.int IntKind.i64 i17, Value.int IntKind.i64 i18, Value.int IntKind.i64 i19,
                                   Value.int IntKind.u32 i20, Value.int IntKind.i64 i21]
                                  (50 : Nat)))
                                w23 [] ∧
                               Wr IntKind.i64 (i8 + (1 : Int)) fun (i27 : Int) => I6 i27 q24 n25 n26 w23 ∧ I7 i27 q24 n25 n26 w23 < I7 i8 q9 n10 n11 w12
              else
               Rets Tryd.prog (113 : Nat) #[Value.pointer q5] w12 fun (v28 : Value) (w29 : World) =>
                ∃ (t30 : Bool),
                 v28 = Value.bool t30 ∧
                  Keeps w12 w29 [] ∧
                   bif !t30 then R (Ending.returned (Value.tuple #[Value.slice none (0 : Nat) (0 : Nat), Value.int IntKind.i64 (2 : Int)])) w29
                   else
                    Rets Tryd.prog (163 : Nat) #[Value.pointer q5] w29 fun (v31 : Value) (w32 : World) =>
                     ∃ (i33 : Int),
                      v31 = Value.int IntKind.i64 i33 ∧
                       Keeps w29 w32 [] ∧
                        bif decide (i33 > (0 : Int)) then R (Ending.returned (Value.tuple #[Value.slice none (0 : Nat) (0 : Nat), Value.int IntKind.i64 (3 : Int)])) w32
                        else
                         Rets Tryd.prog (43 : Nat) #[Value.slice q9 n10 n11] w32 fun (v34 : Value) (w35 : World) =>
                          ∃ (t36 : Bool),
                           v34 = Value.bool t36 ∧
                            Keeps w32 w35 [] ∧
                             bif !t36 then R (Ending.returned (Value.tuple #[Value.slice none (0 : Nat) (0 : Nat), Value.int IntKind.i64 (3 : Int)])) w35
                             else R (Ending.returned (Value.tuple #[Value.slice q9 n10 n11, Value.int IntKind.i64 (0 : Int)])) w35
theorem vcTryd117 (p0 : Option Addr) (n0 c0 : Nat) (p1 : Int) (w : World) (R : Ending → World → Prop) : SX.vcFn Tryd.prog [(6, ⟨[(14, .int .i64), (7, .slice)], [6, 13], []⟩)] Tryd.f117 [.v (.slice p0 n0 c0), .v (.int .i64 p1)] [] w R = VCTryd117 p0 n0 c0 p1 w R := by kernel_rfl
def VCTryd118 (p0 : Option Addr) (n0 c0 : Nat) (p1 : Option Addr) (n1 c1 : Nat) (w : World) (R : Ending → World → Prop) : Prop :=
bif (↑n0 : Int) != (↑n1 : Int) then R (Ending.returned (Value.bool false)) w
else
 ∃ (I0 : Int → World → Prop),
  ∃ (I1 : Int → World → Nat),
   I0 (0 : Int) w ∧
    ∀ (i2 : Int) (w3 : World),
     I0 i2 w3 →
      bif decide (i2 < (↑n0 : Int)) then
       ((0 : Int) ≤ i2 ∧ i2 < (↑n0 : Int)) ∧
        SX.Ptr p0 fun (a4 : Addr) =>
         ∃ (s5 : ByteArray),
          ∃ (i6 : Int),
           ∃ (i7 : Int),
            ∃ (i8 : Int),
             ∃ (i9 : Int),
              ∃ (i10 : Int),
               ∃ (i11 : Int),
                (w3.drew.cell? ((a4.add (i2.toNat * (7 : Nat))).add (0 : Nat)) = some (Value.string s5) ∧
                  w3.drew.cell? ((a4.add (i2.toNat * (7 : Nat))).add (1 : Nat)) = some (Value.int IntKind.i64 i6) ∧
                   w3.drew.cell? ((a4.add (i2.toNat * (7 : Nat))).add (2 : Nat)) = some (Value.int IntKind.i64 i7) ∧
                    w3.drew.cell? ((a4.add (i2.toNat * (7 : Nat))).add (3 : Nat)) = some (Value.int IntKind.i64 i8) ∧
                     w3.drew.cell? ((a4.add (i2.toNat * (7 : Nat))).add (4 : Nat)) = some (Value.int IntKind.i64 i9) ∧
                      w3.drew.cell? ((a4.add (i2.toNat * (7 : Nat))).add (5 : Nat)) = some (Value.int IntKind.u32 i10) ∧
                       w3.drew.cell? ((a4.add (i2.toNat * (7 : Nat))).add (6 : Nat)) = some (Value.int IntKind.i64 i11) ∧ True) ∧
                 ((0 : Int) ≤ i2 ∧ i2 < (↑n1 : Int)) ∧
                  SX.Ptr p1 fun (a12 : Addr) =>
                   ∃ (s13 : ByteArray),
                    ∃ (i14 : Int),
                     ∃ (i15 : Int),
                      ∃ (i16 : Int),
                       ∃ (i17 : Int),
                        ∃ (i18 : Int),
                         ∃ (i19 : Int),
                          (w3.drew.cell? ((a12.add (i2.toNat * (7 : Nat))).add (0 : Nat)) = some (Value.string s13) ∧
                            w3.drew.cell? ((a12.add (i2.toNat * (7 : Nat))).add (1 : Nat)) = some (Value.int IntKind.i64 i14) ∧
                             w3.drew.cell? ((a12.add (i2.toNat * (7 : Nat))).add (2 : Nat)) = some (Value.int IntKind.i64 i15) ∧
                              w3.drew.cell? ((a12.add (i2.toNat * (7 : Nat))).add (3 : Nat)) = some (Value.int IntKind.i64 i16) ∧
                               w3.drew.cell? ((a12.add (i2.toNat * (7 : Nat))).add (4 : Nat)) = some (Value.int IntKind.i64 i17) ∧
                                w3.drew.cell? ((a12.add (i2.toNat * (7 : Nat))).add (5 : Nat)) = some (Value.int IntKind.u32 i18) ∧
                                 w3.drew.cell? ((a12.add (i2.toNat * (7 : Nat))).add (6 : Nat)) = some (Value.int IntKind.i64 i19) ∧ True) ∧
                           true = true ∧
                            bif !(s5.toList == s13.toList && (i6 == i14 && (i7 == i15 && (i8 == i16 && (i9 == i17 && (i10 == i18 && i11 == i19)))))) then
                             R (Ending.returned (Value.bool false)) w3.drew
                            else Wr IntKind.i64 (i2 + (1 : Int)) fun (i20 : Int) => I0 i20 w3.drew ∧ I1 i20 w3.drew < I1 i2 w3
      else R (Ending.returned (Value.bool true)) w3
theorem vcTryd118 (p0 : Option Addr) (n0 c0 : Nat) (p1 : Option Addr) (n1 c1 : Nat) (w : World) (R : Ending → World → Prop) : SX.vcFn Tryd.prog [(4, ⟨[(13, .int .i64)], [1, 0, 12], []⟩)] Tryd.f118 [.v (.slice p0 n0 c0), .v (.slice p1 n1 c1)] [] w R = VCTryd118 p0 n0 c0 p1 n1 c1 w R := by kernel_rfl
def VCTryd119 (p0 : Int) (p1 : Int) (p2 : Int) (w : World) (R : Ending → World → Prop) : Prop :=
bif decide (p0 ≥ p1) then R (Ending.returned (Value.bool (decide (p0 ≤ p2)))) w else R (Ending.returned (Value.bool false)) w
theorem vcTryd119 (p0 : Int) (p1 : Int) (p2 : Int) (w : World) (R : Ending → World → Prop) : SX.vcFn Tryd.prog [] Tryd.f119 [.v (.int .i64 p0), .v (.int .i64 p1), .v (.int .i64 p2)] [] w R = VCTryd119 p0 p1 p2 w R := by kernel_rfl
def VCTryd162 (p0 : Option Addr) (w : World) (R : Ending → World → Prop) : Prop :=
Known
  (w.alloc
   (Obj.cells
    #[Value.string { data := #[] }, Value.int IntKind.i64 (0 : Int), Value.int IntKind.i64 (0 : Int), Value.int IntKind.i64 (0 : Int), Value.int IntKind.i64 (0 : Int), Value.int IntKind.u32 (0 : Int),
     Value.int IntKind.i64 (0 : Int)]
    (50 : Nat)))
  [(w.heap.size,
    [((0 : Nat), Value.string { data := #[] }), ((1 : Nat), Value.int IntKind.i64 (0 : Int)), ((2 : Nat), Value.int IntKind.i64 (0 : Int)), ((3 : Nat), Value.int IntKind.i64 (0 : Int)),
     ((4 : Nat), Value.int IntKind.i64 (0 : Int)), ((5 : Nat), Value.int IntKind.u32 (0 : Int)), ((6 : Nat), Value.int IntKind.i64 (0 : Int))])] →
 Rets Tryd.prog (111 : Nat) #[Value.pointer p0, Value.int IntKind.i64 (1 : Int)]
  (w.alloc
   (Obj.cells
    #[Value.string { data := #[] }, Value.int IntKind.i64 (0 : Int), Value.int IntKind.i64 (0 : Int), Value.int IntKind.i64 (0 : Int), Value.int IntKind.i64 (0 : Int), Value.int IntKind.u32 (0 : Int),
     Value.int IntKind.i64 (0 : Int)]
    (50 : Nat)))
  fun (v0 : Value) (w1 : World) =>
  ∃ (i2 : Int),
   v0 = Value.int IntKind.u32 i2 ∧
    Keeps
      (w.alloc
       (Obj.cells
        #[Value.string { data := #[] }, Value.int IntKind.i64 (0 : Int), Value.int IntKind.i64 (0 : Int), Value.int IntKind.i64 (0 : Int), Value.int IntKind.i64 (0 : Int), Value.int IntKind.u32 (0 : Int),
         Value.int IntKind.i64 (0 : Int)]
        (50 : Nat)))
      w1 [w.heap.size] ∧
     Wr IntKind.i64 i2 fun (i3 : Int) =>
      Known
        ((((((((w1.alloc
                       (Obj.cells
                        #[Value.string { data := #[] }, Value.int IntKind.i64 (0 : Int), Value.int IntKind.i64 (0 : Int), Value.int IntKind.i64 (0 : Int), Value.int IntKind.i64 (0 : Int),
                         Value.int IntKind.u32 (0 : Int), Value.int IntKind.i64 (0 : Int)]
                        (50 : Nat))).setCell
                     {block := w1.heap.size, off := (0 : Nat) } (Value.string { data := #[] })).setCell
                   {block := w1.heap.size, off := (1 : Nat) } (Value.int IntKind.i64 (0 : Int))).setCell
                 {block := w1.heap.size, off := (2 : Nat) } (Value.int IntKind.i64 (0 : Int))).setCell
               {block := w1.heap.size, off := (3 : Nat) } (Value.int IntKind.i64 (0 : Int))).setCell
             {block := w1.heap.size, off := (4 : Nat) } (Value.int IntKind.i64 (0 : Int))).setCell
           {block := w1.heap.size, off := (5 : Nat) } (Value.int IntKind.u32 (0 : Int))).setCell
         {block := w1.heap.size, off := (6 : Nat) } (Value.int IntKind.i64 i3))
        [(w.heap.size,
          [((0 : Nat), Value.string { data := #[] }), ((1 : Nat), Value.int IntKind.i64 (0 : Int)), ((2 : Nat), Value.int IntKind.i64 (0 : Int)), ((3 : Nat), Value.int IntKind.i64 (0 : Int)),
           ((4 : Nat), Value.int IntKind.i64 (0 : Int)), ((5 : Nat), Value.int IntKind.u32 (0 : Int)), ((6 : Nat), Value.int IntKind.i64 (0 : Int))]),
         (w1.heap.size,
          [((0 : Nat), Value.string { data := #[] }), ((1 : Nat), Value.int IntKind.i64 (0 : Int)), ((2 : Nat), Value.int IntKind.i64 (0 : Int)), ((3 : Nat), Value.int IntKind.i64 (0 : Int)),
           ((4 : Nat), Value.int IntKind.i64 (0 : Int)), ((5 : Nat), Value.int IntKind.u32 (0 : Int)), ((6 : Nat), Value.int IntKind.i64 i3)])] →
       Rets Tryd.prog (111 : Nat) #[Value.pointer p0, Value.int IntKind.i64 (1 : Int)]
        ((((((((w1.alloc
                       (Obj.cells
                        #[Value.string { data := #[] }, Value.int IntKind.i64 (0 : Int), Value.int IntKind.i64 (0 : Int), Value.int IntKind.i64 (0 : Int), Value.int IntKind.i64 (0 : Int),
                         Value.int IntKind.u32 (0 : Int), Value.int IntKind.i64 (0 : Int)]
                        (50 : Nat))).setCell
                     {block := w1.heap.size, off := (0 : Nat) } (Value.string { data := #[] })).setCell
                   {block := w1.heap.size, off := (1 : Nat) } (Value.int IntKind.i64 (0 : Int))).setCell
                 {block := w1.heap.size, off := (2 : Nat) } (Value.int IntKind.i64 (0 : Int))).setCell
               {block := w1.heap.size, off := (3 : Nat) } (Value.int IntKind.i64 (0 : Int))).setCell
             {block := w1.heap.size, off := (4 : Nat) } (Value.int IntKind.i64 (0 : Int))).setCell
           {block := w1.heap.size, off := (5 : Nat) } (Value.int IntKind.u32 (0 : Int))).setCell
         {block := w1.heap.size, off := (6 : Nat) } (Value.int IntKind.i64 i3))
        fun (v4 : Value) (w5 : World) =>
        ∃ (i6 : Int),
         v4 = Value.int IntKind.u32 i6 ∧
          Keeps
            ((((((((w1.alloc
                           (Obj.cells
                            #[Value.string { data := #[] }, Value.int IntKind.i64 (0 : Int), Value.int IntKind.i64 (0 : Int), Value.int IntKind.i64 (0 : Int), Value.int IntKind.i64 (0 : Int),
                             Value.int IntKind.u32 (0 : Int), Value.int IntKind.i64 (0 : Int)]
                            (50 : Nat))).setCell
                         {block := w1.heap.size, off := (0 : Nat) } (Value.string { data := #[] })).setCell
                       {block := w1.heap.size, off := (1 : Nat) } (Value.int IntKind.i64 (0 : Int))).setCell
                     {block := w1.heap.size, off := (2 : Nat) } (Value.int IntKind.i64 (0 : Int))).setCell
                   {block := w1.heap.size, off := (3 : Nat) } (Value.int IntKind.i64 (0 : Int))).setCell
                 {block := w1.heap.size, off := (4 : Nat) } (Value.int IntKind.i64 (0 : Int))).setCell
               {block := w1.heap.size, off := (5 : Nat) } (Value.int IntKind.u32 (0 : Int))).setCell
             {block := w1.heap.size, off := (6 : Nat) } (Value.int IntKind.i64 i3))
            w5 [w.heap.size, w1.heap.size] ∧
           Wr IntKind.i64 i6 fun (i7 : Int) =>
            Known w5
              [(w.heap.size,
                [((0 : Nat), Value.string { data := #[] }), ((1 : Nat), Value.int IntKind.i64 (0 : Int)), ((2 : Nat), Value.int IntKind.i64 (0 : Int)), ((3 : Nat), Value.int IntKind.i64 (0 : Int)),
                 ((4 : Nat), Value.int IntKind.i64 (0 : Int)), ((5 : Nat), Value.int IntKind.u32 (0 : Int)), ((6 : Nat), Value.int IntKind.i64 (0 : Int))]),
               (w1.heap.size,
                [((0 : Nat), Value.string { data := #[] }), ((1 : Nat), Value.int IntKind.i64 (0 : Int)), ((2 : Nat), Value.int IntKind.i64 (0 : Int)), ((3 : Nat), Value.int IntKind.i64 (0 : Int)),
                 ((4 : Nat), Value.int IntKind.i64 (0 : Int)), ((5 : Nat), Value.int IntKind.u32 (0 : Int)), ((6 : Nat), Value.int IntKind.i64 i3)])] →
             Rets Tryd.prog (111 : Nat) #[Value.pointer p0, Value.int IntKind.i64 (4 : Int)] w5 fun (v8 : Value) (w9 : World) =>
              ∃ (i10 : Int),
               v8 = Value.int IntKind.u32 i10 ∧
                Keeps w5 w9 [w.heap.size, w1.heap.size] ∧
                 Wr IntKind.i64 i10 fun (i11 : Int) =>
                  Known w9
                    [(w.heap.size,
                      [((0 : Nat), Value.string { data := #[] }), ((1 : Nat), Value.int IntKind.i64 (0 : Int)), ((2 : Nat), Value.int IntKind.i64 (0 : Int)),
                       ((3 : Nat), Value.int IntKind.i64 (0 : Int)), ((4 : Nat), Value.int IntKind.i64 (0 : Int)), ((5 : Nat), Value.int IntKind.u32 (0 : Int)),
                       ((6 : Nat), Value.int IntKind.i64 (0 : Int))]),
                     (w1.heap.size,
                      [((0 : Nat), Value.string { data := #[] }), ((1 : Nat), Value.int IntKind.i64 (0 : Int)), ((2 : Nat), Value.int IntKind.i64 (0 : Int)),
                       ((3 : Nat), Value.int IntKind.i64 (0 : Int)), ((4 : Nat), Value.int IntKind.i64 (0 : Int)), ((5 : Nat), Value.int IntKind.u32 (0 : Int)),
                       ((6 : Nat), Value.int IntKind.i64 i3)])] →
                   Rets Tryd.prog (111 : Nat) #[Value.pointer p0, Value.int IntKind.i64 (4 : Int)] w9 fun (v12 : Value) (w13 : World) =>
                    ∃ (i14 : Int),
                     v12 = Value.int IntKind.u32 i14 ∧
                      Keeps w9 w13 [w.heap.size, w1.heap.size] ∧
                       Wr IntKind.i64 i14 fun (i15 : Int) =>
                        Known w13
                          [(w.heap.size,
                            [((0 : Nat), Value.string { data := #[] }), ((1 : Nat), Value.int IntKind.i64 (0 : Int)), ((2 : Nat), Value.int IntKind.i64 (0 : Int)),
                             ((3 : Nat), Value.int IntKind.i64 (0 : Int)), ((4 : Nat), Value.int IntKind.i64 (0 : Int)), ((5 : Nat), Value.int IntKind.u32 (0 : Int)),
                             ((6 : Nat), Value.int IntKind.i64 (0 : Int))]),
                           (w1.heap.size,
                            [((0 : Nat), Value.string { data := #[] }), ((1 : Nat), Value.int IntKind.i64 (0 : Int)), ((2 : Nat), Value.int IntKind.i64 (0 : Int)),
                             ((3 : Nat), Value.int IntKind.i64 (0 : Int)), ((4 : Nat), Value.int IntKind.i64 (0 : Int)), ((5 : Nat), Value.int IntKind.u32 (0 : Int)),
                             ((6 : Nat), Value.int IntKind.i64 i3)])] →
                         Rets Tryd.prog (111 : Nat) #[Value.pointer p0, Value.int IntKind.i64 (4 : Int)] w13 fun (v16 : Value) (w17 : World) =>
                          ∃ (i18 : Int),
                           v16 = Value.int IntKind.u32 i18 ∧
                            Keeps w13 w17 [w.heap.size, w1.heap.size] ∧
                             Wr IntKind.i64 i18 fun (i19 : Int) =>
                              Known w17
                                [(w.heap.size,
                                  [((0 : Nat), Value.string { data := #[] }), ((1 : Nat), Value.int IntKind.i64 (0 : Int)), ((2 : Nat), Value.int IntKind.i64 (0 : Int)),
                                   ((3 : Nat), Value.int IntKind.i64 (0 : Int)), ((4 : Nat), Value.int IntKind.i64 (0 : Int)), ((5 : Nat), Value.int IntKind.u32 (0 : Int)),
                                   ((6 : Nat), Value.int IntKind.i64 (0 : Int))]),
                                 (w1.heap.size,
                                  [((0 : Nat), Value.string { data := #[] }), ((1 : Nat), Value.int IntKind.i64 (0 : Int)), ((2 : Nat), Value.int IntKind.i64 (0 : Int)),
                                   ((3 : Nat), Value.int IntKind.i64 (0 : Int)), ((4 : Nat), Value.int IntKind.i64 (0 : Int)), ((5 : Nat), Value.int IntKind.u32 (0 : Int)),
                                   ((6 : Nat), Value.int IntKind.i64 i3)])] →
                               Rets Tryd.prog (111 : Nat) #[Value.pointer p0, Value.int IntKind.i64 (4 : Int)] w17 fun (v20 : Value) (w21 : World) =>
                                ∃ (i22 : Int),
                                 v20 = Value.int IntKind.u32 i22 ∧
                                  Keeps w17 w21 [w.heap.size, w1.heap.size] ∧
                                   (Known
                                     ((((w21.setCell { block := w1.heap.size, off := (1 : Nat) } (Value.int IntKind.i64 i11)).setCell { block := w1.heap.size, off := (4 : Nat) }
                                          (Value.int IntKind.i64 i15)).setCell
                                        {block := w1.heap.size, off := (3 : Nat) } (Value.int IntKind.i64 i19)).setCell
                                      {block := w1.heap.size, off := (5 : Nat) } (Value.int IntKind.u32 i22))
                                     [(w.heap.size,
                                       [((0 : Nat), Value.string { data := #[] }), ((1 : Nat), Value.int IntKind.i64 (0 : Int)), ((2 : Nat), Value.int IntKind.i64 (0 : Int)),
                                        ((3 : Nat), Value.int IntKind.i64 (0 : Int)), ((4 : Nat), Value.int IntKind.i64 (0 : Int)), ((5 : Nat), Value.int IntKind.u32 (0 : Int)),
                                        ((6 : Nat), Value.int IntKind.i64 (0 : Int))]),
                                      (w1.heap.size,
                                       [((0 : Nat), Value.string { data := #[] }), ((1 : Nat), Value.int IntKind.i64 i11), ((2 : Nat), Value.int IntKind.i64 (0 : Int)),
                                        ((3 : Nat), Value.int IntKind.i64 i19), ((4 : Nat), Value.int IntKind.i64 i15), ((5 : Nat), Value.int IntKind.u32 i22),
                                        ((6 : Nat), Value.int IntKind.i64 i3)])] →
                                    Rets Tryd.prog (110 : Nat) #[Value.pointer p0, Value.int IntKind.i64 i7]
                                     ((((w21.setCell { block := w1.heap.size, off := (1 : Nat) } (Value.int IntKind.i64 i11)).setCell { block := w1.heap.size, off := (4 : Nat) }
                                          (Value.int IntKind.i64 i15)).setCell
                                        {block := w1.heap.size, off := (3 : Nat) } (Value.int IntKind.i64 i19)).setCell
                                      {block := w1.heap.size, off := (5 : Nat) } (Value.int IntKind.u32 i22))
                                     fun (v23 : Value) (w24 : World) =>
                                     ∃ (q25 : Option Addr),
                                      ∃ (n26 : Nat),
                                       ∃ (n27 : Nat),
                                        v23 = Value.slice q25 n26 n27 ∧
                                         Keeps
                                           ((((w21.setCell { block := w1.heap.size, off := (1 : Nat) } (Value.int IntKind.i64 i11)).setCell
                                                {block := w1.heap.size, off := (4 : Nat) } (Value.int IntKind.i64 i15)).setCell
                                              {block := w1.heap.size, off := (3 : Nat) } (Value.int IntKind.i64 i19)).setCell
                                            {block := w1.heap.size, off := (5 : Nat) } (Value.int IntKind.u32 i22))
                                           w24 [w.heap.size, w1.heap.size] ∧
                                          ∃ (s28 : ByteArray),
                                           s28.size = n26 ∧
                                            BytesAt w24 q25 s28 ∧
                                             (Known (w24.setCell { block := w1.heap.size, off := (0 : Nat) } (Value.string s28)).drew
                                               [(w.heap.size,
                                                 [((0 : Nat), Value.string { data := #[] }), ((1 : Nat), Value.int IntKind.i64 (0 : Int)),
                                                  ((2 : Nat), Value.int IntKind.i64 (0 : Int)), ((3 : Nat), Value.int IntKind.i64 (0 : Int)),
                                                  ((4 : Nat), Value.int IntKind.i64 (0 : Int)), ((5 : Nat), Value.int IntKind.u32 (0 : Int)),
                                                  ((6 : Nat), Value.int IntKind.i64 (0 : Int))]),
                                                (w1.heap.size,
                                                 [((0 : Nat), Value.string s28), ((1 : Nat), Value.int IntKind.i64 i11), ((2 : Nat), Value.int IntKind.i64 (0 : Int)),
                                                  ((3 : Nat), Value.int IntKind.i64 i19), ((4 : Nat), Value.int IntKind.i64 i15), ((5 : Nat), Value.int IntKind.u32 i22),
                                                  ((6 : Nat), Value.int IntKind.i64 i3)])] →
                                              Rets Tryd.prog (52 : Nat) #[Value.string s28] (w24.setCell { block := w1.heap.size, off := (0 : Nat) } (Value.string s28)).drew
                                               fun (v29 : Value) (w30 : World) =>
                                               ∃ (i31 : Int),
                                                v29 = Value.int IntKind.i64 i31 ∧
                                                 Keeps (w24.setCell { block := w1.heap.size, off := (0 : Nat) } (Value.string s28)).drew w30 [w.heap.size, w1.heap.size] ∧
                                                  w30.cell? { block := w1.heap.size, off := (1 : Nat) } = some (Value.int IntKind.i64 i11) ∧
                                                   Wr IntKind.i64 (i11 + i31) fun (i32 : Int) =>
                                                    Known
                                                      ((((((((w30.setCell { block := w1.heap.size, off := (2 : Nat) } (Value.int IntKind.i64 i32)).setCell
                                                              {block := w.heap.size, off := (0 : Nat) } (Value.string s28)).setCell
                                                             {block := w.heap.size, off := (1 : Nat) } (Value.int IntKind.i64 i11)).setCell
                                                            {block := w.heap.size, off := (2 : Nat) } (Value.int IntKind.i64 i32)).setCell
                                                           {block := w.heap.size, off := (3 : Nat) } (Value.int IntKind.i64 i19)).setCell
                                                          {block := w.heap.size, off := (4 : Nat) } (Value.int IntKind.i64 i15)).setCell
                                                         {block := w.heap.size, off := (5 : Nat) } (Value.int IntKind.u32 i22)).setCell
                                                       {block := w.heap.size, off := (6 : Nat) } (Value.int IntKind.i64 i3))
                                                      [(w.heap.size,
                                                        [((0 : Nat), Value.string s28), ((1 : Nat), Value.int IntKind.i64 i11),
                                                         ((2 : Nat), Value.int IntKind.i64 i32), ((3 : Nat), Value.int IntKind.i64 i19),
                                                         ((4 : Nat), Value.int IntKind.i64 i15), ((5 : Nat), Value.int IntKind.u32 i22),
                                                         ((6 : Nat), Value.int IntKind.i64 i3)]),
                                                       (w1.heap.size,
                                                        [((0 : Nat), Value.string s28), ((1 : Nat), Value.int IntKind.i64 i11),
                                                         ((2 : Nat), Value.int IntKind.i64 i32), ((3 : Nat), Value.int IntKind.i64 i19),
                                                         ((4 : Nat), Value.int IntKind.i64 i15), ((5 : Nat), Value.int IntKind.u32 i22),
                                                         ((6 : Nat), Value.int IntKind.i64 i3)])] →
                                                     R
                                                      (Ending.returned
                                                       (Value.agg
                                                        #[Value.string s28, Value.int IntKind.i64 i11, Value.int IntKind.i64 i32, Value.int IntKind.i64 i19,
                                                         Value.int IntKind.i64 i15, Value.int IntKind.u32 i22, Value.int IntKind.i64 i3]))
                                                      ((((((((w30.setCell { block := w1.heap.size, off := (2 : Nat) } (Value.int IntKind.i64 i32)).setCell
                                                              {block := w.heap.size, off := (0 : Nat) } (Value.string s28)).setCell
                                                             {block := w.heap.size, off := (1 : Nat) } (Value.int IntKind.i64 i11)).setCell
                                                            {block := w.heap.size, off := (2 : Nat) } (Value.int IntKind.i64 i32)).setCell
                                                           {block := w.heap.size, off := (3 : Nat) } (Value.int IntKind.i64 i19)).setCell
                                                          {block := w.heap.size, off := (4 : Nat) } (Value.int IntKind.i64 i15)).setCell
                                                         {block := w.heap.size, off := (5 : Nat) } (Value.int IntKind.u32 i22)).setCell
                                                       {block := w.heap.size, off := (6 : Nat) } (Value.int IntKind.i64 i3))))
theorem vcTryd162 (p0 : Option Addr) (w : World) (R : Ending → World → Prop) : SX.vcFn Tryd.prog [] Tryd.f162 [.v (.pointer p0)] [] w R = VCTryd162 p0 w R := by kernel_rfl
def VCTryd6 (p0 : Option Addr) (n0 c0 : Nat) (p1 : Option Addr) (n1 c1 : Nat) (w : World) (R : Ending → World → Prop) : Prop :=
Rets Tryd.prog (36 : Nat) #[Value.slice p0 n0 c0] w fun (v0 : Value) (w1 : World) =>
 ∃ (t2 : Bool),
  v0 = Value.bool t2 ∧
   Keeps w w1 [] ∧
    bif t2 then Rets Tryd.prog (37 : Nat) #[] w1 fun (v3 : Value) (w4 : World) => ∃ (t5 : Bool), v3 = Value.bool t5 ∧ Keeps w1 w4 [] ∧ R (Ending.returned (Value.bool t5)) w4
    else
     Rets Tryd.prog (36 : Nat) #[Value.slice p1 n1 c1] w1 fun (v6 : Value) (w7 : World) =>
      ∃ (t8 : Bool),
       v6 = Value.bool t8 ∧
        Keeps w1 w7 [] ∧
         bif t8 then Rets Tryd.prog (37 : Nat) #[] w7 fun (v9 : Value) (w10 : World) => ∃ (t11 : Bool), v9 = Value.bool t11 ∧ Keeps w7 w10 [] ∧ R (Ending.returned (Value.bool t11)) w10
         else
          Rets Tryd.prog (38 : Nat) #[Value.slice p0 n0 c0, Value.slice p1 n1 c1] w7 fun (v12 : Value) (w13 : World) =>
           ∃ (t14 : Bool),
            v12 = Value.bool t14 ∧
             Keeps w7 w13 [] ∧
              Rets Tryd.prog (39 : Nat) #[Value.slice p0 n0 c0, Value.slice p1 n1 c1] w13 fun (v15 : Value) (w16 : World) =>
               ∃ (t17 : Bool),
                v15 = Value.bool t17 ∧
                 Keeps w13 w16 [] ∧
                  bif t14 == t17 then
                   Rets Tryd.prog (38 : Nat) #[Value.slice p0 n0 c0, Value.slice p0 n0 c0] w16 fun (v18 : Value) (w19 : World) =>
                    ∃ (t20 : Bool),
                     v18 = Value.bool t20 ∧
                      Keeps w16 w19 [] ∧
                       bif t20 then
                        Rets Tryd.prog (37 : Nat) #[] w19 fun (v21 : Value) (w22 : World) => ∃ (t23 : Bool), v21 = Value.bool t23 ∧ Keeps w19 w22 [] ∧ R (Ending.returned (Value.bool t23)) w22
                       else R (Ending.returned (Value.bool false)) w19
                  else R (Ending.returned (Value.bool false)) w16
theorem vcTryd6 (p0 : Option Addr) (n0 c0 : Nat) (p1 : Option Addr) (n1 c1 : Nat) (w : World) (R : Ending → World → Prop) : SX.vcFn Tryd.prog [] Tryd.f6 [.v (.slice p0 n0 c0), .v (.slice p1 n1 c1)] [] w R = VCTryd6 p0 n0 c0 p1 n1 c1 w R := by kernel_rfl
def VCTryd7 (p0 : Option Addr) (n0 c0 : Nat) (w : World) (R : Ending → World → Prop) : Prop :=
Rets Tryd.prog (36 : Nat) #[Value.slice p0 n0 c0] w fun (v0 : Value) (w1 : World) =>
 ∃ (t2 : Bool),
  v0 = Value.bool t2 ∧
   Keeps w w1 [] ∧
    bif t2 then Rets Tryd.prog (37 : Nat) #[] w1 fun (v3 : Value) (w4 : World) => ∃ (t5 : Bool), v3 = Value.bool t5 ∧ Keeps w1 w4 [] ∧ R (Ending.returned (Value.bool t5)) w4
    else
     Rets Tryd.prog (40 : Nat) #[Value.slice p0 n0 c0] w1 fun (v6 : Value) (w7 : World) =>
      ∃ (t8 : Bool),
       v6 = Value.bool t8 ∧
        Keeps w1 w7 [] ∧
         Rets Tryd.prog (41 : Nat) #[Value.slice p0 n0 c0] w7 fun (v9 : Value) (w10 : World) =>
          ∃ (q11 : Option Addr),
           ∃ (n12 : Nat),
            ∃ (n13 : Nat),
             ∃ (i14 : Int),
              v9 = Value.tuple #[Value.slice q11 n12 n13, Value.int IntKind.i64 i14] ∧
               Keeps w7 w10 [] ∧
                Rets Tryd.prog (42 : Nat) #[Value.slice p0 n0 c0] w10 fun (v15 : Value) (w16 : World) =>
                 ∃ (q17 : Option Addr),
                  ∃ (n18 : Nat),
                   ∃ (n19 : Nat),
                    v15 = Value.slice q17 n18 n19 ∧
                     Keeps w10 w16 [] ∧
                      Rets Tryd.prog (43 : Nat) #[Value.slice p0 n0 c0] w16 fun (v20 : Value) (w21 : World) =>
                       ∃ (t22 : Bool),
                        v20 = Value.bool t22 ∧
                         Keeps w16 w21 [] ∧
                          bif !t22 == t8 then R (Ending.returned (Value.bool false)) w21
                          else
                           bif (↑n18 : Int) != (↑n0 : Int) then R (Ending.returned (Value.bool false)) w21
                           else
                            ∃ (I23 : Int → Int → World → Prop),
                             ∃ (I24 : Int → Int → World → Nat),
                              I23 (0 : Int) (0 : Int) w21 ∧
                               ∀ (i25 i26 : Int) (w27 : World),
                                I23 i25 i26 w27 →
                                 bif decide (i26 < (↑n0 : Int)) then
                                  ((0 : Int) ≤ i26 ∧ i26 < (↑n0 : Int)) ∧
                                   SX.Ptr p0 fun (a28 : Addr) =>
                                    ∃ (s29 : ByteArray),
                                     ∃ (i30 : Int),
                                      ∃ (i31 : Int),
                                       ∃ (i32 : Int),
                                        ∃ (i33 : Int),
                                         ∃ (i34 : Int),
                                          ∃ (i35 : Int),
                                           (w27.drew.cell? ((a28.add (i26.toNat * (7 : Nat))).add (0 : Nat)) = some (Value.string s29) ∧
                                             w27.drew.cell? ((a28.add (i26.toNat * (7 : Nat))).add (1 : Nat)) = some (Value.int IntKind.i64 i30) ∧
                                              w27.drew.cell? ((a28.add (i26.toNat * (7 : Nat))).add (2 : Nat)) = some (Value.int IntKind.i64 i31) ∧
                                               w27.drew.cell? ((a28.add (i26.toNat * (7 : Nat))).add (3 : Nat)) = some (Value.int IntKind.i64 i32) ∧
                                                w27.drew.cell? ((a28.add (i26.toNat * (7 : Nat))).add (4 : Nat)) = some (Value.int IntKind.i64 i33) ∧
                                                 w27.drew.cell? ((a28.add (i26.toNat * (7 : Nat))).add (5 : Nat)) = some (Value.int IntKind.u32 i34) ∧
                                                  w27.drew.cell? ((a28.add (i26.toNat * (7 : Nat))).add (6 : Nat)) = some (Value.int IntKind.i64 i35) ∧ True) ∧
                                            ((0 : Int) ≤ i26 ∧ i26 < (↑n0 : Int)) ∧
                                             SX.Ptr p0 fun (a36 : Addr) =>
                                              ∃ (s37 : ByteArray),
                                               ∃ (i38 : Int),
                                                ∃ (i39 : Int),
                                                 ∃ (i40 : Int),
                                                  ∃ (i41 : Int),
                                                   ∃ (i42 : Int),
                                                    ∃ (i43 : Int),
                                                     (w27.drew.cell? ((a36.add (i26.toNat * (7 : Nat))).add (0 : Nat)) = some (Value.string s37) ∧
                                                       w27.drew.cell? ((a36.add (i26.toNat * (7 : Nat))).add (1 : Nat)) = some (Value.int IntKind.i64 i38) ∧
                                                        w27.drew.cell? ((a36.add (i26.toNat * (7 : Nat))).add (2 : Nat)) = some (Value.int IntKind.i64 i39) ∧
                                                         w27.drew.cell? ((a36.add (i26.toNat * (7 : Nat))).add (3 : Nat)) = some (Value.int IntKind.i64 i40) ∧
                                                          w27.drew.cell? ((a36.add (i26.toNat * (7 : Nat))).add (4 : Nat)) = some (Value.int IntKind.i64 i41) ∧
                                                           w27.drew.cell? ((a36.add (i26.toNat * (7 : Nat))).add (5 : Nat)) = some (Value.int IntKind.u32 i42) ∧
                                                            w27.drew.cell? ((a36.add (i26.toNat * (7 : Nat))).add (6 : Nat)) =
                                                              some (Value.int IntKind.i64 i43) ∧
                                                             True) ∧
                                                      Rets Tryd.prog (44 : Nat)
                                                       #[Value.agg
                                                         #[Value.string s29, Value.int IntKind.i64 i30, Value.int IntKind.i64 i31, Value.int IntKind.i64 i32,
                                                          Value.int IntKind.i64 i33, Value.int IntKind.u32 i34, Value.int IntKind.i64 i35]]
                                                       w27.drew fun (v44 : Value) (w45 : World) =>
                                                       ∃ (t46 : Bool),
                                                        v44 = Value.bool t46 ∧
                                                         Keeps w27.drew w45 [] ∧
                                                          (w45.cell? ((a36.add (i26.toNat * (7 : Nat))).add (0 : Nat)) = some (Value.string s37) ∧
                                                            w45.cell? ((a36.add (i26.toNat * (7 : Nat))).add (1 : Nat)) = some (Value.int IntKind.i64 i38) ∧
                                                             w45.cell? ((a36.add (i26.toNat * (7 : Nat))).add (2 : Nat)) = some (Value.int IntKind.i64 i39) ∧
                                                              w45.cell? ((a36.add (i26.toNat * (7 : Nat))).add (3 : Nat)) = some (Value.int IntKind.i64 i40) ∧
                                                               w45.cell? ((a36.add (i26.toNat * (7 : Nat))).add (4 : Nat)) =
                                                                 some (Value.int IntKind.i64 i41) ∧
                                                                w45.cell? ((a36.add (i26.toNat * (7 : Nat))).add (5 : Nat)) =
                                                                  some (Value.int IntKind.u32 i42) ∧
                                                                 w45.cell? ((a36.add (i26.toNat * (7 : Nat))).add (6 : Nat)) =
                                                                   some (Value.int IntKind.i64 i43) ∧
                                                                  True) ∧
                                                           Rets Tryd.prog (45 : Nat)
                                                            #[Value.agg
                                                              #[Value.string s37, Value.int IntKind.i64 i38, Value.int IntKind.i64 i39,
                                                               Value.int IntKind.i64 i40, Value.int IntKind.i64 i41, Value.int IntKind.u32 i42,
                                                               Value.int IntKind.i64 i43]]
                                                            w45 fun (v47 : Value) (w48 : World) =>
                                                            ∃ (t49 : Bool),
                                                             v47 = Value.bool t49 ∧
                                                              Keeps w45 w48 [] ∧
                                                               bif !t46 == t49 then R (Ending.returned (Value.bool false)) w48
                                                               else
                                                                ((0 : Int) ≤ i26 ∧ i26 < (↑n18 : Int)) ∧
                                                                 SX.Ptr q17 fun (a50 : Addr) =>
                                                                  ∃ (s51 : ByteArray),
                                                                   w48.cell? (a50.add (i26.toNat * (1 : Nat))) = some (Value.string s51) ∧
                                                                    ((0 : Int) ≤ i26 ∧ i26 < (↑n0 : Int)) ∧
                                                                     SX.Ptr p0 fun (a52 : Addr) =>
                                                                      ∃ (s53 : ByteArray),
                                                                       w48.cell? ((a52.add (i26.toNat * (7 : Nat))).add (0 : Nat)) =
                                                                         some (Value.string s53) ∧
                                                                        bif !s51.toList == s53.toList then
                                                                         R (Ending.returned (Value.bool false)) w48
                                                                        else
                                                                         Wr IntKind.i64 (i25 + (18 : Int)) fun (i54 : Int) =>
                                                                          ((0 : Int) ≤ i26 ∧ i26 < (↑n0 : Int)) ∧
                                                                           SX.Ptr p0 fun (a55 : Addr) =>
                                                                            ∃ (s56 : ByteArray),
                                                                             w48.cell? ((a55.add (i26.toNat * (7 : Nat))).add (0 : Nat)) =
                                                                               some (Value.string s56) ∧
                                                                              Wr IntKind.i64 (i54 + (↑s56.size : Int)) fun (i57 : Int) =>
                                                                               Wr IntKind.i64 (i26 + (1 : Int)) fun (i58 : Int) =>
                                                                                I23 i57 i58 w48 ∧ I24 i57 i58 w48 < I24 i25 i26 w27
                                 else
                                  Rets Tryd.prog (46 : Nat) #[Value.slice p0 n0 c0] w27 fun (v59 : Value) (w60 : World) =>
                                   ∃ (i61 : Int),
                                    v59 = Value.int IntKind.i64 i61 ∧
                                     Keeps w27 w60 [] ∧
                                      bif i61 != i25 then R (Ending.returned (Value.bool false)) w60
                                      else
                                       bif !t8 then
                                        bif i14 == (1 : Int) then
                                         bif (↑n12 : Int) == (0 : Int) then
                                          Rets Tryd.prog (37 : Nat) #[] w60 fun (v62 : Value) (w63 : World) =>
                                           ∃ (t64 : Bool), v62 = Value.bool t64 ∧ Keeps w60 w63 [] ∧ R (Ending.returned (Value.bool t64)) w63
                                         else R (Ending.returned (Value.bool false)) w60
                                        else R (Ending.returned (Value.bool false)) w60
                                       else
                                        bif i14 == (0 : Int) then
                                         ∃ (s65 : ByteArray),
                                          s65.size = n12 ∧
                                           BytesAt w60.drew q11 s65 ∧
                                            Rets Tryd.prog (47 : Nat) #[Value.slice p0 n0 c0] w60.drew fun (v66 : Value) (w67 : World) =>
                                             ∃ (q68 : Option Addr),
                                              ∃ (n69 : Nat),
                                               ∃ (n70 : Nat),
                                                v66 = Value.slice q68 n69 n70 ∧
                                                 Keeps w60.drew w67 [] ∧
                                                  BytesAt w67 q11 s65 ∧
                                                   ∃ (s71 : ByteArray),
                                                    s71.size = n69 ∧
                                                     BytesAt w67 q68 s71 ∧
                                                      bif s65.toList == s71.toList then
                                                       Rets Tryd.prog (37 : Nat) #[] w67 fun (v72 : Value) (w73 : World) =>
                                                        ∃ (t74 : Bool), v72 = Value.bool t74 ∧ Keeps w67 w73 [] ∧ R (Ending.returned (Value.bool t74)) w73
                                                      else R (Ending.returned (Value.bool false)) w67
                                        else R (Ending.returned (Value.bool false)) w60.drew
theorem vcTryd7 (p0 : Option Addr) (n0 c0 : Nat) (w : World) (R : Ending → World → Prop) : SX.vcFn Tryd.prog [(10, ⟨[(7, .int .i64), (8, .int .i64)], [0, 6, 4, 5, 3], []⟩)] Tryd.f7 [.v (.slice p0 n0 c0)] [] w R = VCTryd7 p0 n0 c0 w R := by kernel_rfl
end Go.Proofs.YtbpknjldphckgaaDoor
