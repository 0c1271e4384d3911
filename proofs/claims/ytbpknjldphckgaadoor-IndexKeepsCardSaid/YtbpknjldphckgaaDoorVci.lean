/- The conditions of functions, as the executor computes them: each is equal to what 'vcFn' says. -/
import Derived.Test.YtbpknjldphckgaaDoorSxLib
import Derived.Test.YtbpknjldphckgaaDoorProg
namespace Go.Proofs.YtbpknjldphckgaaDoor
open Go Go.SX Go.Proofs
set_option maxRecDepth 100000
set_option linter.unusedVariables false
def VCTryd65 (p0 : Option Addr) (n0 c0 : Nat) (w : World) (R : Ending → World → Prop) : Prop :=
∃ (I0 : Int → World → Prop),
 ∃ (I1 : Int → World → Nat),
  I0 (0 : Int) w ∧
   ∀ (i2 : Int) (w3 : World),
    I0 i2 w3 →
     bif decide (i2 < (↑n0 : Int)) then
      bif decide (i2 < (300 : Int)) then
       ((0 : Int) ≤ i2 ∧ i2 < (↑n0 : Int)) ∧
        SX.Ptr p0 fun (a4 : Addr) =>
         ∃ (s5 : ByteArray),
          w3.cell? ((a4.add (i2.toNat * (7 : Nat))).add (0 : Nat)) = some (Value.string s5) ∧
           bif decide ((↑s5.size : Int) > (200 : Int)) then R (Ending.returned (Value.bool true)) w3 else Wr IntKind.i64 (i2 + (1 : Int)) fun (i6 : Int) => I0 i6 w3 ∧ I1 i6 w3 < I1 i2 w3
      else R (Ending.returned (Value.bool (decide ((↑n0 : Int) > (250 : Int))))) w3
     else R (Ending.returned (Value.bool (decide ((↑n0 : Int) > (250 : Int))))) w3
theorem vcTryd65 (p0 : Option Addr) (n0 c0 : Nat) (w : World) (R : Ending → World → Prop) : SX.vcFn Tryd.prog [(2, ⟨[(3, .int .i64)], [0], []⟩)] Tryd.f65 [.v (.slice p0 n0 c0)] [] w R = VCTryd65 p0 n0 c0 w R := by kernel_rfl
def VCTryd67 (p0 : Option Addr) (n0 c0 : Nat) (w : World) (R : Ending → World → Prop) : Prop :=
Rets Tryd.prog (43 : Nat) #[Value.slice p0 n0 c0] w fun (v0 : Value) (w1 : World) =>
 ∃ (t2 : Bool),
  v0 = Value.bool t2 ∧
   Keeps w w1 [] ∧
    bif !t2 then R (Ending.returned (Value.tuple #[Value.pointer none, Value.int IntKind.i64 (1 : Int)])) w1
    else
     Rets Tryd.prog (124 : Nat) #[Value.slice p0 n0 c0] w1 fun (v3 : Value) (w4 : World) =>
      ∃ (q5 : Option Addr),
       ∃ (n6 : Nat),
        ∃ (n7 : Nat),
         v3 = Value.slice q5 n6 n7 ∧
          Keeps w1 w4 [] ∧
           (Known (w4.alloc (Obj.cells #[Value.slice q5 n6 n7] (103 : Nat))) [(w4.heap.size, [((0 : Nat), Value.slice q5 n6 n7)])] →
            R (Ending.returned (Value.tuple #[Value.pointer (some { block := w4.heap.size, off := (0 : Nat) }), Value.int IntKind.i64 (0 : Int)])) (w4.alloc (Obj.cells #[Value.slice q5 n6 n7] (103 : Nat))))
theorem vcTryd67 (p0 : Option Addr) (n0 c0 : Nat) (w : World) (R : Ending → World → Prop) : SX.vcFn Tryd.prog [] Tryd.f67 [.v (.slice p0 n0 c0)] [] w R = VCTryd67 p0 n0 c0 w R := by kernel_rfl
def VCTryd69 (p0 : Option Addr) (w : World) (R : Ending → World → Prop) : Prop :=
bif p0.isNone then R (Ending.returned (Value.int IntKind.i64 (0 : Int))) w
else SX.Ptr p0 fun (a0 : Addr) => ∃ (q1 : Option Addr), ∃ (n2 : Nat), ∃ (n3 : Nat), w.cell? (a0.add (0 : Nat)) = some (Value.slice q1 n2 n3) ∧ R (Ending.returned (Value.int IntKind.i64 (↑n2 : Int))) w
theorem vcTryd69 (p0 : Option Addr) (w : World) (R : Ending → World → Prop) : SX.vcFn Tryd.prog [] Tryd.f69 [.v (.pointer p0)] [] w R = VCTryd69 p0 w R := by kernel_rfl
def VCTryd70 (p0 : Option Addr) (w : World) (R : Ending → World → Prop) : Prop :=
bif p0.isNone then R (Ending.returned (Value.slice none (0 : Nat) (0 : Nat))) w
else
 SX.Ptr p0 fun (a0 : Addr) =>
  ∃ (q1 : Option Addr),
   ∃ (n2 : Nat),
    ∃ (n3 : Nat),
     w.cell? (a0.add (0 : Nat)) = some (Value.slice q1 n2 n3) ∧
      Rets Tryd.prog (124 : Nat) #[Value.slice q1 n2 n3] w fun (v4 : Value) (w5 : World) =>
       ∃ (q6 : Option Addr), ∃ (n7 : Nat), ∃ (n8 : Nat), v4 = Value.slice q6 n7 n8 ∧ Keeps w w5 [] ∧ R (Ending.returned (Value.slice q6 n7 n8)) w5
theorem vcTryd70 (p0 : Option Addr) (w : World) (R : Ending → World → Prop) : SX.vcFn Tryd.prog [] Tryd.f70 [.v (.pointer p0)] [] w R = VCTryd70 p0 w R := by kernel_rfl
def VCTryd71 (p0 : Option Addr) (w : World) (R : Ending → World → Prop) : Prop :=
bif p0.isNone then R (Ending.returned (Value.int IntKind.i64 (0 : Int))) w
else
 SX.Ptr p0 fun (a0 : Addr) =>
  ∃ (q1 : Option Addr),
   ∃ (n2 : Nat),
    ∃ (n3 : Nat),
     w.cell? (a0.add (0 : Nat)) = some (Value.slice q1 n2 n3) ∧
      Rets Tryd.prog (46 : Nat) #[Value.slice q1 n2 n3] w fun (v4 : Value) (w5 : World) =>
       ∃ (i6 : Int), v4 = Value.int IntKind.i64 i6 ∧ Keeps w w5 [] ∧ Wr IntKind.i64 (i6 + (20 : Int)) fun (i7 : Int) => R (Ending.returned (Value.int IntKind.i64 i7)) w5
theorem vcTryd71 (p0 : Option Addr) (w : World) (R : Ending → World → Prop) : SX.vcFn Tryd.prog [] Tryd.f71 [.v (.pointer p0)] [] w R = VCTryd71 p0 w R := by kernel_rfl
def VCTryd72 (p0 : Option Addr) (n0 c0 : Nat) (w : World) (R : Ending → World → Prop) : Prop :=
∃ (I0 : Int → Int → World → Prop),
 ∃ (I1 : Int → Int → World → Nat),
  I0 (0 : Int) (20 : Int) w ∧
   ∀ (i2 i3 : Int) (w4 : World),
    I0 i2 i3 w4 →
     bif decide (i2 < (↑n0 : Int)) then
      Wr IntKind.i64 (i3 + (18 : Int)) fun (i5 : Int) =>
       ((0 : Int) ≤ i2 ∧ i2 < (↑n0 : Int)) ∧
        SX.Ptr p0 fun (a6 : Addr) =>
         ∃ (s7 : ByteArray),
          w4.cell? ((a6.add (i2.toNat * (7 : Nat))).add (0 : Nat)) = some (Value.string s7) ∧
           Wr IntKind.i64 (i5 + (↑s7.size : Int)) fun (i8 : Int) => Wr IntKind.i64 (i2 + (1 : Int)) fun (i9 : Int) => I0 i9 i8 w4 ∧ I1 i9 i8 w4 < I1 i2 i3 w4
     else R (Ending.returned (Value.int IntKind.i64 i3)) w4
theorem vcTryd72 (p0 : Option Addr) (n0 c0 : Nat) (w : World) (R : Ending → World → Prop) : SX.vcFn Tryd.prog [(3, ⟨[(4, .int .i64), (3, .int .i64)], [0], []⟩)] Tryd.f72 [.v (.slice p0 n0 c0)] [] w R = VCTryd72 p0 n0 c0 w R := by kernel_rfl
def VCTryd73 (p0 : Option Addr) (p1 : ByteArray) (w : World) (R : Ending → World → Prop) : Prop :=
bif p0.isNone then
 Known
   ((((((((w.alloc
                  (Obj.cells
                   #[Value.string { data := #[] }, Value.int IntKind.i64 (0 : Int), Value.int IntKind.i64 (0 : Int), Value.int IntKind.i64 (0 : Int), Value.int IntKind.i64 (0 : Int),
                    Value.int IntKind.u32 (0 : Int), Value.int IntKind.i64 (0 : Int)]
                   (50 : Nat))).setCell
                {block := w.heap.size, off := (0 : Nat) } (Value.string { data := #[] })).setCell
              {block := w.heap.size, off := (1 : Nat) } (Value.int IntKind.i64 (0 : Int))).setCell
            {block := w.heap.size, off := (2 : Nat) } (Value.int IntKind.i64 (0 : Int))).setCell
          {block := w.heap.size, off := (3 : Nat) } (Value.int IntKind.i64 (0 : Int))).setCell
        {block := w.heap.size, off := (4 : Nat) } (Value.int IntKind.i64 (0 : Int))).setCell
      {block := w.heap.size, off := (5 : Nat) } (Value.int IntKind.u32 (0 : Int))).setCell
    {block := w.heap.size, off := (6 : Nat) } (Value.int IntKind.i64 (0 : Int)))
   [(w.heap.size,
     [((0 : Nat), Value.string { data := #[] }), ((1 : Nat), Value.int IntKind.i64 (0 : Int)), ((2 : Nat), Value.int IntKind.i64 (0 : Int)), ((3 : Nat), Value.int IntKind.i64 (0 : Int)),
      ((4 : Nat), Value.int IntKind.i64 (0 : Int)), ((5 : Nat), Value.int IntKind.u32 (0 : Int)), ((6 : Nat), Value.int IntKind.i64 (0 : Int))])] →
  R
   (Ending.returned
    (Value.tuple
     #[Value.agg
       #[Value.string { data := #[] }, Value.int IntKind.i64 (0 : Int), Value.int IntKind.i64 (0 : Int), Value.int IntKind.i64 (0 : Int), Value.int IntKind.i64 (0 : Int), Value.int IntKind.u32 (0 : Int),
        Value.int IntKind.i64 (0 : Int)],
      Value.bool false]))
   ((((((((w.alloc
                  (Obj.cells
                   #[Value.string { data := #[] }, Value.int IntKind.i64 (0 : Int), Value.int IntKind.i64 (0 : Int), Value.int IntKind.i64 (0 : Int), Value.int IntKind.i64 (0 : Int),
                    Value.int IntKind.u32 (0 : Int), Value.int IntKind.i64 (0 : Int)]
                   (50 : Nat))).setCell
                {block := w.heap.size, off := (0 : Nat) } (Value.string { data := #[] })).setCell
              {block := w.heap.size, off := (1 : Nat) } (Value.int IntKind.i64 (0 : Int))).setCell
            {block := w.heap.size, off := (2 : Nat) } (Value.int IntKind.i64 (0 : Int))).setCell
          {block := w.heap.size, off := (3 : Nat) } (Value.int IntKind.i64 (0 : Int))).setCell
        {block := w.heap.size, off := (4 : Nat) } (Value.int IntKind.i64 (0 : Int))).setCell
      {block := w.heap.size, off := (5 : Nat) } (Value.int IntKind.u32 (0 : Int))).setCell
    {block := w.heap.size, off := (6 : Nat) } (Value.int IntKind.i64 (0 : Int)))
else
 Known
   (w.alloc
    (Obj.cells
     #[Value.string { data := #[] }, Value.int IntKind.i64 (0 : Int), Value.int IntKind.i64 (0 : Int), Value.int IntKind.i64 (0 : Int), Value.int IntKind.i64 (0 : Int), Value.int IntKind.u32 (0 : Int),
      Value.int IntKind.i64 (0 : Int)]
     (50 : Nat)))
   [(w.heap.size,
     [((0 : Nat), Value.string { data := #[] }), ((1 : Nat), Value.int IntKind.i64 (0 : Int)), ((2 : Nat), Value.int IntKind.i64 (0 : Int)), ((3 : Nat), Value.int IntKind.i64 (0 : Int)),
      ((4 : Nat), Value.int IntKind.i64 (0 : Int)), ((5 : Nat), Value.int IntKind.u32 (0 : Int)), ((6 : Nat), Value.int IntKind.i64 (0 : Int))])] →
  Rets Tryd.prog (129 : Nat) #[Value.pointer p0, Value.string p1]
   (w.alloc
    (Obj.cells
     #[Value.string { data := #[] }, Value.int IntKind.i64 (0 : Int), Value.int IntKind.i64 (0 : Int), Value.int IntKind.i64 (0 : Int), Value.int IntKind.i64 (0 : Int), Value.int IntKind.u32 (0 : Int),
      Value.int IntKind.i64 (0 : Int)]
     (50 : Nat)))
   fun (v0 : Value) (w1 : World) =>
   ∃ (i2 : Int),
    ∃ (t3 : Bool),
     v0 = Value.tuple #[Value.int IntKind.i64 i2, Value.bool t3] ∧
      Keeps
        (w.alloc
         (Obj.cells
          #[Value.string { data := #[] }, Value.int IntKind.i64 (0 : Int), Value.int IntKind.i64 (0 : Int), Value.int IntKind.i64 (0 : Int), Value.int IntKind.i64 (0 : Int), Value.int IntKind.u32 (0 : Int),
           Value.int IntKind.i64 (0 : Int)]
          (50 : Nat)))
        w1 [w.heap.size] ∧
       bif !t3 then
        Known
          (((((((w1.setCell { block := w.heap.size, off := (0 : Nat) } (Value.string { data := #[] })).setCell { block := w.heap.size, off := (1 : Nat) } (Value.int IntKind.i64 (0 : Int))).setCell
                   {block := w.heap.size, off := (2 : Nat) } (Value.int IntKind.i64 (0 : Int))).setCell
                 {block := w.heap.size, off := (3 : Nat) } (Value.int IntKind.i64 (0 : Int))).setCell
               {block := w.heap.size, off := (4 : Nat) } (Value.int IntKind.i64 (0 : Int))).setCell
             {block := w.heap.size, off := (5 : Nat) } (Value.int IntKind.u32 (0 : Int))).setCell
           {block := w.heap.size, off := (6 : Nat) } (Value.int IntKind.i64 (0 : Int)))
          [(w.heap.size,
            [((0 : Nat), Value.string { data := #[] }), ((1 : Nat), Value.int IntKind.i64 (0 : Int)), ((2 : Nat), Value.int IntKind.i64 (0 : Int)), ((3 : Nat), Value.int IntKind.i64 (0 : Int)),
             ((4 : Nat), Value.int IntKind.i64 (0 : Int)), ((5 : Nat), Value.int IntKind.u32 (0 : Int)), ((6 : Nat), Value.int IntKind.i64 (0 : Int))])] →
         R
          (Ending.returned
           (Value.tuple
            #[Value.agg
              #[Value.string { data := #[] }, Value.int IntKind.i64 (0 : Int), Value.int IntKind.i64 (0 : Int), Value.int IntKind.i64 (0 : Int), Value.int IntKind.i64 (0 : Int),
               Value.int IntKind.u32 (0 : Int), Value.int IntKind.i64 (0 : Int)],
             Value.bool false]))
          (((((((w1.setCell { block := w.heap.size, off := (0 : Nat) } (Value.string { data := #[] })).setCell { block := w.heap.size, off := (1 : Nat) } (Value.int IntKind.i64 (0 : Int))).setCell
                   {block := w.heap.size, off := (2 : Nat) } (Value.int IntKind.i64 (0 : Int))).setCell
                 {block := w.heap.size, off := (3 : Nat) } (Value.int IntKind.i64 (0 : Int))).setCell
               {block := w.heap.size, off := (4 : Nat) } (Value.int IntKind.i64 (0 : Int))).setCell
             {block := w.heap.size, off := (5 : Nat) } (Value.int IntKind.u32 (0 : Int))).setCell
           {block := w.heap.size, off := (6 : Nat) } (Value.int IntKind.i64 (0 : Int)))
       else
        SX.Ptr p0 fun (a4 : Addr) =>
         ∃ (q5 : Option Addr),
          ∃ (n6 : Nat),
           ∃ (n7 : Nat),
            w1.cell? (a4.add (0 : Nat)) = some (Value.slice q5 n6 n7) ∧
             ((0 : Int) ≤ i2 ∧ i2 < (↑n6 : Int)) ∧
              SX.Ptr q5 fun (a8 : Addr) =>
               ∃ (s9 : ByteArray),
                ∃ (i10 : Int),
                 ∃ (i11 : Int),
                  ∃ (i12 : Int),
                   ∃ (i13 : Int),
                    ∃ (i14 : Int),
                     ∃ (i15 : Int),
                      (w1.cell? ((a8.add (i2.toNat * (7 : Nat))).add (0 : Nat)) = some (Value.string s9) ∧
                        w1.cell? ((a8.add (i2.toNat * (7 : Nat))).add (1 : Nat)) = some (Value.int IntKind.i64 i10) ∧
                         w1.cell? ((a8.add (i2.toNat * (7 : Nat))).add (2 : Nat)) = some (Value.int IntKind.i64 i11) ∧
                          w1.cell? ((a8.add (i2.toNat * (7 : Nat))).add (3 : Nat)) = some (Value.int IntKind.i64 i12) ∧
                           w1.cell? ((a8.add (i2.toNat * (7 : Nat))).add (4 : Nat)) = some (Value.int IntKind.i64 i13) ∧
                            w1.cell? ((a8.add (i2.toNat * (7 : Nat))).add (5 : Nat)) = some (Value.int IntKind.u32 i14) ∧
                             w1.cell? ((a8.add (i2.toNat * (7 : Nat))).add (6 : Nat)) = some (Value.int IntKind.i64 i15) ∧ True) ∧
                       (Known
                         (((((((w1.setCell { block := w.heap.size, off := (0 : Nat) } (Value.string s9)).setCell { block := w.heap.size, off := (1 : Nat) } (Value.int IntKind.i64 i10)).setCell
                                {block := w.heap.size, off := (2 : Nat) } (Value.int IntKind.i64 i11)).setCell
                               {block := w.heap.size, off := (3 : Nat) } (Value.int IntKind.i64 i12)).setCell
                              {block := w.heap.size, off := (4 : Nat) } (Value.int IntKind.i64 i13)).setCell
                            {block := w.heap.size, off := (5 : Nat) } (Value.int IntKind.u32 i14)).setCell
                          {block := w.heap.size, off := (6 : Nat) } (Value.int IntKind.i64 i15))
                         [(w.heap.size,
                           [((0 : Nat), Value.string s9), ((1 : Nat), Value.int IntKind.i64 i10), ((2 : Nat), Value.int IntKind.i64 i11), ((3 : Nat), Value.int IntKind.i64 i12),
                            ((4 : Nat), Value.int IntKind.i64 i13), ((5 : Nat), Value.int IntKind.u32 i14), ((6 : Nat), Value.int IntKind.i64 i15)])] →
                        R
                         (Ending.returned
                          (Value.tuple
                           #[Value.agg
                             #[Value.string s9, Value.int IntKind.i64 i10, Value.int IntKind.i64 i11, Value.int IntKind.i64 i12, Value.int IntKind.i64 i13, Value.int IntKind.u32 i14,
                              Value.int IntKind.i64 i15],
                            Value.bool true]))
                         (((((((w1.setCell { block := w.heap.size, off := (0 : Nat) } (Value.string s9)).setCell { block := w.heap.size, off := (1 : Nat) } (Value.int IntKind.i64 i10)).setCell
                                {block := w.heap.size, off := (2 : Nat) } (Value.int IntKind.i64 i11)).setCell
                               {block := w.heap.size, off := (3 : Nat) } (Value.int IntKind.i64 i12)).setCell
                              {block := w.heap.size, off := (4 : Nat) } (Value.int IntKind.i64 i13)).setCell
                            {block := w.heap.size, off := (5 : Nat) } (Value.int IntKind.u32 i14)).setCell
                          {block := w.heap.size, off := (6 : Nat) } (Value.int IntKind.i64 i15)))
theorem vcTryd73 (p0 : Option Addr) (p1 : ByteArray) (w : World) (R : Ending → World → Prop) : SX.vcFn Tryd.prog [] Tryd.f73 [.v (.pointer p0), .v (.string p1)] [] w R = VCTryd73 p0 p1 w R := by kernel_rfl
def VCTryd75 (p0 : Option Addr) (p1 : ByteArray) (w : World) (R : Ending → World → Prop) : Prop :=
bif p0.isNone then R (Ending.returned (Value.bool false)) w
else
 Rets Tryd.prog (129 : Nat) #[Value.pointer p0, Value.string p1] w fun (v0 : Value) (w1 : World) =>
  ∃ (i2 : Int),
   ∃ (t3 : Bool),
    v0 = Value.tuple #[Value.int IntKind.i64 i2, Value.bool t3] ∧
     Keeps w w1 [] ∧
      bif t3 then
       SX.Ptr p0 fun (a4 : Addr) =>
        ∃ (q5 : Option Addr),
         ∃ (n6 : Nat),
          ∃ (n7 : Nat),
           w1.cell? (a4.add (0 : Nat)) = some (Value.slice q5 n6 n7) ∧
            Wr IntKind.i64 (i2 + (1 : Int)) fun (i8 : Int) =>
             Rets Tryd.prog (131 : Nat) #[Value.slice q5 n6 n7, Value.int IntKind.i64 i2, Value.int IntKind.i64 i8] w1 fun (v9 : Value) (w10 : World) =>
              ∃ (q11 : Option Addr),
               ∃ (n12 : Nat),
                ∃ (n13 : Nat),
                 v9 = Value.slice q11 n12 n13 ∧
                  Keeps w1 w10 [] ∧
                   SX.Ptr p0 fun (a14 : Addr) =>
                    (∃ (v15 : Value), w10.cell? ((a14.add (0 : Nat)).add (0 : Nat)) = some v15) ∧
                     w10.frozen? ((a14.add (0 : Nat)).add (0 : Nat)) = false ∧ R (Ending.returned (Value.bool t3)) (w10.setCell ((a14.add (0 : Nat)).add (0 : Nat)) (Value.slice q11 n12 n13))
      else R (Ending.returned (Value.bool t3)) w1
theorem vcTryd75 (p0 : Option Addr) (p1 : ByteArray) (w : World) (R : Ending → World → Prop) : SX.vcFn Tryd.prog [] Tryd.f75 [.v (.pointer p0), .v (.string p1)] [] w R = VCTryd75 p0 p1 w R := by kernel_rfl
def VCTryd76 (p0 : Option Addr) (n0 c0 : Nat) (p1 : ByteArray) (w : World) (R : Ending → World → Prop) : Prop :=
∃ (I0 : Int → Option Addr → Nat → Nat → World → Prop),
 ∃ (I1 : Int → Option Addr → Nat → Nat → World → Nat),
  I0 (0 : Int) none (0 : Nat) (0 : Nat) w ∧
   ∀ (i2 : Int) (q3 : Option Addr) (n4 n5 : Nat) (w6 : World),
    I0 i2 q3 n4 n5 w6 →
     bif decide (i2 < (↑n0 : Int)) then
      ((0 : Int) ≤ i2 ∧ i2 < (↑n0 : Int)) ∧
       SX.Ptr p0 fun (a7 : Addr) =>
        ∃ (s8 : ByteArray),
         w6.cell? ((a7.add (i2.toNat * (7 : Nat))).add (0 : Nat)) = some (Value.string s8) ∧
          Rets Tryd.prog (132 : Nat) #[Value.string p1, Value.string s8] w6 fun (v9 : Value) (w10 : World) =>
           ∃ (t11 : Bool),
            v9 = Value.bool t11 ∧
             Keeps w6 w10 [] ∧
              bif t11 then
               ((0 : Int) ≤ i2 ∧ i2 < (↑n0 : Int)) ∧
                SX.Ptr p0 fun (a12 : Addr) =>
                 ∃ (s13 : ByteArray),
                  ∃ (i14 : Int),
                   ∃ (i15 : Int),
                    ∃ (i16 : Int),
                     ∃ (i17 : Int),
                      ∃ (i18 : Int),
                       ∃ (i19 : Int),
                        (w10.cell? ((a12.add (i2.toNat * (7 : Nat))).add (0 : Nat)) = some (Value.string s13) ∧
                          w10.cell? ((a12.add (i2.toNat * (7 : Nat))).add (1 : Nat)) = some (Value.int IntKind.i64 i14) ∧
                           w10.cell? ((a12.add (i2.toNat * (7 : Nat))).add (2 : Nat)) = some (Value.int IntKind.i64 i15) ∧
                            w10.cell? ((a12.add (i2.toNat * (7 : Nat))).add (3 : Nat)) = some (Value.int IntKind.i64 i16) ∧
                             w10.cell? ((a12.add (i2.toNat * (7 : Nat))).add (4 : Nat)) = some (Value.int IntKind.i64 i17) ∧
                              w10.cell? ((a12.add (i2.toNat * (7 : Nat))).add (5 : Nat)) = some (Value.int IntKind.u32 i18) ∧
                               w10.cell? ((a12.add (i2.toNat * (7 : Nat))).add (6 : Nat)) = some (Value.int IntKind.i64 i19) ∧ True) ∧
                         Runs Tryd.prog
                          (Builtin.append_ #[(42 : Nat), (42 : Nat)] (42 : Nat) #[Value.slice q3 n4 n5, Value.slice (some { block := w10.heap.size, off := (0 : Nat) }) (1 : Nat) (1 : Nat)])
                          (w10.alloc
                           (Obj.cells
                            #[Value.string s13, Value.int IntKind.i64 i14, Value.int IntKind.i64 i15, Value.int IntKind.i64 i16, Value.int IntKind.i64 i17, Value.int IntKind.u32 i18,
                             Value.int IntKind.i64 i19]
                            (50 : Nat)))
                          fun (v20 : Value) (w21 : World) =>
                          ∃ (q22 : Option Addr),
                           ∃ (n23 : Nat),
                            ∃ (n24 : Nat),
                             v20 = Value.slice q22 n23 n24 ∧
                              Keeps
                                (w10.alloc
                                 (Obj.cells
                                  #[Value.string s13, Value.int IntKind.i64 i14, Value.int IntKind.i64 i15, Value.int IntKind.i64 i16, Value.int IntKind.i64 i17,
                                   Value.int IntKind.u32 i18, Value.int IntKind.i64 i19]
                                  (50 : Nat)))
                                w21 [] ∧
                               Wr IntKind.i64 (i2 + (1 : Int)) fun (i25 : Int) => I0 i25 q22 n23 n24 w21 ∧ I1 i25 q22 n23 n24 w21 < I1 i2 q3 n4 n5 w6
              else Wr IntKind.i64 (i2 + (1 : Int)) fun (i26 : Int) => I0 i26 q3 n4 n5 w10 ∧ I1 i26 q3 n4 n5 w10 < I1 i2 q3 n4 n5 w6
     else R (Ending.returned (Value.slice q3 n4 n5)) w6
theorem vcTryd76 (p0 : Option Addr) (n0 c0 : Nat) (p1 : ByteArray) (w : World) (R : Ending → World → Prop) : SX.vcFn Tryd.prog [(3, ⟨[(6, .int .i64), (5, .slice)], [0, 1], []⟩)] Tryd.f76 [.v (.slice p0 n0 c0), .v (.string p1)] [] w R = VCTryd76 p0 n0 c0 p1 w R := by kernel_rfl
def VCTryd78 (p0 : Option Addr) (p1 : ByteArray) (w : World) (R : Ending → World → Prop) : Prop :=
Known (w.alloc (Obj.cells #[Value.string p1] (9 : Nat))) [(w.heap.size, [((0 : Nat), Value.string p1)])] →
 Rets Tryd.prog (70 : Nat) #[Value.pointer p0] (w.alloc (Obj.cells #[Value.string p1] (9 : Nat))) fun (v0 : Value) (w1 : World) =>
  ∃ (q2 : Option Addr),
   ∃ (n3 : Nat),
    ∃ (n4 : Nat),
     v0 = Value.slice q2 n3 n4 ∧
      Keeps (w.alloc (Obj.cells #[Value.string p1] (9 : Nat))) w1 [w.heap.size] ∧
       (Known ((w1.alloc (Obj.cells #[Value.slice none (0 : Nat) (0 : Nat)] (42 : Nat))).setCell { block := w1.heap.size, off := (0 : Nat) } (Value.slice q2 n3 n4))
         [(w.heap.size, [((0 : Nat), Value.string p1)]), (w1.heap.size, [((0 : Nat), Value.slice q2 n3 n4)])] →
        R (Ending.returned (Value.func (Fn.func (133 : Nat)) #[] #[Value.pointer (some { block := w1.heap.size, off := (0 : Nat) }), Value.pointer (some { block := w.heap.size, off := (0 : Nat) })]))
         ((w1.alloc (Obj.cells #[Value.slice none (0 : Nat) (0 : Nat)] (42 : Nat))).setCell { block := w1.heap.size, off := (0 : Nat) } (Value.slice q2 n3 n4)))
theorem vcTryd78 (p0 : Option Addr) (p1 : ByteArray) (w : World) (R : Ending → World → Prop) : SX.vcFn Tryd.prog [] Tryd.f78 [.v (.pointer p0), .v (.string p1)] [] w R = VCTryd78 p0 p1 w R := by kernel_rfl
def VCTryd80 (p0 : Option Addr) (p1 : ByteArray) (w : World) (R : Ending → World → Prop) : Prop :=
bif p0.isNone then R (Ending.returned (Value.bool false)) w
else
 Rets Tryd.prog (129 : Nat) #[Value.pointer p0, Value.string p1] w fun (v0 : Value) (w1 : World) =>
  ∃ (i2 : Int),
   ∃ (t3 : Bool),
    v0 = Value.tuple #[Value.int IntKind.i64 i2, Value.bool t3] ∧
     Keeps w w1 [] ∧
      bif t3 then R (Ending.returned (Value.bool true)) w1
      else
       SX.Ptr p0 fun (a4 : Addr) =>
        ∃ (q5 : Option Addr), ∃ (n6 : Nat), ∃ (n7 : Nat), w1.cell? (a4.add (0 : Nat)) = some (Value.slice q5 n6 n7) ∧ R (Ending.returned (Value.bool (decide ((↑n6 : Int) < (200 : Int))))) w1
theorem vcTryd80 (p0 : Option Addr) (p1 : ByteArray) (w : World) (R : Ending → World → Prop) : SX.vcFn Tryd.prog [] Tryd.f80 [.v (.pointer p0), .v (.string p1)] [] w R = VCTryd80 p0 p1 w R := by kernel_rfl
def VCTryd124 (p0 : Option Addr) (n0 c0 : Nat) (w : World) (R : Ending → World → Prop) : Prop :=
bif p0.isNone then R (Ending.returned (Value.slice none (0 : Nat) (0 : Nat))) w
else
 Runs Tryd.prog (Instr.buildSlice (42 : Nat) (0 : Nat) #[]) w fun (v0 : Value) (w1 : World) =>
  ∃ (q2 : Option Addr),
   ∃ (n3 : Nat),
    ∃ (n4 : Nat),
     v0 = Value.slice q2 n3 n4 ∧
      Keeps w w1 [] ∧
       Runs Tryd.prog (Builtin.append_ #[(42 : Nat), (42 : Nat)] (42 : Nat) #[Value.slice q2 n3 n4, Value.slice p0 n0 c0]) w1 fun (v5 : Value) (w6 : World) =>
        ∃ (q7 : Option Addr), ∃ (n8 : Nat), ∃ (n9 : Nat), v5 = Value.slice q7 n8 n9 ∧ Keeps w1 w6 [] ∧ R (Ending.returned (Value.slice q7 n8 n9)) w6
theorem vcTryd124 (p0 : Option Addr) (n0 c0 : Nat) (w : World) (R : Ending → World → Prop) : SX.vcFn Tryd.prog [] Tryd.f124 [.v (.slice p0 n0 c0)] [] w R = VCTryd124 p0 n0 c0 w R := by kernel_rfl
def VCTryd125 (p0 : Option Addr) (n0 c0 : Nat) (p1 : ByteArray) (w : World) (R : Ending → World → Prop) : Prop :=
∃ (I0 : Int → World → Prop),
 ∃ (I1 : Int → World → Nat),
  I0 (0 : Int) w ∧
   ∀ (i2 : Int) (w3 : World),
    I0 i2 w3 →
     bif decide (i2 < (↑n0 : Int)) then
      ((0 : Int) ≤ i2 ∧ i2 < (↑n0 : Int)) ∧
       SX.Ptr p0 fun (a4 : Addr) =>
        ∃ (s5 : ByteArray),
         w3.cell? ((a4.add (i2.toNat * (7 : Nat))).add (0 : Nat)) = some (Value.string s5) ∧
          bif s5.toList == p1.toList then R (Ending.returned (Value.int IntKind.i64 i2)) w3 else Wr IntKind.i64 (i2 + (1 : Int)) fun (i6 : Int) => I0 i6 w3 ∧ I1 i6 w3 < I1 i2 w3
     else R (Ending.returned (Value.int IntKind.i64 (-1 : Int))) w3
theorem vcTryd125 (p0 : Option Addr) (n0 c0 : Nat) (p1 : ByteArray) (w : World) (R : Ending → World → Prop) : SX.vcFn Tryd.prog [(2, ⟨[(5, .int .i64)], [1, 0], []⟩)] Tryd.f125 [.v (.slice p0 n0 c0), .v (.string p1)] [] w R = VCTryd125 p0 n0 c0 p1 w R := by kernel_rfl
def VCTryd126 (p0 : Option Addr) (n0 c0 : Nat) (p1 : ByteArray) (w : World) (R : Ending → World → Prop) : Prop :=
Rets Tryd.prog (125 : Nat) #[Value.slice p0 n0 c0, Value.string p1] w fun (v0 : Value) (w1 : World) =>
 ∃ (i2 : Int), v0 = Value.int IntKind.i64 i2 ∧ Keeps w w1 [] ∧ bif decide (i2 ≥ (0 : Int)) then R (Ending.returned (Value.bool true)) w1 else R (Ending.returned (Value.bool (decide ((↑n0 : Int) < (200 : Int))))) w1
theorem vcTryd126 (p0 : Option Addr) (n0 c0 : Nat) (p1 : ByteArray) (w : World) (R : Ending → World → Prop) : SX.vcFn Tryd.prog [] Tryd.f126 [.v (.slice p0 n0 c0), .v (.string p1)] [] w R = VCTryd126 p0 n0 c0 p1 w R := by kernel_rfl
def VCTryd128 (p0 : Option Addr) (n0 c0 : Nat) (p1 : ByteArray) (w : World) (R : Ending → World → Prop) : Prop :=
∃ (I0 : Int → Option Addr → Nat → Nat → World → Prop),
 ∃ (I1 : Int → Option Addr → Nat → Nat → World → Nat),
  I0 (0 : Int) none (0 : Nat) (0 : Nat) w ∧
   ∀ (i2 : Int) (q3 : Option Addr) (n4 n5 : Nat) (w6 : World),
    I0 i2 q3 n4 n5 w6 →
     bif decide (i2 < (↑n0 : Int)) then
      ((0 : Int) ≤ i2 ∧ i2 < (↑n0 : Int)) ∧
       SX.Ptr p0 fun (a7 : Addr) =>
        ∃ (s8 : ByteArray),
         w6.cell? ((a7.add (i2.toNat * (7 : Nat))).add (0 : Nat)) = some (Value.string s8) ∧
          bif !s8.toList == p1.toList then
           ((0 : Int) ≤ i2 ∧ i2 < (↑n0 : Int)) ∧
            SX.Ptr p0 fun (a9 : Addr) =>
             ∃ (s10 : ByteArray),
              ∃ (i11 : Int),
               ∃ (i12 : Int),
                ∃ (i13 : Int),
                 ∃ (i14 : Int),
                  ∃ (i15 : Int),
                   ∃ (i16 : Int),
                    (w6.cell? ((a9.add (i2.toNat * (7 : Nat))).add (0 : Nat)) = some (Value.string s10) ∧
                      w6.cell? ((a9.add (i2.toNat * (7 : Nat))).add (1 : Nat)) = some (Value.int IntKind.i64 i11) ∧
                       w6.cell? ((a9.add (i2.toNat * (7 : Nat))).add (2 : Nat)) = some (Value.int IntKind.i64 i12) ∧
                        w6.cell? ((a9.add (i2.toNat * (7 : Nat))).add (3 : Nat)) = some (Value.int IntKind.i64 i13) ∧
                         w6.cell? ((a9.add (i2.toNat * (7 : Nat))).add (4 : Nat)) = some (Value.int IntKind.i64 i14) ∧
                          w6.cell? ((a9.add (i2.toNat * (7 : Nat))).add (5 : Nat)) = some (Value.int IntKind.u32 i15) ∧
                           w6.cell? ((a9.add (i2.toNat * (7 : Nat))).add (6 : Nat)) = some (Value.int IntKind.i64 i16) ∧ True) ∧
                     Runs Tryd.prog (Builtin.append_ #[(42 : Nat), (42 : Nat)] (42 : Nat) #[Value.slice q3 n4 n5, Value.slice (some { block := w6.heap.size, off := (0 : Nat) }) (1 : Nat) (1 : Nat)])
                      (w6.alloc
                       (Obj.cells
                        #[Value.string s10, Value.int IntKind.i64 i11, Value.int IntKind.i64 i12, Value.int IntKind.i64 i13, Value.int IntKind.i64 i14, Value.int IntKind.u32 i15,
                         Value.int IntKind.i64 i16]
                        (50 : Nat)))
                      fun (v17 : Value) (w18 : World) =>
                      ∃ (q19 : Option Addr),
                       ∃ (n20 : Nat),
                        ∃ (n21 : Nat),
                         v17 = Value.slice q19 n20 n21 ∧
                          Keeps
                            (w6.alloc
                             (Obj.cells
                              #[Value.string s10, Value.int IntKind.i64 i11, Value.int IntKind.i64 i12, Value.int IntKind.i64 i13, Value.int IntKind.i64 i14, Value.int IntKind.u32 i15,
                               Value.int IntKind.i64 i16]
                              (50 : Nat)))
                            w18 [] ∧
                           Wr IntKind.i64 (i2 + (1 : Int)) fun (i22 : Int) => I0 i22 q19 n20 n21 w18 ∧ I1 i22 q19 n20 n21 w18 < I1 i2 q3 n4 n5 w6
          else Wr IntKind.i64 (i2 + (1 : Int)) fun (i23 : Int) => I0 i23 q3 n4 n5 w6 ∧ I1 i23 q3 n4 n5 w6 < I1 i2 q3 n4 n5 w6
     else R (Ending.returned (Value.slice q3 n4 n5)) w6
theorem vcTryd128 (p0 : Option Addr) (n0 c0 : Nat) (p1 : ByteArray) (w : World) (R : Ending → World → Prop) : SX.vcFn Tryd.prog [(3, ⟨[(6, .int .i64), (5, .slice)], [0, 1], []⟩)] Tryd.f128 [.v (.slice p0 n0 c0), .v (.string p1)] [] w R = VCTryd128 p0 n0 c0 p1 w R := by kernel_rfl
def VCTryd129 (p0 : Option Addr) (p1 : ByteArray) (w : World) (R : Ending → World → Prop) : Prop :=
SX.Ptr p0 fun (a0 : Addr) =>
 ∃ (q1 : Option Addr),
  ∃ (n2 : Nat),
   ∃ (n3 : Nat),
    w.cell? (a0.add (0 : Nat)) = some (Value.slice q1 n2 n3) ∧
     Rets Tryd.prog (165 : Nat) #[Value.slice q1 n2 n3, Value.string p1, Value.func (Fn.func (166 : Nat)) #[] #[]] w fun (v4 : Value) (w5 : World) =>
      ∃ (i6 : Int), ∃ (t7 : Bool), v4 = Value.tuple #[Value.int IntKind.i64 i6, Value.bool t7] ∧ Keeps w w5 [] ∧ R (Ending.returned (Value.tuple #[Value.int IntKind.i64 i6, Value.bool t7])) w5
theorem vcTryd129 (p0 : Option Addr) (p1 : ByteArray) (w : World) (R : Ending → World → Prop) : SX.vcFn Tryd.prog [] Tryd.f129 [.v (.pointer p0), .v (.string p1)] [] w R = VCTryd129 p0 p1 w R := by kernel_rfl
def VCTryd130 (p0 : Option Addr) (n0 c0 : Nat) (p1 : Int) (p2 : Option Addr) (n2 c2 : Nat) (w : World) (R : Ending → World → Prop) : Prop :=
((0 : Int) ≤ p1 ∧ p1 ≤ (↑n0 : Int)) ∧
 bif (↑n2 : Int) == (0 : Int) then R (Ending.returned (Value.slice p0 n0 c0)) w
 else
  bif p1 == (↑n0 : Int) then
   Runs Tryd.prog (Builtin.append_ #[(42 : Nat), (42 : Nat)] (42 : Nat) #[Value.slice p0 n0 c0, Value.slice p2 n2 c2]) w fun (v0 : Value) (w1 : World) =>
    ∃ (q2 : Option Addr), ∃ (n3 : Nat), ∃ (n4 : Nat), v0 = Value.slice q2 n3 n4 ∧ Keeps w w1 [] ∧ R (Ending.returned (Value.slice q2 n3 n4)) w1
  else
   Wr IntKind.i64 ((↑n0 : Int) + (↑n2 : Int)) fun (i5 : Int) =>
    Runs Tryd.prog (Builtin.cap_ #[(42 : Nat)] (3 : Nat) #[Value.slice p0 n0 c0]) w fun (v6 : Value) (w7 : World) =>
     ∃ (i8 : Int),
      v6 = Value.int IntKind.i64 i8 ∧
       Keeps w w7 [] ∧
        bif decide (i5 > i8) then
         ((0 : Int) ≤ p1 ∧ p1 ≤ (↑c0 : Int)) ∧
          Wr IntKind.i64 ((↑n0 : Int) + (↑n2 : Int)) fun (i9 : Int) =>
           Wr IntKind.i64 (i9 - p1) fun (i10 : Int) =>
            Runs Tryd.prog (Builtin.append_ #[(42 : Nat), (3 : Nat)] (42 : Nat) #[Value.slice (cutA p0 c0 (0 : Nat) (7 : Nat)) (p1.toNat - (0 : Nat)) (c0 - (0 : Nat)), Value.int IntKind.i64 i10]) w7
             fun (v11 : Value) (w12 : World) =>
             ∃ (q13 : Option Addr),
              ∃ (n14 : Nat),
               ∃ (n15 : Nat),
                v11 = Value.slice q13 n14 n15 ∧
                 Keeps w7 w12 [] ∧
                  ((0 : Int) ≤ p1 ∧ p1 ≤ (↑n14 : Int)) ∧
                   Runs Tryd.prog (Builtin.copy_ #[(42 : Nat), (42 : Nat)] (3 : Nat) #[Value.slice (cutA q13 n15 p1.toNat (7 : Nat)) (n14 - p1.toNat) (n15 - p1.toNat), Value.slice p2 n2 c2]) w12
                    fun (v16 : Value) (w17 : World) =>
                    ∃ (i18 : Int),
                     v16 = Value.int IntKind.i64 i18 ∧
                      Keeps w12 w17 [] ∧
                       Wr IntKind.i64 (p1 + (↑n2 : Int)) fun (i19 : Int) =>
                        ((0 : Int) ≤ i19 ∧ i19 ≤ (↑n14 : Int)) ∧
                         ((0 : Int) ≤ p1 ∧ p1 ≤ (↑n0 : Int)) ∧
                          Runs Tryd.prog
                           (Builtin.copy_ #[(42 : Nat), (42 : Nat)] (3 : Nat)
                            #[Value.slice (cutA q13 n15 i19.toNat (7 : Nat)) (n14 - i19.toNat) (n15 - i19.toNat), Value.slice (cutA p0 c0 p1.toNat (7 : Nat)) (n0 - p1.toNat) (c0 - p1.toNat)])
                           w17.drew fun (v20 : Value) (w21 : World) => ∃ (i22 : Int), v20 = Value.int IntKind.i64 i22 ∧ Keeps w17.drew w21 [] ∧ R (Ending.returned (Value.slice q13 n14 n15)) w21
        else
         Wr IntKind.i64 ((↑n0 : Int) + (↑n2 : Int)) fun (i23 : Int) =>
          ((0 : Int) ≤ i23 ∧ i23 ≤ (↑c0 : Int)) ∧
           Wr IntKind.i64 (p1 + (↑n2 : Int)) fun (i24 : Int) =>
            ((0 : Int) ≤ i24 ∧ i24 ≤ (↑(i23.toNat - (0 : Nat)) : Int)) ∧
             RetsX Tryd.prog (168 : Nat)
              #[Value.slice p2 n2 c2, Value.slice (cutA (cutA p0 c0 (0 : Nat) (7 : Nat)) (c0 - (0 : Nat)) i24.toNat (7 : Nat)) (i23.toNat - (0 : Nat) - i24.toNat) (c0 - (0 : Nat) - i24.toNat)] w7
              fun (v25 : Value) (w26 : World) =>
              ∃ (t27 : Bool),
               v25 = Value.bool t27 ∧
                Keeps w7 w26 [] ∧
                 bif !t27 then
                  Wr IntKind.i64 (p1 + (↑n2 : Int)) fun (i28 : Int) =>
                   ((0 : Int) ≤ i28 ∧ i28 ≤ (↑(i23.toNat - (0 : Nat)) : Int)) ∧
                    ((0 : Int) ≤ p1 ∧ p1 ≤ (↑(i23.toNat - (0 : Nat)) : Int)) ∧
                     Runs Tryd.prog
                      (Builtin.copy_ #[(42 : Nat), (42 : Nat)] (3 : Nat)
                       #[Value.slice (cutA (cutA p0 c0 (0 : Nat) (7 : Nat)) (c0 - (0 : Nat)) i28.toNat (7 : Nat)) (i23.toNat - (0 : Nat) - i28.toNat) (c0 - (0 : Nat) - i28.toNat),
                        Value.slice (cutA (cutA p0 c0 (0 : Nat) (7 : Nat)) (c0 - (0 : Nat)) p1.toNat (7 : Nat)) (i23.toNat - (0 : Nat) - p1.toNat) (c0 - (0 : Nat) - p1.toNat)])
                      w26.drew fun (v29 : Value) (w30 : World) =>
                      ∃ (i31 : Int),
                       v29 = Value.int IntKind.i64 i31 ∧
                        Keeps w26.drew w30 [] ∧
                         ((0 : Int) ≤ p1 ∧ p1 ≤ (↑(i23.toNat - (0 : Nat)) : Int)) ∧
                          Runs Tryd.prog
                           (Builtin.copy_ #[(42 : Nat), (42 : Nat)] (3 : Nat)
                            #[Value.slice (cutA (cutA p0 c0 (0 : Nat) (7 : Nat)) (c0 - (0 : Nat)) p1.toNat (7 : Nat)) (i23.toNat - (0 : Nat) - p1.toNat) (c0 - (0 : Nat) - p1.toNat),
                             Value.slice p2 n2 c2])
                           w30 fun (v32 : Value) (w33 : World) =>
                           ∃ (i34 : Int),
                            v32 = Value.int IntKind.i64 i34 ∧ Keeps w30 w33 [] ∧ R (Ending.returned (Value.slice (cutA p0 c0 (0 : Nat) (7 : Nat)) (i23.toNat - (0 : Nat)) (c0 - (0 : Nat)))) w33
                 else
                  ((0 : Int) ≤ (↑n0 : Int) ∧ (↑n0 : Int) ≤ (↑(i23.toNat - (0 : Nat)) : Int)) ∧
                   Runs Tryd.prog
                    (Builtin.copy_ #[(42 : Nat), (42 : Nat)] (3 : Nat)
                     #[Value.slice (cutA (cutA p0 c0 (0 : Nat) (7 : Nat)) (c0 - (0 : Nat)) (↑n0 : Int).toNat (7 : Nat)) (i23.toNat - (0 : Nat) - (↑n0 : Int).toNat)
                       (c0 - (0 : Nat) - (↑n0 : Int).toNat),
                      Value.slice p2 n2 c2])
                    w26 fun (v35 : Value) (w36 : World) =>
                    ∃ (i37 : Int),
                     v35 = Value.int IntKind.i64 i37 ∧
                      Keeps w26 w36 [] ∧
                       ((0 : Int) ≤ p1 ∧ p1 ≤ (↑(i23.toNat - (0 : Nat)) : Int)) ∧
                        Rets Tryd.prog (169 : Nat)
                         #[Value.slice (cutA (cutA p0 c0 (0 : Nat) (7 : Nat)) (c0 - (0 : Nat)) p1.toNat (7 : Nat)) (i23.toNat - (0 : Nat) - p1.toNat) (c0 - (0 : Nat) - p1.toNat),
                          Value.int IntKind.i64 (↑n2 : Int)]
                         w36 fun (v38 : Value) (w39 : World) =>
                         v38 = Value.tuple #[] ∧ Keeps w36 w39 [] ∧ R (Ending.returned (Value.slice (cutA p0 c0 (0 : Nat) (7 : Nat)) (i23.toNat - (0 : Nat)) (c0 - (0 : Nat)))) w39
theorem vcTryd130 (p0 : Option Addr) (n0 c0 : Nat) (p1 : Int) (p2 : Option Addr) (n2 c2 : Nat) (w : World) (R : Ending → World → Prop) : SX.vcFn Tryd.prog [] Tryd.f130 [.v (.slice p0 n0 c0), .v (.int .i64 p1), .v (.slice p2 n2 c2)] [] w R = VCTryd130 p0 n0 c0 p1 p2 n2 c2 w R := by kernel_rfl
def VCTryd131 (p0 : Option Addr) (n0 c0 : Nat) (p1 : Int) (p2 : Int) (w : World) (R : Ending → World → Prop) : Prop :=
((0 : Int) ≤ (↑n0 : Int) ∧ (↑n0 : Int) ≤ (↑c0 : Int)) ∧
 ((0 : Int) ≤ p2 ∧ p2 ≤ (↑(↑n0 : Int).toNat : Int)) ∧
  ((0 : Int) ≤ p1 ∧ p1 ≤ (↑p2.toNat : Int)) ∧
   bif p1 == p2 then R (Ending.returned (Value.slice p0 n0 c0)) w
   else
    ((0 : Int) ≤ p1 ∧ p1 ≤ (↑c0 : Int)) ∧
     ((0 : Int) ≤ p2 ∧ p2 ≤ (↑n0 : Int)) ∧
      Runs Tryd.prog
       (Builtin.append_ #[(42 : Nat), (42 : Nat)] (42 : Nat)
        #[Value.slice (cutA p0 c0 (0 : Nat) (7 : Nat)) (p1.toNat - (0 : Nat)) (c0 - (0 : Nat)), Value.slice (cutA p0 c0 p2.toNat (7 : Nat)) (n0 - p2.toNat) (c0 - p2.toNat)])
       w.drew fun (v0 : Value) (w1 : World) =>
       ∃ (q2 : Option Addr),
        ∃ (n3 : Nat),
         ∃ (n4 : Nat),
          v0 = Value.slice q2 n3 n4 ∧
           Keeps w.drew w1 [] ∧
            ((0 : Int) ≤ (↑n0 : Int) ∧ (↑n0 : Int) ≤ (↑n4 : Int)) ∧
             ((0 : Int) ≤ (↑n3 : Int) ∧ (↑n3 : Int) ≤ (↑(↑n0 : Int).toNat : Int)) ∧
              Runs Tryd.prog (Builtin.clear_ #[(42 : Nat)] (0 : Nat) #[Value.slice (cutA q2 n4 (↑n3 : Int).toNat (7 : Nat)) ((↑n0 : Int).toNat - (↑n3 : Int).toNat) (n4 - (↑n3 : Int).toNat)]) w1
               fun (v5 : Value) (w6 : World) => v5 = Value.tuple #[] ∧ Keeps w1 w6 [] ∧ R (Ending.returned (Value.slice q2 n3 n4)) w6
theorem vcTryd131 (p0 : Option Addr) (n0 c0 : Nat) (p1 : Int) (p2 : Int) (w : World) (R : Ending → World → Prop) : SX.vcFn Tryd.prog [] Tryd.f131 [.v (.slice p0 n0 c0), .v (.int .i64 p1), .v (.int .i64 p2)] [] w R = VCTryd131 p0 n0 c0 p1 p2 w R := by kernel_rfl
def VCTryd132 (p0 : ByteArray) (p1 : ByteArray) (w : World) (R : Ending → World → Prop) : Prop :=
Rets Tryd.prog (29 : Nat) #[Value.string p1] w fun (v0 : Value) (w1 : World) =>
 ∃ (t2 : Bool),
  v0 = Value.bool t2 ∧
   Keeps w w1 [] ∧
    bif !t2 then R (Ending.returned (Value.bool false)) w1
    else
     bif !p0.toList == ({ data := #[] } : ByteArray).toList then
      Rets Tryd.prog (29 : Nat) #[Value.string p0] w1 fun (v3 : Value) (w4 : World) =>
       ∃ (t5 : Bool),
        v3 = Value.bool t5 ∧
         Keeps w1 w4 [] ∧
          bif !t5 then R (Ending.returned (Value.bool false)) w4
          else
           bif p0.toList == ({ data := #[] } : ByteArray).toList then R (Ending.returned (Value.bool true)) w4
           else
            bif decide ((↑p1.size : Int) > (↑p0.size : Int)) then
             ((0 : Int) ≤ (↑p0.size : Int) ∧ (↑p0.size : Int) ≤ (↑p1.size : Int)) ∧
              bif (p1.extract (0 : Nat) (↑p0.size : Int).toNat).toList == p0.toList then
               ((0 : Int) ≤ (↑p0.size : Int) ∧ (↑p0.size : Int) < (↑p1.size : Int)) ∧ R (Ending.returned (Value.bool (byteAt p1 (↑p0.size : Int) == (47 : Int)))) w4
              else R (Ending.returned (Value.bool false)) w4
            else R (Ending.returned (Value.bool false)) w4
     else
      bif p0.toList == ({ data := #[] } : ByteArray).toList then R (Ending.returned (Value.bool true)) w1
      else
       bif decide ((↑p1.size : Int) > (↑p0.size : Int)) then
        ((0 : Int) ≤ (↑p0.size : Int) ∧ (↑p0.size : Int) ≤ (↑p1.size : Int)) ∧
         bif (p1.extract (0 : Nat) (↑p0.size : Int).toNat).toList == p0.toList then
          ((0 : Int) ≤ (↑p0.size : Int) ∧ (↑p0.size : Int) < (↑p1.size : Int)) ∧ R (Ending.returned (Value.bool (byteAt p1 (↑p0.size : Int) == (47 : Int)))) w1
         else R (Ending.returned (Value.bool false)) w1
       else R (Ending.returned (Value.bool false)) w1
theorem vcTryd132 (p0 : ByteArray) (p1 : ByteArray) (w : World) (R : Ending → World → Prop) : SX.vcFn Tryd.prog [] Tryd.f132 [.v (.string p0), .v (.string p1)] [] w R = VCTryd132 p0 p1 w R := by kernel_rfl
def VCTryd134 (p0 : ByteArray) (p1 : ByteArray) (w : World) (R : Ending → World → Prop) : Prop :=
Rets Tryd.prog (170 : Nat) #[Value.string p0, Value.string p1] w fun (v0 : Value) (w1 : World) =>
 ∃ (s2 : ByteArray), ∃ (t3 : Bool), v0 = Value.tuple #[Value.string s2, Value.bool t3] ∧ Keeps w w1 [] ∧ R (Ending.returned (Value.bool t3)) w1
theorem vcTryd134 (p0 : ByteArray) (p1 : ByteArray) (w : World) (R : Ending → World → Prop) : SX.vcFn Tryd.prog [] Tryd.f134 [.v (.string p0), .v (.string p1)] [] w R = VCTryd134 p0 p1 w R := by kernel_rfl
def VCTryd165 (p0 : Option Addr) (n0 c0 : Nat) (p1 : ByteArray) (p2 : Value) (w : World) (R : Ending → World → Prop) : Prop :=
∃ (I0 : Int → Int → World → Prop),
 ∃ (I1 : Int → Int → World → Nat),
  I0 (↑n0 : Int) (0 : Int) w ∧
   ∀ (i2 i3 : Int) (w4 : World),
    I0 i2 i3 w4 →
     bif decide (i3 < i2) then
      Wr IntKind.i64 (i3 + i2) fun (i5 : Int) =>
       Wr IntKind.u64 i5 fun (i6 : Int) =>
        (0 : Int) ≤ (1 : Int) ∧
         Wr IntKind.i64 (shrI IntKind.u64 i6 (1 : Int)) fun (i7 : Int) =>
          ((0 : Int) ≤ i7 ∧ i7 < (↑n0 : Int)) ∧
           SX.Ptr p0 fun (a8 : Addr) =>
            ∃ (s9 : ByteArray),
             ∃ (i10 : Int),
              ∃ (i11 : Int),
               ∃ (i12 : Int),
                ∃ (i13 : Int),
                 ∃ (i14 : Int),
                  ∃ (i15 : Int),
                   (w4.cell? ((a8.add (i7.toNat * (7 : Nat))).add (0 : Nat)) = some (Value.string s9) ∧
                     w4.cell? ((a8.add (i7.toNat * (7 : Nat))).add (1 : Nat)) = some (Value.int IntKind.i64 i10) ∧
                      w4.cell? ((a8.add (i7.toNat * (7 : Nat))).add (2 : Nat)) = some (Value.int IntKind.i64 i11) ∧
                       w4.cell? ((a8.add (i7.toNat * (7 : Nat))).add (3 : Nat)) = some (Value.int IntKind.i64 i12) ∧
                        w4.cell? ((a8.add (i7.toNat * (7 : Nat))).add (4 : Nat)) = some (Value.int IntKind.i64 i13) ∧
                         w4.cell? ((a8.add (i7.toNat * (7 : Nat))).add (5 : Nat)) = some (Value.int IntKind.u32 i14) ∧
                          w4.cell? ((a8.add (i7.toNat * (7 : Nat))).add (6 : Nat)) = some (Value.int IntKind.i64 i15) ∧ True) ∧
                    CallsVal Tryd.prog p2
                     #[Value.agg
                       #[Value.string s9, Value.int IntKind.i64 i10, Value.int IntKind.i64 i11, Value.int IntKind.i64 i12, Value.int IntKind.i64 i13, Value.int IntKind.u32 i14,
                        Value.int IntKind.i64 i15],
                      Value.string p1]
                     w4 fun (v16 : Value) (w17 : World) =>
                     ∃ (i18 : Int),
                      v16 = Value.int IntKind.i64 i18 ∧
                       Keeps w4 w17 [] ∧
                        bif decide (i18 < (0 : Int)) then Wr IntKind.i64 (i7 + (1 : Int)) fun (i19 : Int) => I0 i2 i19 w17 ∧ I1 i2 i19 w17 < I1 i2 i3 w4
                        else I0 i7 i3 w17 ∧ I1 i7 i3 w17 < I1 i2 i3 w4
     else
      bif decide (i3 < (↑n0 : Int)) then
       ((0 : Int) ≤ i3 ∧ i3 < (↑n0 : Int)) ∧
        SX.Ptr p0 fun (a20 : Addr) =>
         ∃ (s21 : ByteArray),
          ∃ (i22 : Int),
           ∃ (i23 : Int),
            ∃ (i24 : Int),
             ∃ (i25 : Int),
              ∃ (i26 : Int),
               ∃ (i27 : Int),
                (w4.cell? ((a20.add (i3.toNat * (7 : Nat))).add (0 : Nat)) = some (Value.string s21) ∧
                  w4.cell? ((a20.add (i3.toNat * (7 : Nat))).add (1 : Nat)) = some (Value.int IntKind.i64 i22) ∧
                   w4.cell? ((a20.add (i3.toNat * (7 : Nat))).add (2 : Nat)) = some (Value.int IntKind.i64 i23) ∧
                    w4.cell? ((a20.add (i3.toNat * (7 : Nat))).add (3 : Nat)) = some (Value.int IntKind.i64 i24) ∧
                     w4.cell? ((a20.add (i3.toNat * (7 : Nat))).add (4 : Nat)) = some (Value.int IntKind.i64 i25) ∧
                      w4.cell? ((a20.add (i3.toNat * (7 : Nat))).add (5 : Nat)) = some (Value.int IntKind.u32 i26) ∧
                       w4.cell? ((a20.add (i3.toNat * (7 : Nat))).add (6 : Nat)) = some (Value.int IntKind.i64 i27) ∧ True) ∧
                 CallsVal Tryd.prog p2
                  #[Value.agg
                    #[Value.string s21, Value.int IntKind.i64 i22, Value.int IntKind.i64 i23, Value.int IntKind.i64 i24, Value.int IntKind.i64 i25, Value.int IntKind.u32 i26,
                     Value.int IntKind.i64 i27],
                   Value.string p1]
                  w4 fun (v28 : Value) (w29 : World) =>
                  ∃ (i30 : Int), v28 = Value.int IntKind.i64 i30 ∧ Keeps w4 w29 [] ∧ R (Ending.returned (Value.tuple #[Value.int IntKind.i64 i3, Value.bool (i30 == (0 : Int))])) w29
      else R (Ending.returned (Value.tuple #[Value.int IntKind.i64 i3, Value.bool false])) w4
theorem vcTryd165 (p0 : Option Addr) (n0 c0 : Nat) (p1 : ByteArray) (p2 : Value) (w : World) (R : Ending → World → Prop) : SX.vcFn Tryd.prog [(3, ⟨[(10, .int .i64), (9, .int .i64)], [1, 0, 2, 8], []⟩)] Tryd.f165 [.v (.slice p0 n0 c0), .v (.string p1), .v p2] [] w R = VCTryd165 p0 n0 c0 p1 p2 w R := by kernel_rfl
def VCTryd170 (p0 : ByteArray) (p1 : ByteArray) (w : World) (R : Ending → World → Prop) : Prop :=
Rets Tryd.prog (104 : Nat) #[Value.string p1] w fun (v0 : Value) (w1 : World) =>
 ∃ (t2 : Bool),
  v0 = Value.bool t2 ∧
   Keeps w w1 [] ∧
    bif !t2 then R (Ending.returned (Value.tuple #[Value.string { data := #[] }, Value.bool false])) w1
    else
     bif p0.toList == ({ data := #[] } : ByteArray).toList then R (Ending.returned (Value.tuple #[Value.string p1, Value.bool true])) w1
     else
      Rets Tryd.prog (104 : Nat) #[Value.string p0] w1 fun (v3 : Value) (w4 : World) =>
       ∃ (t5 : Bool),
        v3 = Value.bool t5 ∧
         Keeps w1 w4 [] ∧
          bif !t5 then R (Ending.returned (Value.tuple #[Value.string { data := #[] }, Value.bool false])) w4
          else
           p0.size + (1 : Nat) ≤ (9223372036854775807 : Nat) ∧
            Rets Tryd.prog (188 : Nat) #[Value.string p1, Value.string (p0 ++ { data := #[(47 : UInt8)] })] w4 fun (v6 : Value) (w7 : World) =>
             ∃ (s8 : ByteArray), ∃ (t9 : Bool), v6 = Value.tuple #[Value.string s8, Value.bool t9] ∧ Keeps w4 w7 [] ∧ R (Ending.returned (Value.tuple #[Value.string s8, Value.bool t9])) w7
theorem vcTryd170 (p0 : ByteArray) (p1 : ByteArray) (w : World) (R : Ending → World → Prop) : SX.vcFn Tryd.prog [] Tryd.f170 [.v (.string p0), .v (.string p1)] [] w R = VCTryd170 p0 p1 w R := by kernel_rfl
def VCTryd188 (p0 : ByteArray) (p1 : ByteArray) (w : World) (R : Ending → World → Prop) : Prop :=
Rets Tryd.prog (200 : Nat) #[Value.string p0, Value.string p1] w fun (v0 : Value) (w1 : World) =>
 ∃ (s2 : ByteArray), ∃ (t3 : Bool), v0 = Value.tuple #[Value.string s2, Value.bool t3] ∧ Keeps w w1 [] ∧ R (Ending.returned (Value.tuple #[Value.string s2, Value.bool t3])) w1
theorem vcTryd188 (p0 : ByteArray) (p1 : ByteArray) (w : World) (R : Ending → World → Prop) : SX.vcFn Tryd.prog [] Tryd.f188 [.v (.string p0), .v (.string p1)] [] w R = VCTryd188 p0 p1 w R := by kernel_rfl
def VCTryd200 (p0 : ByteArray) (p1 : ByteArray) (w : World) (R : Ending → World → Prop) : Prop :=
Rets Tryd.prog (211 : Nat) #[Value.string p0, Value.string p1] w fun (v0 : Value) (w1 : World) =>
 ∃ (t2 : Bool),
  v0 = Value.bool t2 ∧
   Keeps w w1 [] ∧
    bif !t2 then R (Ending.returned (Value.tuple #[Value.string p0, Value.bool false])) w1
    else ((0 : Int) ≤ (↑p1.size : Int) ∧ (↑p1.size : Int) ≤ (↑p0.size : Int)) ∧ R (Ending.returned (Value.tuple #[Value.string (p0.extract (↑p1.size : Int).toNat p0.size), Value.bool true])) w1
theorem vcTryd200 (p0 : ByteArray) (p1 : ByteArray) (w : World) (R : Ending → World → Prop) : SX.vcFn Tryd.prog [] Tryd.f200 [.v (.string p0), .v (.string p1)] [] w R = VCTryd200 p0 p1 w R := by kernel_rfl
def VCTryd74 (p : Option Addr) (s : ByteArray) (a f r z u m : Int) (w : World) (R : Ending → World → Prop) : Prop :=
bif p.isNone then
 Known (w.alloc (Obj.cells #[Value.string s, Value.int IntKind.i64 a, Value.int IntKind.i64 f, Value.int IntKind.i64 r, Value.int IntKind.i64 z, Value.int IntKind.u32 u, Value.int IntKind.i64 m] (50 : Nat)))
   [(w.heap.size,
     [((0 : Nat), Value.string s), ((1 : Nat), Value.int IntKind.i64 a), ((2 : Nat), Value.int IntKind.i64 f), ((3 : Nat), Value.int IntKind.i64 r), ((4 : Nat), Value.int IntKind.i64 z),
      ((5 : Nat), Value.int IntKind.u32 u), ((6 : Nat), Value.int IntKind.i64 m)])] →
  R (Ending.returned (Value.int IntKind.i64 (1 : Int)))
   (w.alloc (Obj.cells #[Value.string s, Value.int IntKind.i64 a, Value.int IntKind.i64 f, Value.int IntKind.i64 r, Value.int IntKind.i64 z, Value.int IntKind.u32 u, Value.int IntKind.i64 m] (50 : Nat)))
else
 Known (w.alloc (Obj.cells #[Value.string s, Value.int IntKind.i64 a, Value.int IntKind.i64 f, Value.int IntKind.i64 r, Value.int IntKind.i64 z, Value.int IntKind.u32 u, Value.int IntKind.i64 m] (50 : Nat)))
   [(w.heap.size,
     [((0 : Nat), Value.string s), ((1 : Nat), Value.int IntKind.i64 a), ((2 : Nat), Value.int IntKind.i64 f), ((3 : Nat), Value.int IntKind.i64 r), ((4 : Nat), Value.int IntKind.i64 z),
      ((5 : Nat), Value.int IntKind.u32 u), ((6 : Nat), Value.int IntKind.i64 m)])] →
  Rets Tryd.prog (44 : Nat) #[Value.agg #[Value.string s, Value.int IntKind.i64 a, Value.int IntKind.i64 f, Value.int IntKind.i64 r, Value.int IntKind.i64 z, Value.int IntKind.u32 u, Value.int IntKind.i64 m]]
   (w.alloc (Obj.cells #[Value.string s, Value.int IntKind.i64 a, Value.int IntKind.i64 f, Value.int IntKind.i64 r, Value.int IntKind.i64 z, Value.int IntKind.u32 u, Value.int IntKind.i64 m] (50 : Nat)))
   fun (v0 : Value) (w1 : World) =>
   ∃ (t2 : Bool),
    v0 = Value.bool t2 ∧
     Keeps (w.alloc (Obj.cells #[Value.string s, Value.int IntKind.i64 a, Value.int IntKind.i64 f, Value.int IntKind.i64 r, Value.int IntKind.i64 z, Value.int IntKind.u32 u, Value.int IntKind.i64 m] (50 : Nat))) w1
       [w.heap.size] ∧
      bif !t2 then
       Known w1
         [(w.heap.size,
           [((0 : Nat), Value.string s), ((1 : Nat), Value.int IntKind.i64 a), ((2 : Nat), Value.int IntKind.i64 f), ((3 : Nat), Value.int IntKind.i64 r), ((4 : Nat), Value.int IntKind.i64 z),
            ((5 : Nat), Value.int IntKind.u32 u), ((6 : Nat), Value.int IntKind.i64 m)])] →
        R (Ending.returned (Value.int IntKind.i64 (1 : Int))) w1
      else
       Known w1
         [(w.heap.size,
           [((0 : Nat), Value.string s), ((1 : Nat), Value.int IntKind.i64 a), ((2 : Nat), Value.int IntKind.i64 f), ((3 : Nat), Value.int IntKind.i64 r), ((4 : Nat), Value.int IntKind.i64 z),
            ((5 : Nat), Value.int IntKind.u32 u), ((6 : Nat), Value.int IntKind.i64 m)])] →
        Rets Tryd.prog (80 : Nat) #[Value.pointer p, Value.string s] w1 fun (v3 : Value) (w4 : World) =>
         ∃ (t5 : Bool),
          v3 = Value.bool t5 ∧
           Keeps w1 w4 [w.heap.size] ∧
            bif !t5 then
             Known w4
               [(w.heap.size,
                 [((0 : Nat), Value.string s), ((1 : Nat), Value.int IntKind.i64 a), ((2 : Nat), Value.int IntKind.i64 f), ((3 : Nat), Value.int IntKind.i64 r), ((4 : Nat), Value.int IntKind.i64 z),
                  ((5 : Nat), Value.int IntKind.u32 u), ((6 : Nat), Value.int IntKind.i64 m)])] →
              R (Ending.returned (Value.int IntKind.i64 (14 : Int))) w4
            else
             Known w4
               [(w.heap.size,
                 [((0 : Nat), Value.string s), ((1 : Nat), Value.int IntKind.i64 a), ((2 : Nat), Value.int IntKind.i64 f), ((3 : Nat), Value.int IntKind.i64 r), ((4 : Nat), Value.int IntKind.i64 z),
                  ((5 : Nat), Value.int IntKind.u32 u), ((6 : Nat), Value.int IntKind.i64 m)])] →
              Rets Tryd.prog (129 : Nat) #[Value.pointer p, Value.string s] w4 fun (v6 : Value) (w7 : World) =>
               ∃ (i8 : Int),
                ∃ (t9 : Bool),
                 v6 = Value.tuple #[Value.int IntKind.i64 i8, Value.bool t9] ∧
                  Keeps w4 w7 [w.heap.size] ∧
                   bif t9 then
                    SX.Ptr p fun (a10 : Addr) =>
                     ∃ (q11 : Option Addr),
                      ∃ (n12 : Nat),
                       ∃ (n13 : Nat),
                        w7.drew.cell? (a10.add (0 : Nat)) = some (Value.slice q11 n12 n13) ∧
                         ((0 : Int) ≤ i8 ∧ i8 < (↑n12 : Int)) ∧
                          SX.Ptr q11 fun (a14 : Addr) =>
                           (∃ (v15 : Value), w7.drew.cell? ((a14.add (i8.toNat * (7 : Nat))).add (0 : Nat)) = some v15) ∧
                            w7.drew.frozen? ((a14.add (i8.toNat * (7 : Nat))).add (0 : Nat)) = false ∧
                             Apart ((a14.add (i8.toNat * (7 : Nat))).add (0 : Nat)) w.heap.size [(0 : Nat), (1 : Nat), (2 : Nat), (3 : Nat), (4 : Nat), (5 : Nat), (6 : Nat)] ∧
                              (∃ (v16 : Value),
                                (w7.drew.setCell ((a14.add (i8.toNat * (7 : Nat))).add (0 : Nat)) (Value.string s)).cell? ((a14.add (i8.toNat * (7 : Nat))).add (1 : Nat)) = some v16) ∧
                               (w7.drew.setCell ((a14.add (i8.toNat * (7 : Nat))).add (0 : Nat)) (Value.string s)).frozen? ((a14.add (i8.toNat * (7 : Nat))).add (1 : Nat)) = false ∧
                                Apart ((a14.add (i8.toNat * (7 : Nat))).add (1 : Nat)) w.heap.size [(0 : Nat), (1 : Nat), (2 : Nat), (3 : Nat), (4 : Nat), (5 : Nat), (6 : Nat)] ∧
                                 (∃ (v17 : Value),
                                   ((w7.drew.setCell ((a14.add (i8.toNat * (7 : Nat))).add (0 : Nat)) (Value.string s)).setCell ((a14.add (i8.toNat * (7 : Nat))).add (1 : Nat))
                                       (Value.int IntKind.i64 a)).cell?
                                     ((a14.add (i8.toNat * (7 : Nat))).add (2 : Nat)) =
                                    some v17) ∧
                                  ((w7.drew.setCell ((a14.add (i8.toNat * (7 : Nat))).add (0 : Nat)) (Value.string s)).setCell ((a14.add (i8.toNat * (7 : Nat))).add (1 : Nat))
                                       (Value.int IntKind.i64 a)).frozen?
                                     ((a14.add (i8.toNat * (7 : Nat))).add (2 : Nat)) =
                                    false ∧
                                   Apart ((a14.add (i8.toNat * (7 : Nat))).add (2 : Nat)) w.heap.size [(0 : Nat), (1 : Nat), (2 : Nat), (3 : Nat), (4 : Nat), (5 : Nat), (6 : Nat)] ∧
                                    (∃ (v18 : Value),
                                      (((w7.drew.setCell ((a14.add (i8.toNat * (7 : Nat))).add (0 : Nat)) (Value.string s)).setCell ((a14.add (i8.toNat * (7 : Nat))).add (1 : Nat))
                                            (Value.int IntKind.i64 a)).setCell
                                          ((a14.add (i8.toNat * (7 : Nat))).add (2 : Nat)) (Value.int IntKind.i64 f)).cell?
                                        ((a14.add (i8.toNat * (7 : Nat))).add (3 : Nat)) =
                                       some v18) ∧
                                     (((w7.drew.setCell ((a14.add (i8.toNat * (7 : Nat))).add (0 : Nat)) (Value.string s)).setCell ((a14.add (i8.toNat * (7 : Nat))).add (1 : Nat))
                                            (Value.int IntKind.i64 a)).setCell
                                          ((a14.add (i8.toNat * (7 : Nat))).add (2 : Nat)) (Value.int IntKind.i64 f)).frozen?
                                        ((a14.add (i8.toNat * (7 : Nat))).add (3 : Nat)) =
                                       false ∧
                                      Apart ((a14.add (i8.toNat * (7 : Nat))).add (3 : Nat)) w.heap.size
                                        [(0 : Nat), (1 : Nat), (2 : Nat), (3 : Nat), (4 : Nat), (5 : Nat), (6 : Nat)] ∧
                                       (∃ (v19 : Value),
                                         ((((w7.drew.setCell ((a14.add (i8.toNat * (7 : Nat))).add (0 : Nat)) (Value.string s)).setCell
                                                 ((a14.add (i8.toNat * (7 : Nat))).add (1 : Nat)) (Value.int IntKind.i64 a)).setCell
                                               ((a14.add (i8.toNat * (7 : Nat))).add (2 : Nat)) (Value.int IntKind.i64 f)).setCell
                                             ((a14.add (i8.toNat * (7 : Nat))).add (3 : Nat)) (Value.int IntKind.i64 r)).cell?
                                           ((a14.add (i8.toNat * (7 : Nat))).add (4 : Nat)) =
                                          some v19) ∧
                                        ((((w7.drew.setCell ((a14.add (i8.toNat * (7 : Nat))).add (0 : Nat)) (Value.string s)).setCell
                                                 ((a14.add (i8.toNat * (7 : Nat))).add (1 : Nat)) (Value.int IntKind.i64 a)).setCell
                                               ((a14.add (i8.toNat * (7 : Nat))).add (2 : Nat)) (Value.int IntKind.i64 f)).setCell
                                             ((a14.add (i8.toNat * (7 : Nat))).add (3 : Nat)) (Value.int IntKind.i64 r)).frozen?
                                           ((a14.add (i8.toNat * (7 : Nat))).add (4 : Nat)) =
                                          false ∧
                                         Apart ((a14.add (i8.toNat * (7 : Nat))).add (4 : Nat)) w.heap.size
                                           [(0 : Nat), (1 : Nat), (2 : Nat), (3 : Nat), (4 : Nat), (5 : Nat), (6 : Nat)] ∧
                                          (∃ (v20 : Value),
                                            (((((w7.drew.setCell ((a14.add (i8.toNat * (7 : Nat))).add (0 : Nat)) (Value.string s)).setCell
                                                      ((a14.add (i8.toNat * (7 : Nat))).add (1 : Nat)) (Value.int IntKind.i64 a)).setCell
                                                    ((a14.add (i8.toNat * (7 : Nat))).add (2 : Nat)) (Value.int IntKind.i64 f)).setCell
                                                  ((a14.add (i8.toNat * (7 : Nat))).add (3 : Nat)) (Value.int IntKind.i64 r)).setCell
                                                ((a14.add (i8.toNat * (7 : Nat))).add (4 : Nat)) (Value.int IntKind.i64 z)).cell?
                                              ((a14.add (i8.toNat * (7 : Nat))).add (5 : Nat)) =
                                             some v20) ∧
                                           (((((w7.drew.setCell ((a14.add (i8.toNat * (7 : Nat))).add (0 : Nat)) (Value.string s)).setCell
                                                      ((a14.add (i8.toNat * (7 : Nat))).add (1 : Nat)) (Value.int IntKind.i64 a)).setCell
                                                    ((a14.add (i8.toNat * (7 : Nat))).add (2 : Nat)) (Value.int IntKind.i64 f)).setCell
                                                  ((a14.add (i8.toNat * (7 : Nat))).add (3 : Nat)) (Value.int IntKind.i64 r)).setCell
                                                ((a14.add (i8.toNat * (7 : Nat))).add (4 : Nat)) (Value.int IntKind.i64 z)).frozen?
                                              ((a14.add (i8.toNat * (7 : Nat))).add (5 : Nat)) =
                                             false ∧
                                            Apart ((a14.add (i8.toNat * (7 : Nat))).add (5 : Nat)) w.heap.size
                                              [(0 : Nat), (1 : Nat), (2 : Nat), (3 : Nat), (4 : Nat), (5 : Nat), (6 : Nat)] ∧
                                             (∃ (v21 : Value),
                                               ((((((w7.drew.setCell ((a14.add (i8.toNat * (7 : Nat))).add (0 : Nat)) (Value.string s)).setCell
                                                         ((a14.add (i8.toNat * (7 : Nat))).add (1 : Nat)) (Value.int IntKind.i64 a)).setCell
                                                        ((a14.add (i8.toNat * (7 : Nat))).add (2 : Nat)) (Value.int IntKind.i64 f)).setCell
                                                       ((a14.add (i8.toNat * (7 : Nat))).add (3 : Nat)) (Value.int IntKind.i64 r)).setCell
                                                     ((a14.add (i8.toNat * (7 : Nat))).add (4 : Nat)) (Value.int IntKind.i64 z)).setCell
                                                   ((a14.add (i8.toNat * (7 : Nat))).add (5 : Nat)) (Value.int IntKind.u32 u)).cell?
                                                 ((a14.add (i8.toNat * (7 : Nat))).add (6 : Nat)) =
                                                some v21) ∧
                                              ((((((w7.drew.setCell ((a14.add (i8.toNat * (7 : Nat))).add (0 : Nat)) (Value.string s)).setCell
                                                         ((a14.add (i8.toNat * (7 : Nat))).add (1 : Nat)) (Value.int IntKind.i64 a)).setCell
                                                        ((a14.add (i8.toNat * (7 : Nat))).add (2 : Nat)) (Value.int IntKind.i64 f)).setCell
                                                       ((a14.add (i8.toNat * (7 : Nat))).add (3 : Nat)) (Value.int IntKind.i64 r)).setCell
                                                     ((a14.add (i8.toNat * (7 : Nat))).add (4 : Nat)) (Value.int IntKind.i64 z)).setCell
                                                   ((a14.add (i8.toNat * (7 : Nat))).add (5 : Nat)) (Value.int IntKind.u32 u)).frozen?
                                                 ((a14.add (i8.toNat * (7 : Nat))).add (6 : Nat)) =
                                                false ∧
                                               Apart ((a14.add (i8.toNat * (7 : Nat))).add (6 : Nat)) w.heap.size
                                                 [(0 : Nat), (1 : Nat), (2 : Nat), (3 : Nat), (4 : Nat), (5 : Nat), (6 : Nat)] ∧
                                                (Known
                                                  (((((((w7.drew.setCell ((a14.add (i8.toNat * (7 : Nat))).add (0 : Nat)) (Value.string s)).setCell
                                                          ((a14.add (i8.toNat * (7 : Nat))).add (1 : Nat)) (Value.int IntKind.i64 a)).setCell
                                                         ((a14.add (i8.toNat * (7 : Nat))).add (2 : Nat)) (Value.int IntKind.i64 f)).setCell
                                                        ((a14.add (i8.toNat * (7 : Nat))).add (3 : Nat)) (Value.int IntKind.i64 r)).setCell
                                                       ((a14.add (i8.toNat * (7 : Nat))).add (4 : Nat)) (Value.int IntKind.i64 z)).setCell
                                                     ((a14.add (i8.toNat * (7 : Nat))).add (5 : Nat)) (Value.int IntKind.u32 u)).setCell
                                                   ((a14.add (i8.toNat * (7 : Nat))).add (6 : Nat)) (Value.int IntKind.i64 m))
                                                  [(w.heap.size,
                                                    [((0 : Nat), Value.string s), ((1 : Nat), Value.int IntKind.i64 a), ((2 : Nat), Value.int IntKind.i64 f),
                                                     ((3 : Nat), Value.int IntKind.i64 r), ((4 : Nat), Value.int IntKind.i64 z), ((5 : Nat), Value.int IntKind.u32 u),
                                                     ((6 : Nat), Value.int IntKind.i64 m)])] →
                                                 R (Ending.returned (Value.int IntKind.i64 (0 : Int)))
                                                  (((((((w7.drew.setCell ((a14.add (i8.toNat * (7 : Nat))).add (0 : Nat)) (Value.string s)).setCell
                                                          ((a14.add (i8.toNat * (7 : Nat))).add (1 : Nat)) (Value.int IntKind.i64 a)).setCell
                                                         ((a14.add (i8.toNat * (7 : Nat))).add (2 : Nat)) (Value.int IntKind.i64 f)).setCell
                                                        ((a14.add (i8.toNat * (7 : Nat))).add (3 : Nat)) (Value.int IntKind.i64 r)).setCell
                                                       ((a14.add (i8.toNat * (7 : Nat))).add (4 : Nat)) (Value.int IntKind.i64 z)).setCell
                                                     ((a14.add (i8.toNat * (7 : Nat))).add (5 : Nat)) (Value.int IntKind.u32 u)).setCell
                                                   ((a14.add (i8.toNat * (7 : Nat))).add (6 : Nat)) (Value.int IntKind.i64 m)))
                   else
                    SX.Ptr p fun (a22 : Addr) =>
                     ∃ (q23 : Option Addr),
                      ∃ (n24 : Nat),
                       ∃ (n25 : Nat),
                        w7.drew.cell? (a22.add (0 : Nat)) = some (Value.slice q23 n24 n25) ∧
                         (w7.drew.alloc
                              (Obj.cells
                               #[Value.string s, Value.int IntKind.i64 a, Value.int IntKind.i64 f, Value.int IntKind.i64 r, Value.int IntKind.i64 z, Value.int IntKind.u32 u,
                                Value.int IntKind.i64 m]
                               (50 : Nat))).cell?
                            (a22.add (0 : Nat)) =
                           some (Value.slice q23 n24 n25) ∧
                          (Known
                            (w7.drew.alloc
                             (Obj.cells
                              #[Value.string s, Value.int IntKind.i64 a, Value.int IntKind.i64 f, Value.int IntKind.i64 r, Value.int IntKind.i64 z, Value.int IntKind.u32 u,
                               Value.int IntKind.i64 m]
                              (50 : Nat)))
                            [(w.heap.size,
                              [((0 : Nat), Value.string s), ((1 : Nat), Value.int IntKind.i64 a), ((2 : Nat), Value.int IntKind.i64 f), ((3 : Nat), Value.int IntKind.i64 r),
                               ((4 : Nat), Value.int IntKind.i64 z), ((5 : Nat), Value.int IntKind.u32 u), ((6 : Nat), Value.int IntKind.i64 m)])] →
                           Rets Tryd.prog (130 : Nat)
                            #[Value.slice q23 n24 n25, Value.int IntKind.i64 i8, Value.slice (some { block := w7.drew.heap.size, off := (0 : Nat) }) (1 : Nat) (1 : Nat)]
                            (w7.drew.alloc
                             (Obj.cells
                              #[Value.string s, Value.int IntKind.i64 a, Value.int IntKind.i64 f, Value.int IntKind.i64 r, Value.int IntKind.i64 z, Value.int IntKind.u32 u,
                               Value.int IntKind.i64 m]
                              (50 : Nat)))
                            fun (v26 : Value) (w27 : World) =>
                            ∃ (q28 : Option Addr),
                             ∃ (n29 : Nat),
                              ∃ (n30 : Nat),
                               v26 = Value.slice q28 n29 n30 ∧
                                Keeps
                                  (w7.drew.alloc
                                   (Obj.cells
                                    #[Value.string s, Value.int IntKind.i64 a, Value.int IntKind.i64 f, Value.int IntKind.i64 r, Value.int IntKind.i64 z, Value.int IntKind.u32 u,
                                     Value.int IntKind.i64 m]
                                    (50 : Nat)))
                                  w27 [w.heap.size] ∧
                                 SX.Ptr p fun (a31 : Addr) =>
                                  (∃ (v32 : Value), w27.cell? ((a31.add (0 : Nat)).add (0 : Nat)) = some v32) ∧
                                   w27.frozen? ((a31.add (0 : Nat)).add (0 : Nat)) = false ∧
                                    Apart ((a31.add (0 : Nat)).add (0 : Nat)) w.heap.size [(0 : Nat), (1 : Nat), (2 : Nat), (3 : Nat), (4 : Nat), (5 : Nat), (6 : Nat)] ∧
                                     (Known (w27.setCell ((a31.add (0 : Nat)).add (0 : Nat)) (Value.slice q28 n29 n30))
                                       [(w.heap.size,
                                         [((0 : Nat), Value.string s), ((1 : Nat), Value.int IntKind.i64 a), ((2 : Nat), Value.int IntKind.i64 f),
                                          ((3 : Nat), Value.int IntKind.i64 r), ((4 : Nat), Value.int IntKind.i64 z), ((5 : Nat), Value.int IntKind.u32 u),
                                          ((6 : Nat), Value.int IntKind.i64 m)])] →
                                      R (Ending.returned (Value.int IntKind.i64 (0 : Int))) (w27.setCell ((a31.add (0 : Nat)).add (0 : Nat)) (Value.slice q28 n29 n30))))
theorem vcTryd74 (p : Option Addr) (s : ByteArray) (a f r z u m : Int) (w : World) (R : Ending → World → Prop) : SX.vcFn Tryd.prog [] Tryd.f74 [.v (.pointer p), .v (.agg #[.string s, .int .i64 a, .int .i64 f, .int .i64 r, .int .i64 z, .int .u32 u, .int .i64 m])] [] w R = VCTryd74 p s a f r z u m w R := by kernel_rfl
def VCTryd127 (q : Option Addr) (n c : Nat) (s : ByteArray) (a f r z u m : Int) (w : World) (R : Ending → World → Prop) : Prop :=
∃ (I0 : Int → Option Addr → Nat → Nat → Bool → World → Prop),
 ∃ (I1 : Int → Option Addr → Nat → Nat → Bool → World → Nat),
  I0 (0 : Int) none (0 : Nat) (0 : Nat) false
    (w.alloc (Obj.cells #[Value.string s, Value.int IntKind.i64 a, Value.int IntKind.i64 f, Value.int IntKind.i64 r, Value.int IntKind.i64 z, Value.int IntKind.u32 u, Value.int IntKind.i64 m] (50 : Nat))) ∧
   ∀ (i2 : Int) (q3 : Option Addr) (n4 n5 : Nat) (t6 : Bool) (w7 : World),
    I0 i2 q3 n4 n5 t6 w7 →
     Known w7
       [(w.heap.size,
         [((0 : Nat), Value.string s), ((1 : Nat), Value.int IntKind.i64 a), ((2 : Nat), Value.int IntKind.i64 f), ((3 : Nat), Value.int IntKind.i64 r), ((4 : Nat), Value.int IntKind.i64 z),
          ((5 : Nat), Value.int IntKind.u32 u), ((6 : Nat), Value.int IntKind.i64 m)])] →
      bif decide (i2 < (↑n : Int)) then
       bif !t6 then
        ((0 : Int) ≤ i2 ∧ i2 < (↑n : Int)) ∧
         SX.Ptr q fun (a8 : Addr) =>
          ∃ (s9 : ByteArray),
           w7.drew.cell? ((a8.add (i2.toNat * (7 : Nat))).add (0 : Nat)) = some (Value.string s9) ∧
            bif Op.bytesLess s.toList s9.toList || s.toList == s9.toList then
             Runs Tryd.prog (Builtin.append_ #[(42 : Nat), (42 : Nat)] (42 : Nat) #[Value.slice q3 n4 n5, Value.slice (some { block := w7.drew.heap.size, off := (0 : Nat) }) (1 : Nat) (1 : Nat)])
              (w7.drew.alloc
               (Obj.cells #[Value.string s, Value.int IntKind.i64 a, Value.int IntKind.i64 f, Value.int IntKind.i64 r, Value.int IntKind.i64 z, Value.int IntKind.u32 u, Value.int IntKind.i64 m]
                (50 : Nat)))
              fun (v10 : Value) (w11 : World) =>
              ∃ (q12 : Option Addr),
               ∃ (n13 : Nat),
                ∃ (n14 : Nat),
                 v10 = Value.slice q12 n13 n14 ∧
                  Keeps
                    (w7.drew.alloc
                     (Obj.cells #[Value.string s, Value.int IntKind.i64 a, Value.int IntKind.i64 f, Value.int IntKind.i64 r, Value.int IntKind.i64 z, Value.int IntKind.u32 u, Value.int IntKind.i64 m]
                      (50 : Nat)))
                    w11 [w.heap.size] ∧
                   ((0 : Int) ≤ i2 ∧ i2 < (↑n : Int)) ∧
                    SX.Ptr q fun (a15 : Addr) =>
                     ∃ (s16 : ByteArray),
                      w11.drew.cell? ((a15.add (i2.toNat * (7 : Nat))).add (0 : Nat)) = some (Value.string s16) ∧
                       bif !s.toList == s16.toList then
                        ((0 : Int) ≤ i2 ∧ i2 < (↑n : Int)) ∧
                         SX.Ptr q fun (a17 : Addr) =>
                          ∃ (s18 : ByteArray),
                           ∃ (i19 : Int),
                            ∃ (i20 : Int),
                             ∃ (i21 : Int),
                              ∃ (i22 : Int),
                               ∃ (i23 : Int),
                                ∃ (i24 : Int),
                                 (w11.drew.cell? ((a17.add (i2.toNat * (7 : Nat))).add (0 : Nat)) = some (Value.string s18) ∧
                                   w11.drew.cell? ((a17.add (i2.toNat * (7 : Nat))).add (1 : Nat)) = some (Value.int IntKind.i64 i19) ∧
                                    w11.drew.cell? ((a17.add (i2.toNat * (7 : Nat))).add (2 : Nat)) = some (Value.int IntKind.i64 i20) ∧
                                     w11.drew.cell? ((a17.add (i2.toNat * (7 : Nat))).add (3 : Nat)) = some (Value.int IntKind.i64 i21) ∧
                                      w11.drew.cell? ((a17.add (i2.toNat * (7 : Nat))).add (4 : Nat)) = some (Value.int IntKind.i64 i22) ∧
                                       w11.drew.cell? ((a17.add (i2.toNat * (7 : Nat))).add (5 : Nat)) = some (Value.int IntKind.u32 i23) ∧
                                        w11.drew.cell? ((a17.add (i2.toNat * (7 : Nat))).add (6 : Nat)) = some (Value.int IntKind.i64 i24) ∧ True) ∧
                                  Runs Tryd.prog
                                   (Builtin.append_ #[(42 : Nat), (42 : Nat)] (42 : Nat)
                                    #[Value.slice q12 n13 n14, Value.slice (some { block := w11.drew.heap.size, off := (0 : Nat) }) (1 : Nat) (1 : Nat)])
                                   (w11.drew.alloc
                                    (Obj.cells
                                     #[Value.string s18, Value.int IntKind.i64 i19, Value.int IntKind.i64 i20, Value.int IntKind.i64 i21, Value.int IntKind.i64 i22,
                                      Value.int IntKind.u32 i23, Value.int IntKind.i64 i24]
                                     (50 : Nat)))
                                   fun (v25 : Value) (w26 : World) =>
                                   ∃ (q27 : Option Addr),
                                    ∃ (n28 : Nat),
                                     ∃ (n29 : Nat),
                                      v25 = Value.slice q27 n28 n29 ∧
                                       Keeps
                                         (w11.drew.alloc
                                          (Obj.cells
                                           #[Value.string s18, Value.int IntKind.i64 i19, Value.int IntKind.i64 i20, Value.int IntKind.i64 i21, Value.int IntKind.i64 i22,
                                            Value.int IntKind.u32 i23, Value.int IntKind.i64 i24]
                                           (50 : Nat)))
                                         w26 [w.heap.size] ∧
                                        Wr IntKind.i64 (i2 + (1 : Int)) fun (i30 : Int) =>
                                         SameVals
                                           [Value.string s, Value.int IntKind.i64 a, Value.int IntKind.i64 f, Value.int IntKind.i64 r, Value.int IntKind.i64 z,
                                            Value.int IntKind.u32 u, Value.int IntKind.i64 m]
                                           [Value.string s, Value.int IntKind.i64 a, Value.int IntKind.i64 f, Value.int IntKind.i64 r, Value.int IntKind.i64 z,
                                            Value.int IntKind.u32 u, Value.int IntKind.i64 m] ∧
                                          I0 i30 q27 n28 n29 true w26 ∧ I1 i30 q27 n28 n29 true w26 < I1 i2 q3 n4 n5 t6 w7
                       else
                        Wr IntKind.i64 (i2 + (1 : Int)) fun (i31 : Int) =>
                         SameVals
                           [Value.string s, Value.int IntKind.i64 a, Value.int IntKind.i64 f, Value.int IntKind.i64 r, Value.int IntKind.i64 z, Value.int IntKind.u32 u, Value.int IntKind.i64 m]
                           [Value.string s, Value.int IntKind.i64 a, Value.int IntKind.i64 f, Value.int IntKind.i64 r, Value.int IntKind.i64 z, Value.int IntKind.u32 u,
                            Value.int IntKind.i64 m] ∧
                          I0 i31 q12 n13 n14 true w11.drew ∧ I1 i31 q12 n13 n14 true w11.drew < I1 i2 q3 n4 n5 t6 w7
            else
             ((0 : Int) ≤ i2 ∧ i2 < (↑n : Int)) ∧
              SX.Ptr q fun (a32 : Addr) =>
               ∃ (s33 : ByteArray),
                w7.drew.drew.cell? ((a32.add (i2.toNat * (7 : Nat))).add (0 : Nat)) = some (Value.string s33) ∧
                 bif !s.toList == s33.toList then
                  ((0 : Int) ≤ i2 ∧ i2 < (↑n : Int)) ∧
                   SX.Ptr q fun (a34 : Addr) =>
                    ∃ (s35 : ByteArray),
                     ∃ (i36 : Int),
                      ∃ (i37 : Int),
                       ∃ (i38 : Int),
                        ∃ (i39 : Int),
                         ∃ (i40 : Int),
                          ∃ (i41 : Int),
                           (w7.drew.drew.cell? ((a34.add (i2.toNat * (7 : Nat))).add (0 : Nat)) = some (Value.string s35) ∧
                             w7.drew.drew.cell? ((a34.add (i2.toNat * (7 : Nat))).add (1 : Nat)) = some (Value.int IntKind.i64 i36) ∧
                              w7.drew.drew.cell? ((a34.add (i2.toNat * (7 : Nat))).add (2 : Nat)) = some (Value.int IntKind.i64 i37) ∧
                               w7.drew.drew.cell? ((a34.add (i2.toNat * (7 : Nat))).add (3 : Nat)) = some (Value.int IntKind.i64 i38) ∧
                                w7.drew.drew.cell? ((a34.add (i2.toNat * (7 : Nat))).add (4 : Nat)) = some (Value.int IntKind.i64 i39) ∧
                                 w7.drew.drew.cell? ((a34.add (i2.toNat * (7 : Nat))).add (5 : Nat)) = some (Value.int IntKind.u32 i40) ∧
                                  w7.drew.drew.cell? ((a34.add (i2.toNat * (7 : Nat))).add (6 : Nat)) = some (Value.int IntKind.i64 i41) ∧ True) ∧
                            Runs Tryd.prog
                             (Builtin.append_ #[(42 : Nat), (42 : Nat)] (42 : Nat)
                              #[Value.slice q3 n4 n5, Value.slice (some { block := w7.drew.drew.heap.size, off := (0 : Nat) }) (1 : Nat) (1 : Nat)])
                             (w7.drew.drew.alloc
                              (Obj.cells
                               #[Value.string s35, Value.int IntKind.i64 i36, Value.int IntKind.i64 i37, Value.int IntKind.i64 i38, Value.int IntKind.i64 i39, Value.int IntKind.u32 i40,
                                Value.int IntKind.i64 i41]
                               (50 : Nat)))
                             fun (v42 : Value) (w43 : World) =>
                             ∃ (q44 : Option Addr),
                              ∃ (n45 : Nat),
                               ∃ (n46 : Nat),
                                v42 = Value.slice q44 n45 n46 ∧
                                 Keeps
                                   (w7.drew.drew.alloc
                                    (Obj.cells
                                     #[Value.string s35, Value.int IntKind.i64 i36, Value.int IntKind.i64 i37, Value.int IntKind.i64 i38, Value.int IntKind.i64 i39,
                                      Value.int IntKind.u32 i40, Value.int IntKind.i64 i41]
                                     (50 : Nat)))
                                   w43 [w.heap.size] ∧
                                  Wr IntKind.i64 (i2 + (1 : Int)) fun (i47 : Int) =>
                                   SameVals
                                     [Value.string s, Value.int IntKind.i64 a, Value.int IntKind.i64 f, Value.int IntKind.i64 r, Value.int IntKind.i64 z, Value.int IntKind.u32 u,
                                      Value.int IntKind.i64 m]
                                     [Value.string s, Value.int IntKind.i64 a, Value.int IntKind.i64 f, Value.int IntKind.i64 r, Value.int IntKind.i64 z, Value.int IntKind.u32 u,
                                      Value.int IntKind.i64 m] ∧
                                    I0 i47 q44 n45 n46 t6 w43 ∧ I1 i47 q44 n45 n46 t6 w43 < I1 i2 q3 n4 n5 t6 w7
                 else
                  Wr IntKind.i64 (i2 + (1 : Int)) fun (i48 : Int) =>
                   SameVals [Value.string s, Value.int IntKind.i64 a, Value.int IntKind.i64 f, Value.int IntKind.i64 r, Value.int IntKind.i64 z, Value.int IntKind.u32 u, Value.int IntKind.i64 m]
                     [Value.string s, Value.int IntKind.i64 a, Value.int IntKind.i64 f, Value.int IntKind.i64 r, Value.int IntKind.i64 z, Value.int IntKind.u32 u, Value.int IntKind.i64 m] ∧
                    I0 i48 q3 n4 n5 t6 w7.drew.drew ∧ I1 i48 q3 n4 n5 t6 w7.drew.drew < I1 i2 q3 n4 n5 t6 w7
       else
        ((0 : Int) ≤ i2 ∧ i2 < (↑n : Int)) ∧
         SX.Ptr q fun (a49 : Addr) =>
          ∃ (s50 : ByteArray),
           w7.drew.drew.cell? ((a49.add (i2.toNat * (7 : Nat))).add (0 : Nat)) = some (Value.string s50) ∧
            bif !s.toList == s50.toList then
             ((0 : Int) ≤ i2 ∧ i2 < (↑n : Int)) ∧
              SX.Ptr q fun (a51 : Addr) =>
               ∃ (s52 : ByteArray),
                ∃ (i53 : Int),
                 ∃ (i54 : Int),
                  ∃ (i55 : Int),
                   ∃ (i56 : Int),
                    ∃ (i57 : Int),
                     ∃ (i58 : Int),
                      (w7.drew.drew.cell? ((a51.add (i2.toNat * (7 : Nat))).add (0 : Nat)) = some (Value.string s52) ∧
                        w7.drew.drew.cell? ((a51.add (i2.toNat * (7 : Nat))).add (1 : Nat)) = some (Value.int IntKind.i64 i53) ∧
                         w7.drew.drew.cell? ((a51.add (i2.toNat * (7 : Nat))).add (2 : Nat)) = some (Value.int IntKind.i64 i54) ∧
                          w7.drew.drew.cell? ((a51.add (i2.toNat * (7 : Nat))).add (3 : Nat)) = some (Value.int IntKind.i64 i55) ∧
                           w7.drew.drew.cell? ((a51.add (i2.toNat * (7 : Nat))).add (4 : Nat)) = some (Value.int IntKind.i64 i56) ∧
                            w7.drew.drew.cell? ((a51.add (i2.toNat * (7 : Nat))).add (5 : Nat)) = some (Value.int IntKind.u32 i57) ∧
                             w7.drew.drew.cell? ((a51.add (i2.toNat * (7 : Nat))).add (6 : Nat)) = some (Value.int IntKind.i64 i58) ∧ True) ∧
                       Runs Tryd.prog
                        (Builtin.append_ #[(42 : Nat), (42 : Nat)] (42 : Nat) #[Value.slice q3 n4 n5, Value.slice (some { block := w7.drew.drew.heap.size, off := (0 : Nat) }) (1 : Nat) (1 : Nat)])
                        (w7.drew.drew.alloc
                         (Obj.cells
                          #[Value.string s52, Value.int IntKind.i64 i53, Value.int IntKind.i64 i54, Value.int IntKind.i64 i55, Value.int IntKind.i64 i56, Value.int IntKind.u32 i57,
                           Value.int IntKind.i64 i58]
                          (50 : Nat)))
                        fun (v59 : Value) (w60 : World) =>
                        ∃ (q61 : Option Addr),
                         ∃ (n62 : Nat),
                          ∃ (n63 : Nat),
                           v59 = Value.slice q61 n62 n63 ∧
                            Keeps
                              (w7.drew.drew.alloc
                               (Obj.cells
                                #[Value.string s52, Value.int IntKind.i64 i53, Value.int IntKind.i64 i54, Value.int IntKind.i64 i55, Value.int IntKind.i64 i56, Value.int IntKind.u32 i57,
                                 Value.int IntKind.i64 i58]
                                (50 : Nat)))
                              w60 [w.heap.size] ∧
                             Wr IntKind.i64 (i2 + (1 : Int)) fun (i64 : Int) =>
                              SameVals
                                [Value.string s, Value.int IntKind.i64 a, Value.int IntKind.i64 f, Value.int IntKind.i64 r, Value.int IntKind.i64 z, Value.int IntKind.u32 u,
                                 Value.int IntKind.i64 m]
                                [Value.string s, Value.int IntKind.i64 a, Value.int IntKind.i64 f, Value.int IntKind.i64 r, Value.int IntKind.i64 z, Value.int IntKind.u32 u,
                                 Value.int IntKind.i64 m] ∧
                               I0 i64 q61 n62 n63 t6 w60 ∧ I1 i64 q61 n62 n63 t6 w60 < I1 i2 q3 n4 n5 t6 w7
            else
             Wr IntKind.i64 (i2 + (1 : Int)) fun (i65 : Int) =>
              SameVals [Value.string s, Value.int IntKind.i64 a, Value.int IntKind.i64 f, Value.int IntKind.i64 r, Value.int IntKind.i64 z, Value.int IntKind.u32 u, Value.int IntKind.i64 m]
                [Value.string s, Value.int IntKind.i64 a, Value.int IntKind.i64 f, Value.int IntKind.i64 r, Value.int IntKind.i64 z, Value.int IntKind.u32 u, Value.int IntKind.i64 m] ∧
               I0 i65 q3 n4 n5 t6 w7.drew.drew ∧ I1 i65 q3 n4 n5 t6 w7.drew.drew < I1 i2 q3 n4 n5 t6 w7
      else
       bif !t6 then
        Runs Tryd.prog (Builtin.append_ #[(42 : Nat), (42 : Nat)] (42 : Nat) #[Value.slice q3 n4 n5, Value.slice (some { block := w7.heap.size, off := (0 : Nat) }) (1 : Nat) (1 : Nat)])
         (w7.alloc (Obj.cells #[Value.string s, Value.int IntKind.i64 a, Value.int IntKind.i64 f, Value.int IntKind.i64 r, Value.int IntKind.i64 z, Value.int IntKind.u32 u, Value.int IntKind.i64 m] (50 : Nat)))
         fun (v66 : Value) (w67 : World) =>
         ∃ (q68 : Option Addr),
          ∃ (n69 : Nat),
           ∃ (n70 : Nat),
            v66 = Value.slice q68 n69 n70 ∧
             Keeps
               (w7.alloc
                (Obj.cells #[Value.string s, Value.int IntKind.i64 a, Value.int IntKind.i64 f, Value.int IntKind.i64 r, Value.int IntKind.i64 z, Value.int IntKind.u32 u, Value.int IntKind.i64 m]
                 (50 : Nat)))
               w67 [w.heap.size] ∧
              (Known w67
                [(w.heap.size,
                  [((0 : Nat), Value.string s), ((1 : Nat), Value.int IntKind.i64 a), ((2 : Nat), Value.int IntKind.i64 f), ((3 : Nat), Value.int IntKind.i64 r), ((4 : Nat), Value.int IntKind.i64 z),
                   ((5 : Nat), Value.int IntKind.u32 u), ((6 : Nat), Value.int IntKind.i64 m)])] →
               R (Ending.returned (Value.slice q68 n69 n70)) w67)
       else
        Known w7
          [(w.heap.size,
            [((0 : Nat), Value.string s), ((1 : Nat), Value.int IntKind.i64 a), ((2 : Nat), Value.int IntKind.i64 f), ((3 : Nat), Value.int IntKind.i64 r), ((4 : Nat), Value.int IntKind.i64 z),
             ((5 : Nat), Value.int IntKind.u32 u), ((6 : Nat), Value.int IntKind.i64 m)])] →
         R (Ending.returned (Value.slice q3 n4 n5)) w7
theorem vcTryd127 (q : Option Addr) (n c : Nat) (s : ByteArray) (a f r z u m : Int) (w : World) (R : Ending → World → Prop) : SX.vcFn Tryd.prog [(4, ⟨[(7, .int .i64), (5, .slice), (6, .bool)], [0, 3], []⟩)] Tryd.f127 [.v (.slice q n c), .v (.agg #[.string s, .int .i64 a, .int .i64 f, .int .i64 r, .int .i64 z, .int .u32 u, .int .i64 m])] [] w R = VCTryd127 q n c s a f r z u m w R := by kernel_rfl
def VCTryd133 (y : Value) (p1 p2 : Option Addr) (w : World) (R : Ending → World → Prop) : Prop :=
SX.Ptr p1 fun (a0 : Addr) =>
 ∃ (q1 : Option Addr),
  ∃ (n2 : Nat),
   ∃ (n3 : Nat),
    w.cell? a0 = some (Value.slice q1 n2 n3) ∧
     ∃ (I4 : Int → World → Prop),
      ∃ (I5 : Int → World → Nat),
       I4 (0 : Int) w ∧
        ∀ (i6 : Int) (w7 : World),
         I4 i6 w7 →
          bif decide (i6 < (↑n2 : Int)) then
           ((0 : Int) ≤ i6 ∧ i6 < (↑n2 : Int)) ∧
            SX.Ptr q1 fun (a8 : Addr) =>
             ∃ (s9 : ByteArray),
              ∃ (i10 : Int),
               ∃ (i11 : Int),
                ∃ (i12 : Int),
                 ∃ (i13 : Int),
                  ∃ (i14 : Int),
                   ∃ (i15 : Int),
                    (w7.cell? ((a8.add (i6.toNat * (7 : Nat))).add (0 : Nat)) = some (Value.string s9) ∧
                      w7.cell? ((a8.add (i6.toNat * (7 : Nat))).add (1 : Nat)) = some (Value.int IntKind.i64 i10) ∧
                       w7.cell? ((a8.add (i6.toNat * (7 : Nat))).add (2 : Nat)) = some (Value.int IntKind.i64 i11) ∧
                        w7.cell? ((a8.add (i6.toNat * (7 : Nat))).add (3 : Nat)) = some (Value.int IntKind.i64 i12) ∧
                         w7.cell? ((a8.add (i6.toNat * (7 : Nat))).add (4 : Nat)) = some (Value.int IntKind.i64 i13) ∧
                          w7.cell? ((a8.add (i6.toNat * (7 : Nat))).add (5 : Nat)) = some (Value.int IntKind.u32 i14) ∧
                           w7.cell? ((a8.add (i6.toNat * (7 : Nat))).add (6 : Nat)) = some (Value.int IntKind.i64 i15) ∧ True) ∧
                     SX.Ptr p2 fun (a16 : Addr) =>
                      ∃ (s17 : ByteArray),
                       ((((((((w7.alloc
                                          (Obj.cells
                                           #[Value.string { data := #[] }, Value.int IntKind.i64 (0 : Int), Value.int IntKind.i64 (0 : Int), Value.int IntKind.i64 (0 : Int),
                                            Value.int IntKind.i64 (0 : Int), Value.int IntKind.u32 (0 : Int), Value.int IntKind.i64 (0 : Int)]
                                           (50 : Nat))).setCell
                                        {block := w7.heap.size, off := (0 : Nat) } (Value.string s9)).setCell
                                      {block := w7.heap.size, off := (1 : Nat) } (Value.int IntKind.i64 i10)).setCell
                                    {block := w7.heap.size, off := (2 : Nat) } (Value.int IntKind.i64 i11)).setCell
                                  {block := w7.heap.size, off := (3 : Nat) } (Value.int IntKind.i64 i12)).setCell
                                {block := w7.heap.size, off := (4 : Nat) } (Value.int IntKind.i64 i13)).setCell
                              {block := w7.heap.size, off := (5 : Nat) } (Value.int IntKind.u32 i14)).setCell
                            {block := w7.heap.size, off := (6 : Nat) } (Value.int IntKind.i64 i15)).cell?
                          a16 =
                         some (Value.string s17) ∧
                        (Known
                          ((((((((w7.alloc
                                         (Obj.cells
                                          #[Value.string { data := #[] }, Value.int IntKind.i64 (0 : Int), Value.int IntKind.i64 (0 : Int), Value.int IntKind.i64 (0 : Int),
                                           Value.int IntKind.i64 (0 : Int), Value.int IntKind.u32 (0 : Int), Value.int IntKind.i64 (0 : Int)]
                                          (50 : Nat))).setCell
                                       {block := w7.heap.size, off := (0 : Nat) } (Value.string s9)).setCell
                                     {block := w7.heap.size, off := (1 : Nat) } (Value.int IntKind.i64 i10)).setCell
                                   {block := w7.heap.size, off := (2 : Nat) } (Value.int IntKind.i64 i11)).setCell
                                 {block := w7.heap.size, off := (3 : Nat) } (Value.int IntKind.i64 i12)).setCell
                               {block := w7.heap.size, off := (4 : Nat) } (Value.int IntKind.i64 i13)).setCell
                             {block := w7.heap.size, off := (5 : Nat) } (Value.int IntKind.u32 i14)).setCell
                           {block := w7.heap.size, off := (6 : Nat) } (Value.int IntKind.i64 i15))
                          [(w7.heap.size,
                            [((0 : Nat), Value.string s9), ((1 : Nat), Value.int IntKind.i64 i10), ((2 : Nat), Value.int IntKind.i64 i11), ((3 : Nat), Value.int IntKind.i64 i12),
                             ((4 : Nat), Value.int IntKind.i64 i13), ((5 : Nat), Value.int IntKind.u32 i14), ((6 : Nat), Value.int IntKind.i64 i15)])] →
                         Rets Tryd.prog (134 : Nat) #[Value.string s17, Value.string s9]
                          ((((((((w7.alloc
                                         (Obj.cells
                                          #[Value.string { data := #[] }, Value.int IntKind.i64 (0 : Int), Value.int IntKind.i64 (0 : Int), Value.int IntKind.i64 (0 : Int),
                                           Value.int IntKind.i64 (0 : Int), Value.int IntKind.u32 (0 : Int), Value.int IntKind.i64 (0 : Int)]
                                          (50 : Nat))).setCell
                                       {block := w7.heap.size, off := (0 : Nat) } (Value.string s9)).setCell
                                     {block := w7.heap.size, off := (1 : Nat) } (Value.int IntKind.i64 i10)).setCell
                                   {block := w7.heap.size, off := (2 : Nat) } (Value.int IntKind.i64 i11)).setCell
                                 {block := w7.heap.size, off := (3 : Nat) } (Value.int IntKind.i64 i12)).setCell
                               {block := w7.heap.size, off := (4 : Nat) } (Value.int IntKind.i64 i13)).setCell
                             {block := w7.heap.size, off := (5 : Nat) } (Value.int IntKind.u32 i14)).setCell
                           {block := w7.heap.size, off := (6 : Nat) } (Value.int IntKind.i64 i15))
                          fun (v18 : Value) (w19 : World) =>
                          ∃ (t20 : Bool),
                           v18 = Value.bool t20 ∧
                            Keeps
                              ((((((((w7.alloc
                                             (Obj.cells
                                              #[Value.string { data := #[] }, Value.int IntKind.i64 (0 : Int), Value.int IntKind.i64 (0 : Int),
                                               Value.int IntKind.i64 (0 : Int), Value.int IntKind.i64 (0 : Int), Value.int IntKind.u32 (0 : Int),
                                               Value.int IntKind.i64 (0 : Int)]
                                              (50 : Nat))).setCell
                                           {block := w7.heap.size, off := (0 : Nat) } (Value.string s9)).setCell
                                         {block := w7.heap.size, off := (1 : Nat) } (Value.int IntKind.i64 i10)).setCell
                                       {block := w7.heap.size, off := (2 : Nat) } (Value.int IntKind.i64 i11)).setCell
                                     {block := w7.heap.size, off := (3 : Nat) } (Value.int IntKind.i64 i12)).setCell
                                   {block := w7.heap.size, off := (4 : Nat) } (Value.int IntKind.i64 i13)).setCell
                                 {block := w7.heap.size, off := (5 : Nat) } (Value.int IntKind.u32 i14)).setCell
                               {block := w7.heap.size, off := (6 : Nat) } (Value.int IntKind.i64 i15))
                              w19 [w7.heap.size] ∧
                             bif !t20 then Wr IntKind.i64 (i6 + (1 : Int)) fun (i21 : Int) => I4 i21 w19 ∧ I5 i21 w19 < I5 i6 w7
                             else
                              Known w19
                                [(w7.heap.size,
                                  [((0 : Nat), Value.string s9), ((1 : Nat), Value.int IntKind.i64 i10), ((2 : Nat), Value.int IntKind.i64 i11), ((3 : Nat), Value.int IntKind.i64 i12),
                                   ((4 : Nat), Value.int IntKind.i64 i13), ((5 : Nat), Value.int IntKind.u32 i14), ((6 : Nat), Value.int IntKind.i64 i15)])] →
                               CallsVal Tryd.prog y
                                #[Value.agg
                                  #[Value.string s9, Value.int IntKind.i64 i10, Value.int IntKind.i64 i11, Value.int IntKind.i64 i12, Value.int IntKind.i64 i13,
                                   Value.int IntKind.u32 i14, Value.int IntKind.i64 i15]]
                                w19 fun (v22 : Value) (w23 : World) =>
                                ∃ (t24 : Bool),
                                 v22 = Value.bool t24 ∧
                                  Keeps w19 w23 [w7.heap.size] ∧
                                   bif !t24 then
                                    Known w23
                                      [(w7.heap.size,
                                        [((0 : Nat), Value.string s9), ((1 : Nat), Value.int IntKind.i64 i10), ((2 : Nat), Value.int IntKind.i64 i11),
                                         ((3 : Nat), Value.int IntKind.i64 i12), ((4 : Nat), Value.int IntKind.i64 i13), ((5 : Nat), Value.int IntKind.u32 i14),
                                         ((6 : Nat), Value.int IntKind.i64 i15)])] →
                                     R (Ending.returned (Value.tuple #[])) w23
                                   else Wr IntKind.i64 (i6 + (1 : Int)) fun (i25 : Int) => I4 i25 w23 ∧ I5 i25 w23 < I5 i6 w7)
          else R (Ending.returned (Value.tuple #[])) w7
theorem vcTryd133 (y : Value) (p1 p2 : Option Addr) (w : World) (R : Ending → World → Prop) : SX.vcFn Tryd.prog [(1, ⟨[(8, .int .i64)], [0, 2, 6, 7], []⟩)] Tryd.f133 [.v y, .v (.pointer p1), .v (.pointer p2)] [] w R = VCTryd133 y p1 p2 w R := by kernel_rfl
def VCTryd166 (s : ByteArray) (a f r z u m : Int) (t : ByteArray) (w : World) (R : Ending → World → Prop) : Prop :=
Known (w.alloc (Obj.cells #[Value.string s, Value.int IntKind.i64 a, Value.int IntKind.i64 f, Value.int IntKind.i64 r, Value.int IntKind.i64 z, Value.int IntKind.u32 u, Value.int IntKind.i64 m] (50 : Nat)))
  [(w.heap.size,
    [((0 : Nat), Value.string s), ((1 : Nat), Value.int IntKind.i64 a), ((2 : Nat), Value.int IntKind.i64 f), ((3 : Nat), Value.int IntKind.i64 r), ((4 : Nat), Value.int IntKind.i64 z),
     ((5 : Nat), Value.int IntKind.u32 u), ((6 : Nat), Value.int IntKind.i64 m)])] →
 Rets Tryd.prog (167 : Nat) #[Value.string s, Value.string t]
  (w.alloc (Obj.cells #[Value.string s, Value.int IntKind.i64 a, Value.int IntKind.i64 f, Value.int IntKind.i64 r, Value.int IntKind.i64 z, Value.int IntKind.u32 u, Value.int IntKind.i64 m] (50 : Nat)))
  fun (v0 : Value) (w1 : World) =>
  ∃ (i2 : Int),
   v0 = Value.int IntKind.i64 i2 ∧
    Keeps (w.alloc (Obj.cells #[Value.string s, Value.int IntKind.i64 a, Value.int IntKind.i64 f, Value.int IntKind.i64 r, Value.int IntKind.i64 z, Value.int IntKind.u32 u, Value.int IntKind.i64 m] (50 : Nat))) w1
      [w.heap.size] ∧
     (Known w1
       [(w.heap.size,
        [((0 : Nat), Value.string s), ((1 : Nat), Value.int IntKind.i64 a), ((2 : Nat), Value.int IntKind.i64 f), ((3 : Nat), Value.int IntKind.i64 r), ((4 : Nat), Value.int IntKind.i64 z),
         ((5 : Nat), Value.int IntKind.u32 u), ((6 : Nat), Value.int IntKind.i64 m)])] →
      R (Ending.returned (Value.int IntKind.i64 i2)) w1)
theorem vcTryd166 (s : ByteArray) (a f r z u m : Int) (t : ByteArray) (w : World) (R : Ending → World → Prop) : SX.vcFn Tryd.prog [] Tryd.f166 [.v (.agg #[.string s, .int .i64 a, .int .i64 f, .int .i64 r, .int .i64 z, .int .u32 u, .int .i64 m]), .v (.string t)] [] w R = VCTryd166 s a f r z u m t w R := by kernel_rfl
def VCTryd77 (p0 : Option Addr) (p1 : ByteArray) (w : World) (R : Ending → World → Prop) : Prop :=
Known (w.alloc (Obj.cells #[Value.slice none (0 : Nat) (0 : Nat)] (46 : Nat))) [(w.heap.size, [((0 : Nat), Value.slice none (0 : Nat) (0 : Nat))])] →
 Rets Tryd.prog (78 : Nat) #[Value.pointer p0, Value.string p1] (w.alloc (Obj.cells #[Value.slice none (0 : Nat) (0 : Nat)] (46 : Nat))) fun (v0 : Value) (w1 : World) =>
  ∃ (v2 : Value),
   v0 = v2 ∧
    Keeps (w.alloc (Obj.cells #[Value.slice none (0 : Nat) (0 : Nat)] (46 : Nat))) w1 [w.heap.size] ∧
     (Known w1 [(w.heap.size, [((0 : Nat), Value.slice none (0 : Nat) (0 : Nat))])] →
      ∀ (I3 : LoopState → Option Code → Obj),
       (∀ (x4 : LoopState) (q5 : Option Code), (I3 x4 q5).isCells = false) →
        (∀ (s6 : ByteArray) (i7 i8 i9 i10 i11 i12 : Int) (q13 : Option Addr) (n14 n15 : Nat) (w16 : World) (I17 : Value → World → Prop),
          w16.heap[w1.heap.size + (1 : Nat)]? = some (I3 LoopState.ready none) →
           Known w16 [(w.heap.size, [((0 : Nat), Value.slice q13 n14 n15)])] →
            (((((((((w16.alloc
                             (Obj.cells
                              #[Value.string { data := #[] }, Value.int IntKind.i64 (0 : Int), Value.int IntKind.i64 (0 : Int), Value.int IntKind.i64 (0 : Int),
                               Value.int IntKind.i64 (0 : Int), Value.int IntKind.u32 (0 : Int), Value.int IntKind.i64 (0 : Int)]
                              (50 : Nat))).setCell
                            {block := w16.heap.size, off := (0 : Nat) } (Value.string s6)).setCell
                           {block := w16.heap.size, off := (1 : Nat) } (Value.int IntKind.i64 i7)).setCell
                          {block := w16.heap.size, off := (2 : Nat) } (Value.int IntKind.i64 i8)).setCell
                        {block := w16.heap.size, off := (3 : Nat) } (Value.int IntKind.i64 i9)).setCell
                      {block := w16.heap.size, off := (4 : Nat) } (Value.int IntKind.i64 i10)).setCell
                    {block := w16.heap.size, off := (5 : Nat) } (Value.int IntKind.u32 i11)).setCell
                  {block := w16.heap.size, off := (6 : Nat) } (Value.int IntKind.i64 i12)).heap[w1.heap.size + (1 : Nat)]? =
               some (I3 LoopState.ready none) ∧
              Runs Tryd.prog
               (Builtin.append_ #[(46 : Nat), (46 : Nat)] (46 : Nat)
                #[Value.slice q13 n14 n15,
                 Value.slice
                  (some
                   {
                    block :=
                     (((((((((w16.alloc
                                   (Obj.cells
                                    #[Value.string { data := #[] }, Value.int IntKind.i64 (0 : Int), Value.int IntKind.i64 (0 : Int), Value.int IntKind.i64 (0 : Int),
                                     Value.int IntKind.i64 (0 : Int), Value.int IntKind.u32 (0 : Int), Value.int IntKind.i64 (0 : Int)]
                                    (50 : Nat))).setCell
                                  {block := w16.heap.size, off := (0 : Nat) } (Value.string s6)).setCell
                                 {block := w16.heap.size, off := (1 : Nat) } (Value.int IntKind.i64 i7)).setCell
                               {block := w16.heap.size, off := (2 : Nat) } (Value.int IntKind.i64 i8)).setCell
                             {block := w16.heap.size, off := (3 : Nat) } (Value.int IntKind.i64 i9)).setCell
                            {block := w16.heap.size, off := (4 : Nat) } (Value.int IntKind.i64 i10)).setCell
                           {block := w16.heap.size, off := (5 : Nat) } (Value.int IntKind.u32 i11)).setCell
                          {block := w16.heap.size, off := (6 : Nat) } (Value.int IntKind.i64 i12)).putObj
                        (w1.heap.size + (1 : Nat)) (I3 LoopState.busy none)).heap.size,
                    off := (0 : Nat) })
                  (1 : Nat) (1 : Nat)])
               ((((((((((w16.alloc
                               (Obj.cells
                                #[Value.string { data := #[] }, Value.int IntKind.i64 (0 : Int), Value.int IntKind.i64 (0 : Int), Value.int IntKind.i64 (0 : Int),
                                 Value.int IntKind.i64 (0 : Int), Value.int IntKind.u32 (0 : Int), Value.int IntKind.i64 (0 : Int)]
                                (50 : Nat))).setCell
                             {block := w16.heap.size, off := (0 : Nat) } (Value.string s6)).setCell
                            {block := w16.heap.size, off := (1 : Nat) } (Value.int IntKind.i64 i7)).setCell
                           {block := w16.heap.size, off := (2 : Nat) } (Value.int IntKind.i64 i8)).setCell
                          {block := w16.heap.size, off := (3 : Nat) } (Value.int IntKind.i64 i9)).setCell
                        {block := w16.heap.size, off := (4 : Nat) } (Value.int IntKind.i64 i10)).setCell
                      {block := w16.heap.size, off := (5 : Nat) } (Value.int IntKind.u32 i11)).setCell
                    {block := w16.heap.size, off := (6 : Nat) } (Value.int IntKind.i64 i12)).putObj
                  (w1.heap.size + (1 : Nat)) (I3 LoopState.busy none)).alloc
                (Obj.cells #[Value.string s6] (9 : Nat)))
               fun (v22 : Value) (w23 : World) =>
               ∃ (q24 : Option Addr),
                ∃ (n25 : Nat),
                 ∃ (n26 : Nat),
                  v22 = Value.slice q24 n25 n26 ∧
                   Keeps
                     ((((((((((w16.alloc
                                   (Obj.cells
                                    #[Value.string { data := #[] }, Value.int IntKind.i64 (0 : Int), Value.int IntKind.i64 (0 : Int), Value.int IntKind.i64 (0 : Int),
                                     Value.int IntKind.i64 (0 : Int), Value.int IntKind.u32 (0 : Int), Value.int IntKind.i64 (0 : Int)]
                                    (50 : Nat))).setCell
                                  {block := w16.heap.size, off := (0 : Nat) } (Value.string s6)).setCell
                                 {block := w16.heap.size, off := (1 : Nat) } (Value.int IntKind.i64 i7)).setCell
                               {block := w16.heap.size, off := (2 : Nat) } (Value.int IntKind.i64 i8)).setCell
                             {block := w16.heap.size, off := (3 : Nat) } (Value.int IntKind.i64 i9)).setCell
                            {block := w16.heap.size, off := (4 : Nat) } (Value.int IntKind.i64 i10)).setCell
                           {block := w16.heap.size, off := (5 : Nat) } (Value.int IntKind.u32 i11)).setCell
                          {block := w16.heap.size, off := (6 : Nat) } (Value.int IntKind.i64 i12)).putObj
                        (w1.heap.size + (1 : Nat)) (I3 LoopState.busy none)).alloc
                      (Obj.cells #[Value.string s6] (9 : Nat)))
                     w23 [w.heap.size, w16.heap.size] ∧
                    (Known (w23.setCell { block := w.heap.size, off := (0 : Nat) } (Value.slice q24 n25 n26))
                      [(w.heap.size, [((0 : Nat), Value.slice q24 n25 n26)]),
                       (w16.heap.size,
                        [((0 : Nat), Value.string s6), ((1 : Nat), Value.int IntKind.i64 i7), ((2 : Nat), Value.int IntKind.i64 i8), ((3 : Nat), Value.int IntKind.i64 i9),
                         ((4 : Nat), Value.int IntKind.i64 i10), ((5 : Nat), Value.int IntKind.u32 i11), ((6 : Nat), Value.int IntKind.i64 i12)])] →
                     (w23.setCell { block := w.heap.size, off := (0 : Nat) } (Value.slice q24 n25 n26)).heap[w1.heap.size + (1 : Nat)]? = some (I3 LoopState.busy none) ∧
                      I17 (Value.bool true) ((w23.setCell { block := w.heap.size, off := (0 : Nat) } (Value.slice q24 n25 n26)).putObj (w1.heap.size + (1 : Nat)) (I3 LoopState.ready none)))) →
             CallsVal Tryd.prog (Value.func (Fn.yield (w1.heap.size + (1 : Nat))) #[] #[])
              #[Value.agg #[Value.string s6, Value.int IntKind.i64 i7, Value.int IntKind.i64 i8, Value.int IntKind.i64 i9, Value.int IntKind.i64 i10, Value.int IntKind.u32 i11, Value.int IntKind.i64 i12]]
              w16 I17) →
         RangeVal Tryd.prog v2 (Value.func (Fn.yield (w1.heap.size + (1 : Nat))) #[] #[]) ((w1.alloc (Obj.deferred (some []))).alloc (I3 LoopState.ready none)) fun (w29 : World) =>
          ∃ (q30 : Option Addr),
           ∃ (n31 : Nat),
            ∃ (n32 : Nat),
             Known w29 [(w.heap.size, [((0 : Nat), Value.slice q30 n31 n32)])] ∧
              w29.heap[w1.heap.size + (1 : Nat)]? = some (I3 LoopState.ready none) ∧
               (Known (w29.putObj (w1.heap.size + (1 : Nat)) (I3 LoopState.exhausted none)) [(w.heap.size, [((0 : Nat), Value.slice q30 n31 n32)])] →
                (w29.putObj (w1.heap.size + (1 : Nat)) (I3 LoopState.exhausted none)).heap[w1.heap.size]? = some (Obj.deferred (some [])) ∧
                 R (Ending.returned (Value.slice q30 n31 n32)) ((w29.putObj (w1.heap.size + (1 : Nat)) (I3 LoopState.exhausted none)).putObj w1.heap.size (Obj.deferred none))))
theorem vcTryd77 (p0 : Option Addr) (p1 : ByteArray) (w : World) (R : Ending → World → Prop) : SX.vcFn Tryd.prog [(4, ⟨[(10, .row [.str, .int .i64, .int .i64, .int .i64, .int .i64, .int .u32, .int .i64])], [], [(0, 0, .slice)]⟩)] Tryd.f77 [.v (.pointer p0), .v (.string p1)] [] w R = VCTryd77 p0 p1 w R := by kernel_rfl
end Go.Proofs.YtbpknjldphckgaaDoor
