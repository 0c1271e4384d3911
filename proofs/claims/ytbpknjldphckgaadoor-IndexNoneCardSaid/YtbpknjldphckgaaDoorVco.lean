/- The conditions of functions, as the executor computes them: each is equal to what 'vcFn' says. -/
import Derived.Test.YtbpknjldphckgaaDoorSxLib
import Derived.Test.YtbpknjldphckgaaDoorProg
namespace Go.Proofs.YtbpknjldphckgaaDoor
open Go Go.SX Go.Proofs
set_option maxRecDepth 100000
set_option linter.unusedVariables false
def VCTryd211 (p0 : ByteArray) (p1 : ByteArray) (w : World) (R : Ending → World → Prop) : Prop :=
bif decide ((↑p0.size : Int) ≥ (↑p1.size : Int)) then
 ((0 : Int) ≤ (↑p1.size : Int) ∧ (↑p1.size : Int) ≤ (↑p0.size : Int)) ∧ R (Ending.returned (Value.bool ((p0.extract (0 : Nat) (↑p1.size : Int).toNat).toList == p1.toList))) w
else R (Ending.returned (Value.bool false)) w
theorem vcTryd211 (p0 : ByteArray) (p1 : ByteArray) (w : World) (R : Ending → World → Prop) : SX.vcFn Tryd.prog [] Tryd.f211 [.v (.string p0), .v (.string p1)] [] w R = VCTryd211 p0 p1 w R := by kernel_rfl
def VCTryd123 (w : World) (R : Ending → World → Prop) : Prop :=
Known
  ((((((((w.alloc
           (Obj.cells
            #[Value.string { data := #[] }, Value.int IntKind.i64 (0 : Int), Value.int IntKind.i64 (0 : Int), Value.int IntKind.i64 (0 : Int), Value.int IntKind.i64 (0 : Int),
             Value.int IntKind.u32 (0 : Int), Value.int IntKind.i64 (0 : Int)]
            (50 : Nat))).setCell
          {block := w.heap.size, off := (0 : Nat) } (Value.string { data := #[(97 : UInt8)] })).setCell
         {block := w.heap.size, off := (1 : Nat) } (Value.int IntKind.i64 (1024 : Int))).setCell
        {block := w.heap.size, off := (2 : Nat) } (Value.int IntKind.i64 (1047 : Int))).setCell
       {block := w.heap.size, off := (3 : Nat) } (Value.int IntKind.i64 (0 : Int))).setCell
      {block := w.heap.size, off := (4 : Nat) } (Value.int IntKind.i64 (0 : Int))).setCell
     {block := w.heap.size, off := (5 : Nat) } (Value.int IntKind.u32 (0 : Int))).setCell
   {block := w.heap.size, off := (6 : Nat) } (Value.int IntKind.i64 (0 : Int)))
  [(w.heap.size,
    [((0 : Nat), Value.string { data := #[(97 : UInt8)] }), ((1 : Nat), Value.int IntKind.i64 (1024 : Int)), ((2 : Nat), Value.int IntKind.i64 (1047 : Int)), ((3 : Nat), Value.int IntKind.i64 (0 : Int)),
     ((4 : Nat), Value.int IntKind.i64 (0 : Int)), ((5 : Nat), Value.int IntKind.u32 (0 : Int)), ((6 : Nat), Value.int IntKind.i64 (0 : Int))])] →
 R
  (Ending.returned
   (Value.agg
    #[Value.string { data := #[(97 : UInt8)] }, Value.int IntKind.i64 (1024 : Int), Value.int IntKind.i64 (1047 : Int), Value.int IntKind.i64 (0 : Int), Value.int IntKind.i64 (0 : Int),
     Value.int IntKind.u32 (0 : Int), Value.int IntKind.i64 (0 : Int)]))
  ((((((((w.alloc
           (Obj.cells
            #[Value.string { data := #[] }, Value.int IntKind.i64 (0 : Int), Value.int IntKind.i64 (0 : Int), Value.int IntKind.i64 (0 : Int), Value.int IntKind.i64 (0 : Int),
             Value.int IntKind.u32 (0 : Int), Value.int IntKind.i64 (0 : Int)]
            (50 : Nat))).setCell
          {block := w.heap.size, off := (0 : Nat) } (Value.string { data := #[(97 : UInt8)] })).setCell
         {block := w.heap.size, off := (1 : Nat) } (Value.int IntKind.i64 (1024 : Int))).setCell
        {block := w.heap.size, off := (2 : Nat) } (Value.int IntKind.i64 (1047 : Int))).setCell
       {block := w.heap.size, off := (3 : Nat) } (Value.int IntKind.i64 (0 : Int))).setCell
      {block := w.heap.size, off := (4 : Nat) } (Value.int IntKind.i64 (0 : Int))).setCell
     {block := w.heap.size, off := (5 : Nat) } (Value.int IntKind.u32 (0 : Int))).setCell
   {block := w.heap.size, off := (6 : Nat) } (Value.int IntKind.i64 (0 : Int)))
theorem vcTryd123 (w : World) (R : Ending → World → Prop) : SX.vcFn Tryd.prog [] Tryd.f123 [] [] w R = VCTryd123  w R := by kernel_rfl
end Go.Proofs.YtbpknjldphckgaaDoor
