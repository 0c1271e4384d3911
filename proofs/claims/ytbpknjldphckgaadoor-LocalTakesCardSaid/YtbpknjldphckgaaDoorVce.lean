/- The conditions of functions, as the executor computes them: each is equal to what 'vcFn' says. -/
import Derived.Test.YtbpknjldphckgaaDoorSxLib
import Derived.Test.YtbpknjldphckgaaDoorProg
namespace Go.Proofs.YtbpknjldphckgaaDoor
open Go Go.SX Go.Proofs
set_option maxRecDepth 100000
set_option linter.unusedVariables false
def VCTryd55 (p0 : Option Addr) (n0 c0 : Nat) (p1 : Int) (w : World) (R : Ending → World → Prop) : Prop :=
bif decide (p1 < (0 : Int)) then
 Known
 ((((((w.alloc (Obj.cells #[Value.int IntKind.i64 (0 : Int), Value.string { data := #[] }, Value.int IntKind.i64 (0 : Int), Value.int IntKind.i64 (0 : Int), Value.int IntKind.u32 (0 : Int)] (57 : Nat))).setCell
 {block := w.heap.size, off := (0 : Nat) } (Value.int IntKind.i64 (0 : Int))).setCell
 {block := w.heap.size, off := (1 : Nat) } (Value.string { data := #[] })).setCell
 {block := w.heap.size, off := (2 : Nat) } (Value.int IntKind.i64 (0 : Int))).setCell
 {block := w.heap.size, off := (3 : Nat) } (Value.int IntKind.i64 (0 : Int))).setCell
 {block := w.heap.size, off := (4 : Nat) } (Value.int IntKind.u32 (0 : Int)))
 [(w.heap.size,
 [((0 : Nat), Value.int IntKind.i64 (0 : Int)), ((1 : Nat), Value.string { data := #[] }), ((2 : Nat), Value.int IntKind.i64 (0 : Int)), ((3 : Nat), Value.int IntKind.i64 (0 : Int)),
 ((4 : Nat), Value.int IntKind.u32 (0 : Int))])] →
 R
 (Ending.returned
 (Value.tuple
 #[Value.agg #[Value.int IntKind.i64 (0 : Int), Value.string { data := #[] }, Value.int IntKind.i64 (0 : Int), Value.int IntKind.i64 (0 : Int), Value.int IntKind.u32 (0 : Int)], Value.int IntKind.i64 (0 : Int),
 Value.int IntKind.i64 (1 : Int)]))
 ((((((w.alloc (Obj.cells #[Value.int IntKind.i64 (0 : Int), Value.string { data := #[] }, Value.int IntKind.i64 (0 : Int), Value.int IntKind.i64 (0 : Int), Value.int IntKind.u32 (0 : Int)] (57 : Nat))).setCell
 {block := w.heap.size, off := (0 : Nat) } (Value.int IntKind.i64 (0 : Int))).setCell
 {block := w.heap.size, off := (1 : Nat) } (Value.string { data := #[] })).setCell
 {block := w.heap.size, off := (2 : Nat) } (Value.int IntKind.i64 (0 : Int))).setCell
 {block := w.heap.size, off := (3 : Nat) } (Value.int IntKind.i64 (0 : Int))).setCell
 {block := w.heap.size, off := (4 : Nat) } (Value.int IntKind.u32 (0 : Int)))
else
 bif decide (p1 > (↑n0 : Int)) then
 Known
 ((((((w.alloc (Obj.cells #[Value.int IntKind.i64 (0 : Int), Value.string { data := #[] }, Value.int IntKind.i64 (0 : Int), Value.int IntKind.i64 (0 : Int), Value.int IntKind.u32 (0 : Int)] (57 : Nat))).setCell
 {block := w.heap.size, off := (0 : Nat) } (Value.int IntKind.i64 (0 : Int))).setCell
 {block := w.heap.size, off := (1 : Nat) } (Value.string { data := #[] })).setCell
 {block := w.heap.size, off := (2 : Nat) } (Value.int IntKind.i64 (0 : Int))).setCell
 {block := w.heap.size, off := (3 : Nat) } (Value.int IntKind.i64 (0 : Int))).setCell
 {block := w.heap.size, off := (4 : Nat) } (Value.int IntKind.u32 (0 : Int)))
 [(w.heap.size,
 [((0 : Nat), Value.int IntKind.i64 (0 : Int)), ((1 : Nat), Value.string { data := #[] }), ((2 : Nat), Value.int IntKind.i64 (0 : Int)), ((3 : Nat), Value.int IntKind.i64 (0 : Int)),
 ((4 : Nat), Value.int IntKind.u32 (0 : Int))])] →
 R
 (Ending.returned
 (Value.tuple
 #[Value.agg #[Value.int IntKind.i64 (0 : Int), Value.string { data := #[] }, Value.int IntKind.i64 (0 : Int), Value.int IntKind.i64 (0 : Int), Value.int IntKind.u32 (0 : Int)],
 Value.int IntKind.i64 (0 : Int), Value.int IntKind.i64 (1 : Int)]))
 ((((((w.alloc (Obj.cells #[Value.int IntKind.i64 (0 : Int), Value.string { data := #[] }, Value.int IntKind.i64 (0 : Int), Value.int IntKind.i64 (0 : Int), Value.int IntKind.u32 (0 : Int)] (57 : Nat))).setCell
 {block := w.heap.size, off := (0 : Nat) } (Value.int IntKind.i64 (0 : Int))).setCell
 {block := w.heap.size, off := (1 : Nat) } (Value.string { data := #[] })).setCell
 {block := w.heap.size, off := (2 : Nat) } (Value.int IntKind.i64 (0 : Int))).setCell
 {block := w.heap.size, off := (3 : Nat) } (Value.int IntKind.i64 (0 : Int))).setCell
 {block := w.heap.size, off := (4 : Nat) } (Value.int IntKind.u32 (0 : Int)))
 else
 ((0 : Int) ≤ p1 ∧ p1 ≤ (↑n0 : Int)) ∧
 bif decide ((↑(n0 - p1.toNat) : Int) ≥ (4 : Int)) then
 ((0 : Int) ≤ (4 : Int) ∧ (4 : Int) ≤ (↑(c0 - p1.toNat) : Int)) ∧
 ∃ (s0 : ByteArray),
 s0.size = (4 : Nat) ∧
 BytesAt (w.alloc (Obj.cells #[Value.int IntKind.i64 (0 : Int), Value.string { data := #[] }, Value.int IntKind.i64 (0 : Int), Value.int IntKind.i64 (0 : Int), Value.int IntKind.u32 (0 : Int)] (57 : Nat)))
 (cutA (cutA p0 c0 p1.toNat (1 : Nat)) (c0 - p1.toNat) (0 : Nat) (1 : Nat)) s0 ∧
 bif !s0.toList == ({ data := #[(76 : UInt8), (77 : UInt8), (66 : UInt8), (82 : UInt8)] } : ByteArray).toList then
 Known
 ((((((w.alloc
 (Obj.cells #[Value.int IntKind.i64 (0 : Int), Value.string { data := #[] }, Value.int IntKind.i64 (0 : Int), Value.int IntKind.i64 (0 : Int), Value.int IntKind.u32 (0 : Int)]
 (57 : Nat))).setCell
 {block := w.heap.size, off := (0 : Nat) } (Value.int IntKind.i64 (0 : Int))).setCell
 {block := w.heap.size, off := (1 : Nat) } (Value.string { data := #[] })).setCell
 {block := w.heap.size, off := (2 : Nat) } (Value.int IntKind.i64 (0 : Int))).setCell
 {block := w.heap.size, off := (3 : Nat) } (Value.int IntKind.i64 (0 : Int))).setCell
 {block := w.heap.size, off := (4 : Nat) } (Value.int IntKind.u32 (0 : Int)))
 [(w.heap.size,
 [((0 : Nat), Value.int IntKind.i64 (0 : Int)), ((1 : Nat), Value.string { data := #[] }), ((2 : Nat), Value.int IntKind.i64 (0 : Int)), ((3 : Nat), Value.int IntKind.i64 (0 : Int)),
 ((4 : Nat), Value.int IntKind.u32 (0 : Int))])] →
 R
 (Ending.returned
 (Value.tuple
 #[Value.agg #[Value.int IntKind.i64 (0 : Int), Value.string { data := #[] }, Value.int IntKind.i64 (0 : Int), Value.int IntKind.i64 (0 : Int), Value.int IntKind.u32 (0 : Int)],
 Value.int IntKind.i64 (0 : Int), Value.int IntKind.i64 (3 : Int)]))
 ((((((w.alloc
 (Obj.cells #[Value.int IntKind.i64 (0 : Int), Value.string { data := #[] }, Value.int IntKind.i64 (0 : Int), Value.int IntKind.i64 (0 : Int), Value.int IntKind.u32 (0 : Int)]
 (57 : Nat))).setCell
 {block := w.heap.size, off := (0 : Nat) } (Value.int IntKind.i64 (0 : Int))).setCell
 {block := w.heap.size, off := (1 : Nat) } (Value.string { data := #[] })).setCell
 {block := w.heap.size, off := (2 : Nat) } (Value.int IntKind.i64 (0 : Int))).setCell
 {block := w.heap.size, off := (3 : Nat) } (Value.int IntKind.i64 (0 : Int))).setCell
 {block := w.heap.size, off := (4 : Nat) } (Value.int IntKind.u32 (0 : Int)))
 else
 bif decide ((↑(n0 - p1.toNat) : Int) < (18 : Int)) then
 Known
 ((((((w.alloc
 (Obj.cells #[Value.int IntKind.i64 (0 : Int), Value.string { data := #[] }, Value.int IntKind.i64 (0 : Int), Value.int IntKind.i64 (0 : Int), Value.int IntKind.u32 (0 : Int)]
 (57 : Nat))).setCell
 {block := w.heap.size, off := (0 : Nat) } (Value.int IntKind.i64 (0 : Int))).setCell
 {block := w.heap.size, off := (1 : Nat) } (Value.string { data := #[] })).setCell
 {block := w.heap.size, off := (2 : Nat) } (Value.int IntKind.i64 (0 : Int))).setCell
 {block := w.heap.size, off := (3 : Nat) } (Value.int IntKind.i64 (0 : Int))).setCell
 {block := w.heap.size, off := (4 : Nat) } (Value.int IntKind.u32 (0 : Int)))
 [(w.heap.size,
 [((0 : Nat), Value.int IntKind.i64 (0 : Int)), ((1 : Nat), Value.string { data := #[] }), ((2 : Nat), Value.int IntKind.i64 (0 : Int)), ((3 : Nat), Value.int IntKind.i64 (0 : Int)),
 ((4 : Nat), Value.int IntKind.u32 (0 : Int))])] →
 R
 (Ending.returned
 (Value.tuple
 #[Value.agg #[Value.int IntKind.i64 (0 : Int), Value.string { data := #[] }, Value.int IntKind.i64 (0 : Int), Value.int IntKind.i64 (0 : Int), Value.int IntKind.u32 (0 : Int)],
 Value.int IntKind.i64 (0 : Int), Value.int IntKind.i64 (2 : Int)]))
 ((((((w.alloc
 (Obj.cells #[Value.int IntKind.i64 (0 : Int), Value.string { data := #[] }, Value.int IntKind.i64 (0 : Int), Value.int IntKind.i64 (0 : Int), Value.int IntKind.u32 (0 : Int)]
 (57 : Nat))).setCell
 {block := w.heap.size, off := (0 : Nat) } (Value.int IntKind.i64 (0 : Int))).setCell
 {block := w.heap.size, off := (1 : Nat) } (Value.string { data := #[] })).setCell
 {block := w.heap.size, off := (2 : Nat) } (Value.int IntKind.i64 (0 : Int))).setCell
 {block := w.heap.size, off := (3 : Nat) } (Value.int IntKind.i64 (0 : Int))).setCell
 {block := w.heap.size, off := (4 : Nat) } (Value.int IntKind.u32 (0 : Int)))
 else
 ((0 : Int) ≤ (5 : Int) ∧ (5 : Int) < (↑(n0 - p1.toNat) : Int)) ∧
 SX.Ptr (cutA p0 c0 p1.toNat (1 : Nat)) fun (a1 : Addr) =>
 ∃ (i2 : Int),
 (w.alloc
 (Obj.cells #[Value.int IntKind.i64 (0 : Int), Value.string { data := #[] }, Value.int IntKind.i64 (0 : Int), Value.int IntKind.i64 (0 : Int), Value.int IntKind.u32 (0 : Int)]
 (57 : Nat))).cell?
 (a1.add (5 : Nat)) =
 some (Value.int IntKind.u8 i2) ∧
 Wr IntKind.i64 i2 fun (i3 : Int) =>
 Wr IntKind.i64 ((22 : Int) + i3) fun (i4 : Int) =>
 bif decide ((↑(n0 - p1.toNat) : Int) < i4) then
 Known
 ((((((w.alloc
 (Obj.cells
 #[Value.int IntKind.i64 (0 : Int), Value.string { data := #[] }, Value.int IntKind.i64 (0 : Int), Value.int IntKind.i64 (0 : Int),
 Value.int IntKind.u32 (0 : Int)]
 (57 : Nat))).setCell
 {block := w.heap.size, off := (0 : Nat) } (Value.int IntKind.i64 (0 : Int))).setCell
 {block := w.heap.size, off := (1 : Nat) } (Value.string { data := #[] })).setCell
 {block := w.heap.size, off := (2 : Nat) } (Value.int IntKind.i64 (0 : Int))).setCell
 {block := w.heap.size, off := (3 : Nat) } (Value.int IntKind.i64 (0 : Int))).setCell
 {block := w.heap.size, off := (4 : Nat) } (Value.int IntKind.u32 (0 : Int)))
 [(w.heap.size,
 [((0 : Nat), Value.int IntKind.i64 (0 : Int)), ((1 : Nat), Value.string { data := #[] }), ((2 : Nat), Value.int IntKind.i64 (0 : Int)),
 ((3 : Nat), Value.int IntKind.i64 (0 : Int)), ((4 : Nat), Value.int IntKind.u32 (0 : Int))])] →
 R
 (Ending.returned
 (Value.tuple
 #[Value.agg #[Value.int IntKind.i64 (0 : Int), Value.string { data := #[] }, Value.int IntKind.i64 (0 : Int), Value.int IntKind.i64 (0 : Int), Value.int IntKind.u32 (0 : Int)],
 Value.int IntKind.i64 (0 : Int), Value.int IntKind.i64 (2 : Int)]))
 ((((((w.alloc
 (Obj.cells
 #[Value.int IntKind.i64 (0 : Int), Value.string { data := #[] }, Value.int IntKind.i64 (0 : Int), Value.int IntKind.i64 (0 : Int),
 Value.int IntKind.u32 (0 : Int)]
 (57 : Nat))).setCell
 {block := w.heap.size, off := (0 : Nat) } (Value.int IntKind.i64 (0 : Int))).setCell
 {block := w.heap.size, off := (1 : Nat) } (Value.string { data := #[] })).setCell
 {block := w.heap.size, off := (2 : Nat) } (Value.int IntKind.i64 (0 : Int))).setCell
 {block := w.heap.size, off := (3 : Nat) } (Value.int IntKind.i64 (0 : Int))).setCell
 {block := w.heap.size, off := (4 : Nat) } (Value.int IntKind.u32 (0 : Int)))
 else
 ((0 : Int) ≤ (5 : Int) ∧ (5 : Int) < (↑(n0 - p1.toNat) : Int)) ∧
 SX.Ptr (cutA p0 c0 p1.toNat (1 : Nat)) fun (a5 : Addr) =>
 ∃ (i6 : Int),
 (w.alloc
 (Obj.cells
 #[Value.int IntKind.i64 (0 : Int), Value.string { data := #[] }, Value.int IntKind.i64 (0 : Int), Value.int IntKind.i64 (0 : Int), Value.int IntKind.u32 (0 : Int)]
 (57 : Nat))).cell?
 (a5.add (5 : Nat)) =
 some (Value.int IntKind.u8 i6) ∧
 Wr IntKind.i64 i6 fun (i7 : Int) =>
 Wr IntKind.i64 ((18 : Int) + i7) fun (i8 : Int) =>
 ((0 : Int) ≤ i8 ∧ i8 ≤ (↑(c0 - p1.toNat) : Int)) ∧
 (Known
 (w.alloc
 (Obj.cells
 #[Value.int IntKind.i64 (0 : Int), Value.string { data := #[] }, Value.int IntKind.i64 (0 : Int), Value.int IntKind.i64 (0 : Int),
 Value.int IntKind.u32 (0 : Int)]
 (57 : Nat))).drew
 [(w.heap.size,
 [((0 : Nat), Value.int IntKind.i64 (0 : Int)), ((1 : Nat), Value.string { data := #[] }), ((2 : Nat), Value.int IntKind.i64 (0 : Int)),
 ((3 : Nat), Value.int IntKind.i64 (0 : Int)), ((4 : Nat), Value.int IntKind.u32 (0 : Int))])] →
 Rets Tryd.prog (114 : Nat) #[Value.slice (cutA p0 c0 p1.toNat (1 : Nat)) (n0 - p1.toNat) (c0 - p1.toNat), Value.int IntKind.i64 i8, Value.int IntKind.i64 (4 : Int)]
 (w.alloc
 (Obj.cells
 #[Value.int IntKind.i64 (0 : Int), Value.string { data := #[] }, Value.int IntKind.i64 (0 : Int), Value.int IntKind.i64 (0 : Int),
 Value.int IntKind.u32 (0 : Int)]
 (57 : Nat))).drew
 fun (v9 : Value) (w10 : World) =>
 ∃ (i11 : Int),
 v9 = Value.int IntKind.i64 i11 ∧
 Keeps
 (w.alloc
 (Obj.cells
 #[Value.int IntKind.i64 (0 : Int), Value.string { data := #[] }, Value.int IntKind.i64 (0 : Int), Value.int IntKind.i64 (0 : Int),
 Value.int IntKind.u32 (0 : Int)]
 (57 : Nat))).drew
 w10 [w.heap.size] ∧
 (Known w10
 [(w.heap.size,
 [((0 : Nat), Value.int IntKind.i64 (0 : Int)), ((1 : Nat), Value.string { data := #[] }), ((2 : Nat), Value.int IntKind.i64 (0 : Int)),
 ((3 : Nat), Value.int IntKind.i64 (0 : Int)), ((4 : Nat), Value.int IntKind.u32 (0 : Int))])] →
 Rets Tryd.prog (115 : Nat)
 #[Value.slice (cutA (cutA p0 c0 p1.toNat (1 : Nat)) (c0 - p1.toNat) (0 : Nat) (1 : Nat)) (i8.toNat - (0 : Nat)) (c0 - p1.toNat - (0 : Nat))] w10
 fun (v12 : Value) (w13 : World) =>
 ∃ (i14 : Int),
 v12 = Value.int IntKind.u32 i14 ∧
 Keeps w10 w13 [w.heap.size] ∧
 Wr IntKind.i64 i14 fun (i15 : Int) =>
 bif i11 != i15 then
 Known
 (((((w13.setCell { block := w.heap.size, off := (0 : Nat) } (Value.int IntKind.i64 (0 : Int))).setCell
 {block := w.heap.size, off := (1 : Nat) } (Value.string { data := #[] })).setCell
 {block := w.heap.size, off := (2 : Nat) } (Value.int IntKind.i64 (0 : Int))).setCell
 {block := w.heap.size, off := (3 : Nat) } (Value.int IntKind.i64 (0 : Int))).setCell
 {block := w.heap.size, off := (4 : Nat) } (Value.int IntKind.u32 (0 : Int)))
 [(w.heap.size,
 [((0 : Nat), Value.int IntKind.i64 (0 : Int)), ((1 : Nat), Value.string { data := #[] }), ((2 : Nat), Value.int IntKind.i64 (0 : Int)),
 ((3 : Nat), Value.int IntKind.i64 (0 : Int)), ((4 : Nat), Value.int IntKind.u32 (0 : Int))])] →
 R
 (Ending.returned
 (Value.tuple
 #[Value.agg
 #[Value.int IntKind.i64 (0 : Int), Value.string { data := #[] }, Value.int IntKind.i64 (0 : Int), Value.int IntKind.i64 (0 : Int),
 Value.int IntKind.u32 (0 : Int)],
 Value.int IntKind.i64 (0 : Int), Value.int IntKind.i64 (4 : Int)]))
 (((((w13.setCell { block := w.heap.size, off := (0 : Nat) } (Value.int IntKind.i64 (0 : Int))).setCell
 {block := w.heap.size, off := (1 : Nat) } (Value.string { data := #[] })).setCell
 {block := w.heap.size, off := (2 : Nat) } (Value.int IntKind.i64 (0 : Int))).setCell
 {block := w.heap.size, off := (3 : Nat) } (Value.int IntKind.i64 (0 : Int))).setCell
 {block := w.heap.size, off := (4 : Nat) } (Value.int IntKind.u32 (0 : Int)))
 else
 ((0 : Int) ≤ (4 : Int) ∧ (4 : Int) < (↑(n0 - p1.toNat) : Int)) ∧
 SX.Ptr (cutA p0 c0 p1.toNat (1 : Nat)) fun (a16 : Addr) =>
 ∃ (i17 : Int),
 w13.drew.cell? (a16.add (4 : Nat)) = some (Value.int IntKind.u8 i17) ∧
 Wr IntKind.i64 i17 fun (i18 : Int) =>
 ((0 : Int) ≤ i8 ∧ i8 ≤ (↑(c0 - p1.toNat) : Int)) ∧
 ((0 : Int) ≤ (18 : Int) ∧ (18 : Int) ≤ (↑i8.toNat : Int)) ∧
 ∃ (s19 : ByteArray),
 s19.size = i8.toNat - (18 : Nat) ∧
 BytesAt w13.drew (cutA (cutA p0 c0 p1.toNat (1 : Nat)) (c0 - p1.toNat) (18 : Nat) (1 : Nat)) s19 ∧
 (Known w13.drew
 [(w.heap.size,
 [((0 : Nat), Value.int IntKind.i64 (0 : Int)), ((1 : Nat), Value.string { data := #[] }),
 ((2 : Nat), Value.int IntKind.i64 (0 : Int)), ((3 : Nat), Value.int IntKind.i64 (0 : Int)),
 ((4 : Nat), Value.int IntKind.u32 (0 : Int))])] →
 Rets Tryd.prog (114 : Nat)
 #[Value.slice (cutA p0 c0 p1.toNat (1 : Nat)) (n0 - p1.toNat) (c0 - p1.toNat), Value.int IntKind.i64 (6 : Int),
 Value.int IntKind.i64 (4 : Int)]
 w13.drew fun (v20 : Value) (w21 : World) =>
 ∃ (i22 : Int),
 v20 = Value.int IntKind.i64 i22 ∧
 Keeps w13.drew w21 [w.heap.size] ∧
 BytesAt w21 (cutA (cutA p0 c0 p1.toNat (1 : Nat)) (c0 - p1.toNat) (18 : Nat) (1 : Nat)) s19 ∧
 w21.cell? (a16.add (4 : Nat)) = some (Value.int IntKind.u8 i17) ∧
 (Known w21
 [(w.heap.size,
 [((0 : Nat), Value.int IntKind.i64 (0 : Int)), ((1 : Nat), Value.string { data := #[] }),
 ((2 : Nat), Value.int IntKind.i64 (0 : Int)), ((3 : Nat), Value.int IntKind.i64 (0 : Int)),
 ((4 : Nat), Value.int IntKind.u32 (0 : Int))])] →
 Rets Tryd.prog (114 : Nat)
 #[Value.slice (cutA p0 c0 p1.toNat (1 : Nat)) (n0 - p1.toNat) (c0 - p1.toNat),
 Value.int IntKind.i64 (10 : Int), Value.int IntKind.i64 (4 : Int)]
 w21 fun (v23 : Value) (w24 : World) =>
 ∃ (i25 : Int),
 v23 = Value.int IntKind.i64 i25 ∧
 Keeps w21 w24 [w.heap.size] ∧
 BytesAt w24 (cutA (cutA p0 c0 p1.toNat (1 : Nat)) (c0 - p1.toNat) (18 : Nat) (1 : Nat)) s19 ∧
 w24.cell? (a16.add (4 : Nat)) = some (Value.int IntKind.u8 i17) ∧
 (Known w24
 [(w.heap.size,
 [((0 : Nat), Value.int IntKind.i64 (0 : Int)),
 ((1 : Nat), Value.string { data := #[] }),
 ((2 : Nat), Value.int IntKind.i64 (0 : Int)),
 ((3 : Nat), Value.int IntKind.i64 (0 : Int)),
 ((4 : Nat), Value.int IntKind.u32 (0 : Int))])] →
 Rets Tryd.prog (114 : Nat)
 #[Value.slice (cutA p0 c0 p1.toNat (1 : Nat)) (n0 - p1.toNat) (c0 - p1.toNat),
 Value.int IntKind.i64 (14 : Int), Value.int IntKind.i64 (4 : Int)]
 w24 fun (v26 : Value) (w27 : World) =>
 ∃ (i28 : Int),
 v26 = Value.int IntKind.i64 i28 ∧
 Keeps w24 w27 [w.heap.size] ∧
 BytesAt w27
 (cutA (cutA p0 c0 p1.toNat (1 : Nat)) (c0 - p1.toNat) (18 : Nat) (1 : Nat))
 s19 ∧
 w27.cell? (a16.add (4 : Nat)) = some (Value.int IntKind.u8 i17) ∧
 Wr IntKind.u32 i28 fun (i29 : Int) =>
 BytesAt
 (w27.alloc
 (Obj.cells
 #[Value.int IntKind.i64 (0 : Int), Value.string { data := #[] },
 Value.int IntKind.i64 (0 : Int), Value.int IntKind.i64 (0 : Int),
 Value.int IntKind.u32 (0 : Int)]
 (57 : Nat)))
 (cutA (cutA p0 c0 p1.toNat (1 : Nat)) (c0 - p1.toNat) (18 : Nat)
 (1 : Nat))
 s19 ∧
 (w27.alloc
 (Obj.cells
 #[Value.int IntKind.i64 (0 : Int), Value.string { data := #[] },
 Value.int IntKind.i64 (0 : Int),
 Value.int IntKind.i64 (0 : Int),
 Value.int IntKind.u32 (0 : Int)]
 (57 : Nat))).cell?
 (a16.add (4 : Nat)) =
 some (Value.int IntKind.u8 i17) ∧
 (Known
 ((((((w27.alloc
 (Obj.cells
 #[Value.int IntKind.i64 (0 : Int),
 Value.string { data := #[] },
 Value.int IntKind.i64 (0 : Int),
 Value.int IntKind.i64 (0 : Int),
 Value.int IntKind.u32 (0 : Int)]
 (57 : Nat))).setCell
 {block := w27.heap.size, off := (0 : Nat) }
 (Value.int IntKind.i64 i18)).setCell
 {block := w27.heap.size, off := (1 : Nat) }
 (Value.string s19)).setCell
 {block := w27.heap.size, off := (2 : Nat) }
 (Value.int IntKind.i64 i22)).setCell
 {block := w27.heap.size, off := (3 : Nat) }
 (Value.int IntKind.i64 i25)).setCell
 {block := w27.heap.size, off := (4 : Nat) }
 (Value.int IntKind.u32 i29))
 [(w.heap.size,
 [((0 : Nat), Value.int IntKind.i64 (0 : Int)),
 ((1 : Nat), Value.string { data := #[] }),
 ((2 : Nat), Value.int IntKind.i64 (0 : Int)),
 ((3 : Nat), Value.int IntKind.i64 (0 : Int)),
 ((4 : Nat), Value.int IntKind.u32 (0 : Int))]),
 (w27.heap.size,
 [((0 : Nat), Value.int IntKind.i64 i18),
 ((1 : Nat), Value.string s19),
 ((2 : Nat), Value.int IntKind.i64 i22),
 ((3 : Nat), Value.int IntKind.i64 i25),
 ((4 : Nat), Value.int IntKind.u32 i29)])] →
 Rets Tryd.prog (50 : Nat)
 #[Value.agg
 #[Value.int IntKind.i64 i18, Value.string s19,
 Value.int IntKind.i64 i22, Value.int IntKind.i64 i25,
 Value.int IntKind.u32 i29]]
 ((((((w27.alloc
 (Obj.cells
 #[Value.int IntKind.i64 (0 : Int),
 Value.string { data := #[] },
 Value.int IntKind.i64 (0 : Int),
 Value.int IntKind.i64 (0 : Int),
 Value.int IntKind.u32 (0 : Int)]
 (57 : Nat))).setCell
 {block := w27.heap.size, off := (0 : Nat) }
 (Value.int IntKind.i64 i18)).setCell
 {block := w27.heap.size, off := (1 : Nat) }
 (Value.string s19)).setCell
 {block := w27.heap.size, off := (2 : Nat) }
 (Value.int IntKind.i64 i22)).setCell
 {block := w27.heap.size, off := (3 : Nat) }
 (Value.int IntKind.i64 i25)).setCell
 {block := w27.heap.size, off := (4 : Nat) }
 (Value.int IntKind.u32 i29))
 fun (v30 : Value) (w31 : World) =>
 ∃ (t32 : Bool),
 v30 = Value.bool t32 ∧
 Keeps
 ((((((w27.alloc
 (Obj.cells
 #[Value.int IntKind.i64 (0 : Int),
 Value.string { data := #[] },
 Value.int IntKind.i64 (0 : Int),
 Value.int IntKind.i64 (0 : Int),
 Value.int IntKind.u32 (0 : Int)]
 (57 : Nat))).setCell
 {block := w27.heap.size, off := (0 : Nat) }
 (Value.int IntKind.i64 i18)).setCell
 {block := w27.heap.size, off := (1 : Nat) }
 (Value.string s19)).setCell
 {block := w27.heap.size, off := (2 : Nat) }
 (Value.int IntKind.i64 i22)).setCell
 {block := w27.heap.size, off := (3 : Nat) }
 (Value.int IntKind.i64 i25)).setCell
 {block := w27.heap.size, off := (4 : Nat) }
 (Value.int IntKind.u32 i29))
 w31 [w.heap.size, w27.heap.size] ∧
 bif !t32 then
 Known
 (((((w31.setCell
 {block := w.heap.size, off := (0 : Nat) }
 (Value.int IntKind.i64
 (0 : Int))).setCell
 {block := w.heap.size, off := (1 : Nat) }
 (Value.string { data := #[] })).setCell
 {block := w.heap.size, off := (2 : Nat) }
 (Value.int IntKind.i64 (0 : Int))).setCell
 {block := w.heap.size, off := (3 : Nat) }
 (Value.int IntKind.i64 (0 : Int))).setCell
 {block := w.heap.size, off := (4 : Nat) }
 (Value.int IntKind.u32 (0 : Int)))
 [(w.heap.size,
 [((0 : Nat), Value.int IntKind.i64 (0 : Int)),
 ((1 : Nat), Value.string { data := #[] }),
 ((2 : Nat), Value.int IntKind.i64 (0 : Int)),
 ((3 : Nat), Value.int IntKind.i64 (0 : Int)),
 ((4 : Nat), Value.int IntKind.u32 (0 : Int))]),
 (w27.heap.size,
 [((0 : Nat), Value.int IntKind.i64 i18),
 ((1 : Nat), Value.string s19),
 ((2 : Nat), Value.int IntKind.i64 i22),
 ((3 : Nat), Value.int IntKind.i64 i25),
 ((4 : Nat), Value.int IntKind.u32 i29)])] →
 R
 (Ending.returned
 (Value.tuple
 #[Value.agg
 #[Value.int IntKind.i64 (0 : Int),
 Value.string { data := #[] },
 Value.int IntKind.i64 (0 : Int),
 Value.int IntKind.i64 (0 : Int),
 Value.int IntKind.u32 (0 : Int)],
 Value.int IntKind.i64 (0 : Int),
 Value.int IntKind.i64 (3 : Int)]))
 (((((w31.setCell
 {block := w.heap.size, off := (0 : Nat) }
 (Value.int IntKind.i64
 (0 : Int))).setCell
 {block := w.heap.size, off := (1 : Nat) }
 (Value.string { data := #[] })).setCell
 {block := w.heap.size, off := (2 : Nat) }
 (Value.int IntKind.i64 (0 : Int))).setCell
 {block := w.heap.size, off := (3 : Nat) }
 (Value.int IntKind.i64 (0 : Int))).setCell
 {block := w.heap.size, off := (4 : Nat) }
 (Value.int IntKind.u32 (0 : Int)))
 else
 Wr IntKind.i64 (p1 + i8) fun (i33 : Int) =>
 Wr IntKind.i64 (i33 + (4 : Int)) fun (i34 : Int) =>
 Known
 (((((w31.setCell
 {block := w.heap.size, off := (0 : Nat) }
 (Value.int IntKind.i64 i18)).setCell
 {block := w.heap.size, off := (1 : Nat) }
 (Value.string s19)).setCell
 {block := w.heap.size, off := (2 : Nat) }
 (Value.int IntKind.i64 i22)).setCell
 {block := w.heap.size, off := (3 : Nat) }
 (Value.int IntKind.i64 i25)).setCell
 {block := w.heap.size, off := (4 : Nat) }
 (Value.int IntKind.u32 i29))
 [(w.heap.size,
 [((0 : Nat), Value.int IntKind.i64 i18),
 ((1 : Nat), Value.string s19),
 ((2 : Nat), Value.int IntKind.i64 i22),
 ((3 : Nat), Value.int IntKind.i64 i25),
 ((4 : Nat), Value.int IntKind.u32 i29)]),
 (w27.heap.size,
 [((0 : Nat), Value.int IntKind.i64 i18),
 ((1 : Nat), Value.string s19),
 ((2 : Nat), Value.int IntKind.i64 i22),
 ((3 : Nat), Value.int IntKind.i64 i25),
 ((4 : Nat), Value.int IntKind.u32 i29)])] →
 R
 (Ending.returned
 (Value.tuple
 #[Value.agg
 #[Value.int IntKind.i64 i18, Value.string s19,
 Value.int IntKind.i64 i22,
 Value.int IntKind.i64 i25,
 Value.int IntKind.u32 i29],
 Value.int IntKind.i64 i34,
 Value.int IntKind.i64 (0 : Int)]))
 (((((w31.setCell
 {block := w.heap.size, off := (0 : Nat) }
 (Value.int IntKind.i64 i18)).setCell
 {block := w.heap.size, off := (1 : Nat) }
 (Value.string s19)).setCell
 {block := w.heap.size, off := (2 : Nat) }
 (Value.int IntKind.i64 i22)).setCell
 {block := w.heap.size, off := (3 : Nat) }
 (Value.int IntKind.i64 i25)).setCell
 {block := w.heap.size, off := (4 : Nat) }
 (Value.int IntKind.u32 i29)))) ∧
 BytesAt
 (w24.alloc
 (Obj.cells
 #[Value.int IntKind.i64 (0 : Int), Value.string { data := #[] },
 Value.int IntKind.i64 (0 : Int), Value.int IntKind.i64 (0 : Int),
 Value.int IntKind.u32 (0 : Int)]
 (57 : Nat)))
 (cutA (cutA p0 c0 p1.toNat (1 : Nat)) (c0 - p1.toNat) (18 : Nat) (1 : Nat)) s19 ∧
 (w24.alloc
 (Obj.cells
 #[Value.int IntKind.i64 (0 : Int), Value.string { data := #[] },
 Value.int IntKind.i64 (0 : Int), Value.int IntKind.i64 (0 : Int),
 Value.int IntKind.u32 (0 : Int)]
 (57 : Nat))).cell?
 (a16.add (4 : Nat)) =
 some (Value.int IntKind.u8 i17) ∧
 (Known
 (w24.alloc
 (Obj.cells
 #[Value.int IntKind.i64 (0 : Int), Value.string { data := #[] },
 Value.int IntKind.i64 (0 : Int), Value.int IntKind.i64 (0 : Int),
 Value.int IntKind.u32 (0 : Int)]
 (57 : Nat)))
 [(w.heap.size,
 [((0 : Nat), Value.int IntKind.i64 (0 : Int)),
 ((1 : Nat), Value.string { data := #[] }),
 ((2 : Nat), Value.int IntKind.i64 (0 : Int)),
 ((3 : Nat), Value.int IntKind.i64 (0 : Int)),
 ((4 : Nat), Value.int IntKind.u32 (0 : Int))]),
 (w24.heap.size,
 [((0 : Nat), Value.int IntKind.i64 (0 : Int)),
 ((1 : Nat), Value.string { data := #[] }),
 ((2 : Nat), Value.int IntKind.i64 (0 : Int)),
 ((3 : Nat), Value.int IntKind.i64 (0 : Int)),
 ((4 : Nat), Value.int IntKind.u32 (0 : Int))])] →
 Rets Tryd.prog (114 : Nat)
 #[Value.slice (cutA p0 c0 p1.toNat (1 : Nat)) (n0 - p1.toNat) (c0 - p1.toNat),
 Value.int IntKind.i64 (14 : Int), Value.int IntKind.i64 (4 : Int)]
 (w24.alloc
 (Obj.cells
 #[Value.int IntKind.i64 (0 : Int), Value.string { data := #[] },
 Value.int IntKind.i64 (0 : Int), Value.int IntKind.i64 (0 : Int),
 Value.int IntKind.u32 (0 : Int)]
 (57 : Nat)))
 fun (v35 : Value) (w36 : World) =>
 ∃ (i37 : Int),
 v35 = Value.int IntKind.i64 i37 ∧
 Keeps
 (w24.alloc
 (Obj.cells
 #[Value.int IntKind.i64 (0 : Int), Value.string { data := #[] },
 Value.int IntKind.i64 (0 : Int), Value.int IntKind.i64 (0 : Int),
 Value.int IntKind.u32 (0 : Int)]
 (57 : Nat)))
 w36 [w.heap.size, w24.heap.size] ∧
 BytesAt w36
 (cutA (cutA p0 c0 p1.toNat (1 : Nat)) (c0 - p1.toNat) (18 : Nat) (1 : Nat))
 s19 ∧
 w36.cell? (a16.add (4 : Nat)) = some (Value.int IntKind.u8 i17) ∧
 Wr IntKind.u32 i37 fun (i38 : Int) =>
 Known
 (((((w36.setCell { block := w24.heap.size, off := (0 : Nat) }
 (Value.int IntKind.i64 i18)).setCell
 {block := w24.heap.size, off := (1 : Nat) }
 (Value.string s19)).setCell
 {block := w24.heap.size, off := (2 : Nat) }
 (Value.int IntKind.i64 i22)).setCell
 {block := w24.heap.size, off := (3 : Nat) }
 (Value.int IntKind.i64 i25)).setCell
 {block := w24.heap.size, off := (4 : Nat) }
 (Value.int IntKind.u32 i38))
 [(w.heap.size,
 [((0 : Nat), Value.int IntKind.i64 (0 : Int)),
 ((1 : Nat), Value.string { data := #[] }),
 ((2 : Nat), Value.int IntKind.i64 (0 : Int)),
 ((3 : Nat), Value.int IntKind.i64 (0 : Int)),
 ((4 : Nat), Value.int IntKind.u32 (0 : Int))]),
 (w24.heap.size,
 [((0 : Nat), Value.int IntKind.i64 i18),
 ((1 : Nat), Value.string s19),
 ((2 : Nat), Value.int IntKind.i64 i22),
 ((3 : Nat), Value.int IntKind.i64 i25),
 ((4 : Nat), Value.int IntKind.u32 i38)])] →
 Rets Tryd.prog (50 : Nat)
 #[Value.agg
 #[Value.int IntKind.i64 i18, Value.string s19,
 Value.int IntKind.i64 i22, Value.int IntKind.i64 i25,
 Value.int IntKind.u32 i38]]
 (((((w36.setCell { block := w24.heap.size, off := (0 : Nat) }
 (Value.int IntKind.i64 i18)).setCell
 {block := w24.heap.size, off := (1 : Nat) }
 (Value.string s19)).setCell
 {block := w24.heap.size, off := (2 : Nat) }
 (Value.int IntKind.i64 i22)).setCell
 {block := w24.heap.size, off := (3 : Nat) }
 (Value.int IntKind.i64 i25)).setCell
 {block := w24.heap.size, off := (4 : Nat) }
 (Value.int IntKind.u32 i38))
 fun (v39 : Value) (w40 : World) =>
 ∃ (t41 : Bool),
 v39 = Value.bool t41 ∧
 Keeps
 (((((w36.setCell { block := w24.heap.size, off := (0 : Nat) }
 (Value.int IntKind.i64 i18)).setCell
 {block := w24.heap.size, off := (1 : Nat) }
 (Value.string s19)).setCell
 {block := w24.heap.size, off := (2 : Nat) }
 (Value.int IntKind.i64 i22)).setCell
 {block := w24.heap.size, off := (3 : Nat) }
 (Value.int IntKind.i64 i25)).setCell
 {block := w24.heap.size, off := (4 : Nat) }
 (Value.int IntKind.u32 i38))
 w40 [w.heap.size, w24.heap.size] ∧
 bif !t41 then
 Known
 (((((w40.setCell
 {block := w.heap.size, off := (0 : Nat) }
 (Value.int IntKind.i64
 (0 : Int))).setCell
 {block := w.heap.size, off := (1 : Nat) }
 (Value.string { data := #[] })).setCell
 {block := w.heap.size, off := (2 : Nat) }
 (Value.int IntKind.i64 (0 : Int))).setCell
 {block := w.heap.size, off := (3 : Nat) }
 (Value.int IntKind.i64 (0 : Int))).setCell
 {block := w.heap.size, off := (4 : Nat) }
 (Value.int IntKind.u32 (0 : Int)))
 [(w.heap.size,
 [((0 : Nat), Value.int IntKind.i64 (0 : Int)),
 ((1 : Nat), Value.string { data := #[] }),
 ((2 : Nat), Value.int IntKind.i64 (0 : Int)),
 ((3 : Nat), Value.int IntKind.i64 (0 : Int)),
 ((4 : Nat), Value.int IntKind.u32 (0 : Int))]),
 (w24.heap.size,
 [((0 : Nat), Value.int IntKind.i64 i18),
 ((1 : Nat), Value.string s19),
 ((2 : Nat), Value.int IntKind.i64 i22),
 ((3 : Nat), Value.int IntKind.i64 i25),
 ((4 : Nat), Value.int IntKind.u32 i38)])] →
 R
 (Ending.returned
 (Value.tuple
 #[Value.agg
 #[Value.int IntKind.i64 (0 : Int),
 Value.string { data := #[] },
 Value.int IntKind.i64 (0 : Int),
 Value.int IntKind.i64 (0 : Int),
 Value.int IntKind.u32 (0 : Int)],
 Value.int IntKind.i64 (0 : Int),
 Value.int IntKind.i64 (3 : Int)]))
 (((((w40.setCell
 {block := w.heap.size, off := (0 : Nat) }
 (Value.int IntKind.i64
 (0 : Int))).setCell
 {block := w.heap.size, off := (1 : Nat) }
 (Value.string { data := #[] })).setCell
 {block := w.heap.size, off := (2 : Nat) }
 (Value.int IntKind.i64 (0 : Int))).setCell
 {block := w.heap.size, off := (3 : Nat) }
 (Value.int IntKind.i64 (0 : Int))).setCell
 {block := w.heap.size, off := (4 : Nat) }
 (Value.int IntKind.u32 (0 : Int)))
 else
 Wr IntKind.i64 (p1 + i8) fun (i42 : Int) =>
 Wr IntKind.i64 (i42 + (4 : Int)) fun (i43 : Int) =>
 Known
 (((((w40.setCell
 {block := w.heap.size, off := (0 : Nat) }
 (Value.int IntKind.i64 i18)).setCell
 {block := w.heap.size, off := (1 : Nat) }
 (Value.string s19)).setCell
 {block := w.heap.size, off := (2 : Nat) }
 (Value.int IntKind.i64 i22)).setCell
 {block := w.heap.size, off := (3 : Nat) }
 (Value.int IntKind.i64 i25)).setCell
 {block := w.heap.size, off := (4 : Nat) }
 (Value.int IntKind.u32 i38))
 [(w.heap.size,
 [((0 : Nat), Value.int IntKind.i64 i18),
 ((1 : Nat), Value.string s19),
 ((2 : Nat), Value.int IntKind.i64 i22),
 ((3 : Nat), Value.int IntKind.i64 i25),
 ((4 : Nat), Value.int IntKind.u32 i38)]),
 (w24.heap.size,
 [((0 : Nat), Value.int IntKind.i64 i18),
 ((1 : Nat), Value.string s19),
 ((2 : Nat), Value.int IntKind.i64 i22),
 ((3 : Nat), Value.int IntKind.i64 i25),
 ((4 : Nat), Value.int IntKind.u32 i38)])] →
 R
 (Ending.returned
 (Value.tuple
 #[Value.agg
 #[Value.int IntKind.i64 i18, Value.string s19,
 Value.int IntKind.i64 i22,
 Value.int IntKind.i64 i25,
 Value.int IntKind.u32 i38],
 Value.int IntKind.i64 i43,
 Value.int IntKind.i64 (0 : Int)]))
 (((((w40.setCell
 {block := w.heap.size, off := (0 : Nat) }
 (Value.int IntKind.i64 i18)).setCell
 {block := w.heap.size, off := (1 : Nat) }
 (Value.string s19)).setCell
 {block := w.heap.size, off := (2 : Nat) }
 (Value.int IntKind.i64 i22)).setCell
 {block := w.heap.size, off := (3 : Nat) }
 (Value.int IntKind.i64 i25)).setCell
 {block := w.heap.size, off := (4 : Nat) }
 (Value.int IntKind.u32 i38)))) ∧
 BytesAt
 (w21.alloc
 (Obj.cells
 #[Value.int IntKind.i64 (0 : Int), Value.string { data := #[] }, Value.int IntKind.i64 (0 : Int),
 Value.int IntKind.i64 (0 : Int), Value.int IntKind.u32 (0 : Int)]
 (57 : Nat)))
 (cutA (cutA p0 c0 p1.toNat (1 : Nat)) (c0 - p1.toNat) (18 : Nat) (1 : Nat)) s19 ∧
 (w21.alloc
 (Obj.cells
 #[Value.int IntKind.i64 (0 : Int), Value.string { data := #[] },
 Value.int IntKind.i64 (0 : Int), Value.int IntKind.i64 (0 : Int),
 Value.int IntKind.u32 (0 : Int)]
 (57 : Nat))).cell?
 (a16.add (4 : Nat)) =
 some (Value.int IntKind.u8 i17) ∧
 (Known
 (w21.alloc
 (Obj.cells
 #[Value.int IntKind.i64 (0 : Int), Value.string { data := #[] }, Value.int IntKind.i64 (0 : Int),
 Value.int IntKind.i64 (0 : Int), Value.int IntKind.u32 (0 : Int)]
 (57 : Nat)))
 [(w.heap.size,
 [((0 : Nat), Value.int IntKind.i64 (0 : Int)), ((1 : Nat), Value.string { data := #[] }),
 ((2 : Nat), Value.int IntKind.i64 (0 : Int)), ((3 : Nat), Value.int IntKind.i64 (0 : Int)),
 ((4 : Nat), Value.int IntKind.u32 (0 : Int))]),
 (w21.heap.size,
 [((0 : Nat), Value.int IntKind.i64 (0 : Int)), ((1 : Nat), Value.string { data := #[] }),
 ((2 : Nat), Value.int IntKind.i64 (0 : Int)), ((3 : Nat), Value.int IntKind.i64 (0 : Int)),
 ((4 : Nat), Value.int IntKind.u32 (0 : Int))])] →
 Rets Tryd.prog (114 : Nat)
 #[Value.slice (cutA p0 c0 p1.toNat (1 : Nat)) (n0 - p1.toNat) (c0 - p1.toNat),
 Value.int IntKind.i64 (10 : Int), Value.int IntKind.i64 (4 : Int)]
 (w21.alloc
 (Obj.cells
 #[Value.int IntKind.i64 (0 : Int), Value.string { data := #[] }, Value.int IntKind.i64 (0 : Int),
 Value.int IntKind.i64 (0 : Int), Value.int IntKind.u32 (0 : Int)]
 (57 : Nat)))
 fun (v44 : Value) (w45 : World) =>
 ∃ (i46 : Int),
 v44 = Value.int IntKind.i64 i46 ∧
 Keeps
 (w21.alloc
 (Obj.cells
 #[Value.int IntKind.i64 (0 : Int), Value.string { data := #[] },
 Value.int IntKind.i64 (0 : Int), Value.int IntKind.i64 (0 : Int),
 Value.int IntKind.u32 (0 : Int)]
 (57 : Nat)))
 w45 [w.heap.size, w21.heap.size] ∧
 BytesAt w45 (cutA (cutA p0 c0 p1.toNat (1 : Nat)) (c0 - p1.toNat) (18 : Nat) (1 : Nat)) s19 ∧
 w45.cell? (a16.add (4 : Nat)) = some (Value.int IntKind.u8 i17) ∧
 (Known w45
 [(w.heap.size,
 [((0 : Nat), Value.int IntKind.i64 (0 : Int)),
 ((1 : Nat), Value.string { data := #[] }),
 ((2 : Nat), Value.int IntKind.i64 (0 : Int)),
 ((3 : Nat), Value.int IntKind.i64 (0 : Int)),
 ((4 : Nat), Value.int IntKind.u32 (0 : Int))]),
 (w21.heap.size,
 [((0 : Nat), Value.int IntKind.i64 (0 : Int)),
 ((1 : Nat), Value.string { data := #[] }),
 ((2 : Nat), Value.int IntKind.i64 (0 : Int)),
 ((3 : Nat), Value.int IntKind.i64 (0 : Int)),
 ((4 : Nat), Value.int IntKind.u32 (0 : Int))])] →
 Rets Tryd.prog (114 : Nat)
 #[Value.slice (cutA p0 c0 p1.toNat (1 : Nat)) (n0 - p1.toNat) (c0 - p1.toNat),
 Value.int IntKind.i64 (14 : Int), Value.int IntKind.i64 (4 : Int)]
 w45 fun (v47 : Value) (w48 : World) =>
 ∃ (i49 : Int),
 v47 = Value.int IntKind.i64 i49 ∧
 Keeps w45 w48 [w.heap.size, w21.heap.size] ∧
 BytesAt w48
 (cutA (cutA p0 c0 p1.toNat (1 : Nat)) (c0 - p1.toNat) (18 : Nat) (1 : Nat))
 s19 ∧
 w48.cell? (a16.add (4 : Nat)) = some (Value.int IntKind.u8 i17) ∧
 Wr IntKind.u32 i49 fun (i50 : Int) =>
 Known
 (((((w48.setCell { block := w21.heap.size, off := (0 : Nat) }
 (Value.int IntKind.i64 i18)).setCell
 {block := w21.heap.size, off := (1 : Nat) }
 (Value.string s19)).setCell
 {block := w21.heap.size, off := (2 : Nat) }
 (Value.int IntKind.i64 i22)).setCell
 {block := w21.heap.size, off := (3 : Nat) }
 (Value.int IntKind.i64 i46)).setCell
 {block := w21.heap.size, off := (4 : Nat) }
 (Value.int IntKind.u32 i50))
 [(w.heap.size,
 [((0 : Nat), Value.int IntKind.i64 (0 : Int)),
 ((1 : Nat), Value.string { data := #[] }),
 ((2 : Nat), Value.int IntKind.i64 (0 : Int)),
 ((3 : Nat), Value.int IntKind.i64 (0 : Int)),
 ((4 : Nat), Value.int IntKind.u32 (0 : Int))]),
 (w21.heap.size,
 [((0 : Nat), Value.int IntKind.i64 i18),
 ((1 : Nat), Value.string s19),
 ((2 : Nat), Value.int IntKind.i64 i22),
 ((3 : Nat), Value.int IntKind.i64 i46),
 ((4 : Nat), Value.int IntKind.u32 i50)])] →
 Rets Tryd.prog (50 : Nat)
 #[Value.agg
 #[Value.int IntKind.i64 i18, Value.string s19,
 Value.int IntKind.i64 i22, Value.int IntKind.i64 i46,
 Value.int IntKind.u32 i50]]
 (((((w48.setCell { block := w21.heap.size, off := (0 : Nat) }
 (Value.int IntKind.i64 i18)).setCell
 {block := w21.heap.size, off := (1 : Nat) }
 (Value.string s19)).setCell
 {block := w21.heap.size, off := (2 : Nat) }
 (Value.int IntKind.i64 i22)).setCell
 {block := w21.heap.size, off := (3 : Nat) }
 (Value.int IntKind.i64 i46)).setCell
 {block := w21.heap.size, off := (4 : Nat) }
 (Value.int IntKind.u32 i50))
 fun (v51 : Value) (w52 : World) =>
 ∃ (t53 : Bool),
 v51 = Value.bool t53 ∧
 Keeps
 (((((w48.setCell { block := w21.heap.size, off := (0 : Nat) }
 (Value.int IntKind.i64 i18)).setCell
 {block := w21.heap.size, off := (1 : Nat) }
 (Value.string s19)).setCell
 {block := w21.heap.size, off := (2 : Nat) }
 (Value.int IntKind.i64 i22)).setCell
 {block := w21.heap.size, off := (3 : Nat) }
 (Value.int IntKind.i64 i46)).setCell
 {block := w21.heap.size, off := (4 : Nat) }
 (Value.int IntKind.u32 i50))
 w52 [w.heap.size, w21.heap.size] ∧
 bif !t53 then
 Known
 (((((w52.setCell { block := w.heap.size, off := (0 : Nat) }
 (Value.int IntKind.i64 (0 : Int))).setCell
 {block := w.heap.size, off := (1 : Nat) }
 (Value.string { data := #[] })).setCell
 {block := w.heap.size, off := (2 : Nat) }
 (Value.int IntKind.i64 (0 : Int))).setCell
 {block := w.heap.size, off := (3 : Nat) }
 (Value.int IntKind.i64 (0 : Int))).setCell
 {block := w.heap.size, off := (4 : Nat) }
 (Value.int IntKind.u32 (0 : Int)))
 [(w.heap.size,
 [((0 : Nat), Value.int IntKind.i64 (0 : Int)),
 ((1 : Nat), Value.string { data := #[] }),
 ((2 : Nat), Value.int IntKind.i64 (0 : Int)),
 ((3 : Nat), Value.int IntKind.i64 (0 : Int)),
 ((4 : Nat), Value.int IntKind.u32 (0 : Int))]),
 (w21.heap.size,
 [((0 : Nat), Value.int IntKind.i64 i18),
 ((1 : Nat), Value.string s19),
 ((2 : Nat), Value.int IntKind.i64 i22),
 ((3 : Nat), Value.int IntKind.i64 i46),
 ((4 : Nat), Value.int IntKind.u32 i50)])] →
 R
 (Ending.returned
 (Value.tuple
 #[Value.agg
 #[Value.int IntKind.i64 (0 : Int),
 Value.string { data := #[] },
 Value.int IntKind.i64 (0 : Int),
 Value.int IntKind.i64 (0 : Int),
 Value.int IntKind.u32 (0 : Int)],
 Value.int IntKind.i64 (0 : Int),
 Value.int IntKind.i64 (3 : Int)]))
 (((((w52.setCell { block := w.heap.size, off := (0 : Nat) }
 (Value.int IntKind.i64 (0 : Int))).setCell
 {block := w.heap.size, off := (1 : Nat) }
 (Value.string { data := #[] })).setCell
 {block := w.heap.size, off := (2 : Nat) }
 (Value.int IntKind.i64 (0 : Int))).setCell
 {block := w.heap.size, off := (3 : Nat) }
 (Value.int IntKind.i64 (0 : Int))).setCell
 {block := w.heap.size, off := (4 : Nat) }
 (Value.int IntKind.u32 (0 : Int)))
 else
 Wr IntKind.i64 (p1 + i8) fun (i54 : Int) =>
 Wr IntKind.i64 (i54 + (4 : Int)) fun (i55 : Int) =>
 Known
 (((((w52.setCell
 {block := w.heap.size, off := (0 : Nat) }
 (Value.int IntKind.i64 i18)).setCell
 {block := w.heap.size, off := (1 : Nat) }
 (Value.string s19)).setCell
 {block := w.heap.size, off := (2 : Nat) }
 (Value.int IntKind.i64 i22)).setCell
 {block := w.heap.size, off := (3 : Nat) }
 (Value.int IntKind.i64 i46)).setCell
 {block := w.heap.size, off := (4 : Nat) }
 (Value.int IntKind.u32 i50))
 [(w.heap.size,
 [((0 : Nat), Value.int IntKind.i64 i18),
 ((1 : Nat), Value.string s19),
 ((2 : Nat), Value.int IntKind.i64 i22),
 ((3 : Nat), Value.int IntKind.i64 i46),
 ((4 : Nat), Value.int IntKind.u32 i50)]),
 (w21.heap.size,
 [((0 : Nat), Value.int IntKind.i64 i18),
 ((1 : Nat), Value.string s19),
 ((2 : Nat), Value.int IntKind.i64 i22),
 ((3 : Nat), Value.int IntKind.i64 i46),
 ((4 : Nat), Value.int IntKind.u32 i50)])] →
 R
 (Ending.returned
 (Value.tuple
 #[Value.agg
 #[Value.int IntKind.i64 i18, Value.string s19,
 Value.int IntKind.i64 i22,
 Value.int IntKind.i64 i46,
 Value.int IntKind.u32 i50],
 Value.int IntKind.i64 i55,
 Value.int IntKind.i64 (0 : Int)]))
 (((((w52.setCell
 {block := w.heap.size, off := (0 : Nat) }
 (Value.int IntKind.i64 i18)).setCell
 {block := w.heap.size, off := (1 : Nat) }
 (Value.string s19)).setCell
 {block := w.heap.size, off := (2 : Nat) }
 (Value.int IntKind.i64 i22)).setCell
 {block := w.heap.size, off := (3 : Nat) }
 (Value.int IntKind.i64 i46)).setCell
 {block := w.heap.size, off := (4 : Nat) }
 (Value.int IntKind.u32 i50))))) ∧
 BytesAt
 (w13.drew.alloc
 (Obj.cells
 #[Value.int IntKind.i64 (0 : Int), Value.string { data := #[] }, Value.int IntKind.i64 (0 : Int),
 Value.int IntKind.i64 (0 : Int), Value.int IntKind.u32 (0 : Int)]
 (57 : Nat)))
 (cutA (cutA p0 c0 p1.toNat (1 : Nat)) (c0 - p1.toNat) (18 : Nat) (1 : Nat)) s19 ∧
 (w13.drew.alloc
 (Obj.cells
 #[Value.int IntKind.i64 (0 : Int), Value.string { data := #[] }, Value.int IntKind.i64 (0 : Int),
 Value.int IntKind.i64 (0 : Int), Value.int IntKind.u32 (0 : Int)]
 (57 : Nat))).cell?
 (a16.add (4 : Nat)) =
 some (Value.int IntKind.u8 i17) ∧
 (Known
 (w13.drew.alloc
 (Obj.cells
 #[Value.int IntKind.i64 (0 : Int), Value.string { data := #[] }, Value.int IntKind.i64 (0 : Int),
 Value.int IntKind.i64 (0 : Int), Value.int IntKind.u32 (0 : Int)]
 (57 : Nat)))
 [(w.heap.size,
 [((0 : Nat), Value.int IntKind.i64 (0 : Int)), ((1 : Nat), Value.string { data := #[] }),
 ((2 : Nat), Value.int IntKind.i64 (0 : Int)), ((3 : Nat), Value.int IntKind.i64 (0 : Int)),
 ((4 : Nat), Value.int IntKind.u32 (0 : Int))]),
 (w13.drew.heap.size,
 [((0 : Nat), Value.int IntKind.i64 (0 : Int)), ((1 : Nat), Value.string { data := #[] }),
 ((2 : Nat), Value.int IntKind.i64 (0 : Int)), ((3 : Nat), Value.int IntKind.i64 (0 : Int)),
 ((4 : Nat), Value.int IntKind.u32 (0 : Int))])] →
 Rets Tryd.prog (114 : Nat)
 #[Value.slice (cutA p0 c0 p1.toNat (1 : Nat)) (n0 - p1.toNat) (c0 - p1.toNat), Value.int IntKind.i64 (6 : Int),
 Value.int IntKind.i64 (4 : Int)]
 (w13.drew.alloc
 (Obj.cells
 #[Value.int IntKind.i64 (0 : Int), Value.string { data := #[] }, Value.int IntKind.i64 (0 : Int),
 Value.int IntKind.i64 (0 : Int), Value.int IntKind.u32 (0 : Int)]
 (57 : Nat)))
 fun (v56 : Value) (w57 : World) =>
 ∃ (i58 : Int),
 v56 = Value.int IntKind.i64 i58 ∧
 Keeps
 (w13.drew.alloc
 (Obj.cells
 #[Value.int IntKind.i64 (0 : Int), Value.string { data := #[] }, Value.int IntKind.i64 (0 : Int),
 Value.int IntKind.i64 (0 : Int), Value.int IntKind.u32 (0 : Int)]
 (57 : Nat)))
 w57 [w.heap.size, w13.drew.heap.size] ∧
 BytesAt w57 (cutA (cutA p0 c0 p1.toNat (1 : Nat)) (c0 - p1.toNat) (18 : Nat) (1 : Nat)) s19 ∧
 w57.cell? (a16.add (4 : Nat)) = some (Value.int IntKind.u8 i17) ∧
 (Known w57
 [(w.heap.size,
 [((0 : Nat), Value.int IntKind.i64 (0 : Int)), ((1 : Nat), Value.string { data := #[] }),
 ((2 : Nat), Value.int IntKind.i64 (0 : Int)), ((3 : Nat), Value.int IntKind.i64 (0 : Int)),
 ((4 : Nat), Value.int IntKind.u32 (0 : Int))]),
 (w13.drew.heap.size,
 [((0 : Nat), Value.int IntKind.i64 (0 : Int)), ((1 : Nat), Value.string { data := #[] }),
 ((2 : Nat), Value.int IntKind.i64 (0 : Int)), ((3 : Nat), Value.int IntKind.i64 (0 : Int)),
 ((4 : Nat), Value.int IntKind.u32 (0 : Int))])] →
 Rets Tryd.prog (114 : Nat)
 #[Value.slice (cutA p0 c0 p1.toNat (1 : Nat)) (n0 - p1.toNat) (c0 - p1.toNat),
 Value.int IntKind.i64 (10 : Int), Value.int IntKind.i64 (4 : Int)]
 w57 fun (v59 : Value) (w60 : World) =>
 ∃ (i61 : Int),
 v59 = Value.int IntKind.i64 i61 ∧
 Keeps w57 w60 [w.heap.size, w13.drew.heap.size] ∧
 BytesAt w60 (cutA (cutA p0 c0 p1.toNat (1 : Nat)) (c0 - p1.toNat) (18 : Nat) (1 : Nat)) s19 ∧
 w60.cell? (a16.add (4 : Nat)) = some (Value.int IntKind.u8 i17) ∧
 (Known w60
 [(w.heap.size,
 [((0 : Nat), Value.int IntKind.i64 (0 : Int)),
 ((1 : Nat), Value.string { data := #[] }),
 ((2 : Nat), Value.int IntKind.i64 (0 : Int)),
 ((3 : Nat), Value.int IntKind.i64 (0 : Int)),
 ((4 : Nat), Value.int IntKind.u32 (0 : Int))]),
 (w13.drew.heap.size,
 [((0 : Nat), Value.int IntKind.i64 (0 : Int)),
 ((1 : Nat), Value.string { data := #[] }),
 ((2 : Nat), Value.int IntKind.i64 (0 : Int)),
 ((3 : Nat), Value.int IntKind.i64 (0 : Int)),
 ((4 : Nat), Value.int IntKind.u32 (0 : Int))])] →
 Rets Tryd.prog (114 : Nat)
 #[Value.slice (cutA p0 c0 p1.toNat (1 : Nat)) (n0 - p1.toNat) (c0 - p1.toNat),
 Value.int IntKind.i64 (14 : Int), Value.int IntKind.i64 (4 : Int)]
 w60 fun (v62 : Value) (w63 : World) =>
 ∃ (i64 : Int),
 v62 = Value.int IntKind.i64 i64 ∧
 Keeps w60 w63 [w.heap.size, w13.drew.heap.size] ∧
 BytesAt w63
 (cutA (cutA p0 c0 p1.toNat (1 : Nat)) (c0 - p1.toNat) (18 : Nat) (1 : Nat))
 s19 ∧
 w63.cell? (a16.add (4 : Nat)) = some (Value.int IntKind.u8 i17) ∧
 Wr IntKind.u32 i64 fun (i65 : Int) =>
 Known
 (((((w63.setCell { block := w13.drew.heap.size, off := (0 : Nat) }
 (Value.int IntKind.i64 i18)).setCell
 {block := w13.drew.heap.size, off := (1 : Nat) }
 (Value.string s19)).setCell
 {block := w13.drew.heap.size, off := (2 : Nat) }
 (Value.int IntKind.i64 i58)).setCell
 {block := w13.drew.heap.size, off := (3 : Nat) }
 (Value.int IntKind.i64 i61)).setCell
 {block := w13.drew.heap.size, off := (4 : Nat) }
 (Value.int IntKind.u32 i65))
 [(w.heap.size,
 [((0 : Nat), Value.int IntKind.i64 (0 : Int)),
 ((1 : Nat), Value.string { data := #[] }),
 ((2 : Nat), Value.int IntKind.i64 (0 : Int)),
 ((3 : Nat), Value.int IntKind.i64 (0 : Int)),
 ((4 : Nat), Value.int IntKind.u32 (0 : Int))]),
 (w13.drew.heap.size,
 [((0 : Nat), Value.int IntKind.i64 i18),
 ((1 : Nat), Value.string s19),
 ((2 : Nat), Value.int IntKind.i64 i58),
 ((3 : Nat), Value.int IntKind.i64 i61),
 ((4 : Nat), Value.int IntKind.u32 i65)])] →
 Rets Tryd.prog (50 : Nat)
 #[Value.agg
 #[Value.int IntKind.i64 i18, Value.string s19,
 Value.int IntKind.i64 i58, Value.int IntKind.i64 i61,
 Value.int IntKind.u32 i65]]
 (((((w63.setCell { block := w13.drew.heap.size, off := (0 : Nat) }
 (Value.int IntKind.i64 i18)).setCell
 {block := w13.drew.heap.size, off := (1 : Nat) }
 (Value.string s19)).setCell
 {block := w13.drew.heap.size, off := (2 : Nat) }
 (Value.int IntKind.i64 i58)).setCell
 {block := w13.drew.heap.size, off := (3 : Nat) }
 (Value.int IntKind.i64 i61)).setCell
 {block := w13.drew.heap.size, off := (4 : Nat) }
 (Value.int IntKind.u32 i65))
 fun (v66 : Value) (w67 : World) =>
 ∃ (t68 : Bool),
 v66 = Value.bool t68 ∧
 Keeps
 (((((w63.setCell { block := w13.drew.heap.size, off := (0 : Nat) }
 (Value.int IntKind.i64 i18)).setCell
 {block := w13.drew.heap.size, off := (1 : Nat) }
 (Value.string s19)).setCell
 {block := w13.drew.heap.size, off := (2 : Nat) }
 (Value.int IntKind.i64 i58)).setCell
 {block := w13.drew.heap.size, off := (3 : Nat) }
 (Value.int IntKind.i64 i61)).setCell
 {block := w13.drew.heap.size, off := (4 : Nat) }
 (Value.int IntKind.u32 i65))
 w67 [w.heap.size, w13.drew.heap.size] ∧
 bif !t68 then
 Known
 (((((w67.setCell { block := w.heap.size, off := (0 : Nat) }
 (Value.int IntKind.i64 (0 : Int))).setCell
 {block := w.heap.size, off := (1 : Nat) }
 (Value.string { data := #[] })).setCell
 {block := w.heap.size, off := (2 : Nat) }
 (Value.int IntKind.i64 (0 : Int))).setCell
 {block := w.heap.size, off := (3 : Nat) }
 (Value.int IntKind.i64 (0 : Int))).setCell
 {block := w.heap.size, off := (4 : Nat) }
 (Value.int IntKind.u32 (0 : Int)))
 [(w.heap.size,
 [((0 : Nat), Value.int IntKind.i64 (0 : Int)),
 ((1 : Nat), Value.string { data := #[] }),
 ((2 : Nat), Value.int IntKind.i64 (0 : Int)),
 ((3 : Nat), Value.int IntKind.i64 (0 : Int)),
 ((4 : Nat), Value.int IntKind.u32 (0 : Int))]),
 (w13.drew.heap.size,
 [((0 : Nat), Value.int IntKind.i64 i18),
 ((1 : Nat), Value.string s19),
 ((2 : Nat), Value.int IntKind.i64 i58),
 ((3 : Nat), Value.int IntKind.i64 i61),
 ((4 : Nat), Value.int IntKind.u32 i65)])] →
 R
 (Ending.returned
 (Value.tuple
 #[Value.agg
 #[Value.int IntKind.i64 (0 : Int),
 Value.string { data := #[] },
 Value.int IntKind.i64 (0 : Int),
 Value.int IntKind.i64 (0 : Int),
 Value.int IntKind.u32 (0 : Int)],
 Value.int IntKind.i64 (0 : Int),
 Value.int IntKind.i64 (3 : Int)]))
 (((((w67.setCell { block := w.heap.size, off := (0 : Nat) }
 (Value.int IntKind.i64 (0 : Int))).setCell
 {block := w.heap.size, off := (1 : Nat) }
 (Value.string { data := #[] })).setCell
 {block := w.heap.size, off := (2 : Nat) }
 (Value.int IntKind.i64 (0 : Int))).setCell
 {block := w.heap.size, off := (3 : Nat) }
 (Value.int IntKind.i64 (0 : Int))).setCell
 {block := w.heap.size, off := (4 : Nat) }
 (Value.int IntKind.u32 (0 : Int)))
 else
 Wr IntKind.i64 (p1 + i8) fun (i69 : Int) =>
 Wr IntKind.i64 (i69 + (4 : Int)) fun (i70 : Int) =>
 Known
 (((((w67.setCell
 {block := w.heap.size, off := (0 : Nat) }
 (Value.int IntKind.i64 i18)).setCell
 {block := w.heap.size, off := (1 : Nat) }
 (Value.string s19)).setCell
 {block := w.heap.size, off := (2 : Nat) }
 (Value.int IntKind.i64 i58)).setCell
 {block := w.heap.size, off := (3 : Nat) }
 (Value.int IntKind.i64 i61)).setCell
 {block := w.heap.size, off := (4 : Nat) }
 (Value.int IntKind.u32 i65))
 [(w.heap.size,
 [((0 : Nat), Value.int IntKind.i64 i18),
 ((1 : Nat), Value.string s19),
 ((2 : Nat), Value.int IntKind.i64 i58),
 ((3 : Nat), Value.int IntKind.i64 i61),
 ((4 : Nat), Value.int IntKind.u32 i65)]),
 (w13.drew.heap.size,
 [((0 : Nat), Value.int IntKind.i64 i18),
 ((1 : Nat), Value.string s19),
 ((2 : Nat), Value.int IntKind.i64 i58),
 ((3 : Nat), Value.int IntKind.i64 i61),
 ((4 : Nat), Value.int IntKind.u32 i65)])] →
 R
 (Ending.returned
 (Value.tuple
 #[Value.agg
 #[Value.int IntKind.i64 i18, Value.string s19,
 Value.int IntKind.i64 i58,
 Value.int IntKind.i64 i61,
 Value.int IntKind.u32 i65],
 Value.int IntKind.i64 i70,
 Value.int IntKind.i64 (0 : Int)]))
 (((((w67.setCell
 {block := w.heap.size, off := (0 : Nat) }
 (Value.int IntKind.i64 i18)).setCell
 {block := w.heap.size, off := (1 : Nat) }
 (Value.string s19)).setCell
 {block := w.heap.size, off := (2 : Nat) }
 (Value.int IntKind.i64 i58)).setCell
 {block := w.heap.size, off := (3 : Nat) }
 (Value.int IntKind.i64 i61)).setCell
 {block := w.heap.size, off := (4 : Nat) }
 (Value.int IntKind.u32 i65)))))))
 else
 bif decide ((↑(n0 - p1.toNat) : Int) < (18 : Int)) then
 Known
 ((((((w.alloc
 (Obj.cells #[Value.int IntKind.i64 (0 : Int), Value.string { data := #[] }, Value.int IntKind.i64 (0 : Int), Value.int IntKind.i64 (0 : Int), Value.int IntKind.u32 (0 : Int)]
 (57 : Nat))).setCell
 {block := w.heap.size, off := (0 : Nat) } (Value.int IntKind.i64 (0 : Int))).setCell
 {block := w.heap.size, off := (1 : Nat) } (Value.string { data := #[] })).setCell
 {block := w.heap.size, off := (2 : Nat) } (Value.int IntKind.i64 (0 : Int))).setCell
 {block := w.heap.size, off := (3 : Nat) } (Value.int IntKind.i64 (0 : Int))).setCell
 {block := w.heap.size, off := (4 : Nat) } (Value.int IntKind.u32 (0 : Int)))
 [(w.heap.size,
 [((0 : Nat), Value.int IntKind.i64 (0 : Int)), ((1 : Nat), Value.string { data := #[] }), ((2 : Nat), Value.int IntKind.i64 (0 : Int)), ((3 : Nat), Value.int IntKind.i64 (0 : Int)),
 ((4 : Nat), Value.int IntKind.u32 (0 : Int))])] →
 R
 (Ending.returned
 (Value.tuple
 #[Value.agg #[Value.int IntKind.i64 (0 : Int), Value.string { data := #[] }, Value.int IntKind.i64 (0 : Int), Value.int IntKind.i64 (0 : Int), Value.int IntKind.u32 (0 : Int)],
 Value.int IntKind.i64 (0 : Int), Value.int IntKind.i64 (2 : Int)]))
 ((((((w.alloc
 (Obj.cells #[Value.int IntKind.i64 (0 : Int), Value.string { data := #[] }, Value.int IntKind.i64 (0 : Int), Value.int IntKind.i64 (0 : Int), Value.int IntKind.u32 (0 : Int)]
 (57 : Nat))).setCell
 {block := w.heap.size, off := (0 : Nat) } (Value.int IntKind.i64 (0 : Int))).setCell
 {block := w.heap.size, off := (1 : Nat) } (Value.string { data := #[] })).setCell
 {block := w.heap.size, off := (2 : Nat) } (Value.int IntKind.i64 (0 : Int))).setCell
 {block := w.heap.size, off := (3 : Nat) } (Value.int IntKind.i64 (0 : Int))).setCell
 {block := w.heap.size, off := (4 : Nat) } (Value.int IntKind.u32 (0 : Int)))
 else
 ((0 : Int) ≤ (5 : Int) ∧ (5 : Int) < (↑(n0 - p1.toNat) : Int)) ∧
 SX.Ptr (cutA p0 c0 p1.toNat (1 : Nat)) fun (a71 : Addr) =>
 ∃ (i72 : Int),
 (w.alloc (Obj.cells #[Value.int IntKind.i64 (0 : Int), Value.string { data := #[] }, Value.int IntKind.i64 (0 : Int), Value.int IntKind.i64 (0 : Int), Value.int IntKind.u32 (0 : Int)] (57 : Nat))).cell?
 (a71.add (5 : Nat)) =
 some (Value.int IntKind.u8 i72) ∧
 Wr IntKind.i64 i72 fun (i73 : Int) =>
 Wr IntKind.i64 ((22 : Int) + i73) fun (i74 : Int) =>
 bif decide ((↑(n0 - p1.toNat) : Int) < i74) then
 Known
 ((((((w.alloc
 (Obj.cells
 #[Value.int IntKind.i64 (0 : Int), Value.string { data := #[] }, Value.int IntKind.i64 (0 : Int), Value.int IntKind.i64 (0 : Int), Value.int IntKind.u32 (0 : Int)]
 (57 : Nat))).setCell
 {block := w.heap.size, off := (0 : Nat) } (Value.int IntKind.i64 (0 : Int))).setCell
 {block := w.heap.size, off := (1 : Nat) } (Value.string { data := #[] })).setCell
 {block := w.heap.size, off := (2 : Nat) } (Value.int IntKind.i64 (0 : Int))).setCell
 {block := w.heap.size, off := (3 : Nat) } (Value.int IntKind.i64 (0 : Int))).setCell
 {block := w.heap.size, off := (4 : Nat) } (Value.int IntKind.u32 (0 : Int)))
 [(w.heap.size,
 [((0 : Nat), Value.int IntKind.i64 (0 : Int)), ((1 : Nat), Value.string { data := #[] }), ((2 : Nat), Value.int IntKind.i64 (0 : Int)), ((3 : Nat), Value.int IntKind.i64 (0 : Int)),
 ((4 : Nat), Value.int IntKind.u32 (0 : Int))])] →
 R
 (Ending.returned
 (Value.tuple
 #[Value.agg #[Value.int IntKind.i64 (0 : Int), Value.string { data := #[] }, Value.int IntKind.i64 (0 : Int), Value.int IntKind.i64 (0 : Int), Value.int IntKind.u32 (0 : Int)],
 Value.int IntKind.i64 (0 : Int), Value.int IntKind.i64 (2 : Int)]))
 ((((((w.alloc
 (Obj.cells
 #[Value.int IntKind.i64 (0 : Int), Value.string { data := #[] }, Value.int IntKind.i64 (0 : Int), Value.int IntKind.i64 (0 : Int), Value.int IntKind.u32 (0 : Int)]
 (57 : Nat))).setCell
 {block := w.heap.size, off := (0 : Nat) } (Value.int IntKind.i64 (0 : Int))).setCell
 {block := w.heap.size, off := (1 : Nat) } (Value.string { data := #[] })).setCell
 {block := w.heap.size, off := (2 : Nat) } (Value.int IntKind.i64 (0 : Int))).setCell
 {block := w.heap.size, off := (3 : Nat) } (Value.int IntKind.i64 (0 : Int))).setCell
 {block := w.heap.size, off := (4 : Nat) } (Value.int IntKind.u32 (0 : Int)))
 else
 ((0 : Int) ≤ (5 : Int) ∧ (5 : Int) < (↑(n0 - p1.toNat) : Int)) ∧
 SX.Ptr (cutA p0 c0 p1.toNat (1 : Nat)) fun (a75 : Addr) =>
 ∃ (i76 : Int),
 (w.alloc
 (Obj.cells #[Value.int IntKind.i64 (0 : Int), Value.string { data := #[] }, Value.int IntKind.i64 (0 : Int), Value.int IntKind.i64 (0 : Int), Value.int IntKind.u32 (0 : Int)]
 (57 : Nat))).cell?
 (a75.add (5 : Nat)) =
 some (Value.int IntKind.u8 i76) ∧
 Wr IntKind.i64 i76 fun (i77 : Int) =>
 Wr IntKind.i64 ((18 : Int) + i77) fun (i78 : Int) =>
 ((0 : Int) ≤ i78 ∧ i78 ≤ (↑(c0 - p1.toNat) : Int)) ∧
 (Known
 (w.alloc
 (Obj.cells #[Value.int IntKind.i64 (0 : Int), Value.string { data := #[] }, Value.int IntKind.i64 (0 : Int), Value.int IntKind.i64 (0 : Int), Value.int IntKind.u32 (0 : Int)]
 (57 : Nat))).drew
 [(w.heap.size,
 [((0 : Nat), Value.int IntKind.i64 (0 : Int)), ((1 : Nat), Value.string { data := #[] }), ((2 : Nat), Value.int IntKind.i64 (0 : Int)),
 ((3 : Nat), Value.int IntKind.i64 (0 : Int)), ((4 : Nat), Value.int IntKind.u32 (0 : Int))])] →
 Rets Tryd.prog (114 : Nat) #[Value.slice (cutA p0 c0 p1.toNat (1 : Nat)) (n0 - p1.toNat) (c0 - p1.toNat), Value.int IntKind.i64 i78, Value.int IntKind.i64 (4 : Int)]
 (w.alloc
 (Obj.cells #[Value.int IntKind.i64 (0 : Int), Value.string { data := #[] }, Value.int IntKind.i64 (0 : Int), Value.int IntKind.i64 (0 : Int), Value.int IntKind.u32 (0 : Int)]
 (57 : Nat))).drew
 fun (v79 : Value) (w80 : World) =>
 ∃ (i81 : Int),
 v79 = Value.int IntKind.i64 i81 ∧
 Keeps
 (w.alloc
 (Obj.cells
 #[Value.int IntKind.i64 (0 : Int), Value.string { data := #[] }, Value.int IntKind.i64 (0 : Int), Value.int IntKind.i64 (0 : Int), Value.int IntKind.u32 (0 : Int)]
 (57 : Nat))).drew
 w80 [w.heap.size] ∧
 (Known w80
 [(w.heap.size,
 [((0 : Nat), Value.int IntKind.i64 (0 : Int)), ((1 : Nat), Value.string { data := #[] }), ((2 : Nat), Value.int IntKind.i64 (0 : Int)),
 ((3 : Nat), Value.int IntKind.i64 (0 : Int)), ((4 : Nat), Value.int IntKind.u32 (0 : Int))])] →
 Rets Tryd.prog (115 : Nat) #[Value.slice (cutA (cutA p0 c0 p1.toNat (1 : Nat)) (c0 - p1.toNat) (0 : Nat) (1 : Nat)) (i78.toNat - (0 : Nat)) (c0 - p1.toNat - (0 : Nat))]
 w80 fun (v82 : Value) (w83 : World) =>
 ∃ (i84 : Int),
 v82 = Value.int IntKind.u32 i84 ∧
 Keeps w80 w83 [w.heap.size] ∧
 Wr IntKind.i64 i84 fun (i85 : Int) =>
 bif i81 != i85 then
 Known
 (((((w83.setCell { block := w.heap.size, off := (0 : Nat) } (Value.int IntKind.i64 (0 : Int))).setCell { block := w.heap.size, off := (1 : Nat) }
 (Value.string { data := #[] })).setCell
 {block := w.heap.size, off := (2 : Nat) } (Value.int IntKind.i64 (0 : Int))).setCell
 {block := w.heap.size, off := (3 : Nat) } (Value.int IntKind.i64 (0 : Int))).setCell
 {block := w.heap.size, off := (4 : Nat) } (Value.int IntKind.u32 (0 : Int)))
 [(w.heap.size,
 [((0 : Nat), Value.int IntKind.i64 (0 : Int)), ((1 : Nat), Value.string { data := #[] }), ((2 : Nat), Value.int IntKind.i64 (0 : Int)),
 ((3 : Nat), Value.int IntKind.i64 (0 : Int)), ((4 : Nat), Value.int IntKind.u32 (0 : Int))])] →
 R
 (Ending.returned
 (Value.tuple
 #[Value.agg
 #[Value.int IntKind.i64 (0 : Int), Value.string { data := #[] }, Value.int IntKind.i64 (0 : Int), Value.int IntKind.i64 (0 : Int),
 Value.int IntKind.u32 (0 : Int)],
 Value.int IntKind.i64 (0 : Int), Value.int IntKind.i64 (4 : Int)]))
 (((((w83.setCell { block := w.heap.size, off := (0 : Nat) } (Value.int IntKind.i64 (0 : Int))).setCell { block := w.heap.size, off := (1 : Nat) }
 (Value.string { data := #[] })).setCell
 {block := w.heap.size, off := (2 : Nat) } (Value.int IntKind.i64 (0 : Int))).setCell
 {block := w.heap.size, off := (3 : Nat) } (Value.int IntKind.i64 (0 : Int))).setCell
 {block := w.heap.size, off := (4 : Nat) } (Value.int IntKind.u32 (0 : Int)))
 else
 ((0 : Int) ≤ (4 : Int) ∧ (4 : Int) < (↑(n0 - p1.toNat) : Int)) ∧
 SX.Ptr (cutA p0 c0 p1.toNat (1 : Nat)) fun (a86 : Addr) =>
 ∃ (i87 : Int),
 w83.drew.cell? (a86.add (4 : Nat)) = some (Value.int IntKind.u8 i87) ∧
 Wr IntKind.i64 i87 fun (i88 : Int) =>
 ((0 : Int) ≤ i78 ∧ i78 ≤ (↑(c0 - p1.toNat) : Int)) ∧
 ((0 : Int) ≤ (18 : Int) ∧ (18 : Int) ≤ (↑i78.toNat : Int)) ∧
 ∃ (s89 : ByteArray),
 s89.size = i78.toNat - (18 : Nat) ∧
 BytesAt w83.drew (cutA (cutA p0 c0 p1.toNat (1 : Nat)) (c0 - p1.toNat) (18 : Nat) (1 : Nat)) s89 ∧
 (Known w83.drew
 [(w.heap.size,
 [((0 : Nat), Value.int IntKind.i64 (0 : Int)), ((1 : Nat), Value.string { data := #[] }),
 ((2 : Nat), Value.int IntKind.i64 (0 : Int)), ((3 : Nat), Value.int IntKind.i64 (0 : Int)),
 ((4 : Nat), Value.int IntKind.u32 (0 : Int))])] →
 Rets Tryd.prog (114 : Nat)
 #[Value.slice (cutA p0 c0 p1.toNat (1 : Nat)) (n0 - p1.toNat) (c0 - p1.toNat), Value.int IntKind.i64 (6 : Int),
 Value.int IntKind.i64 (4 : Int)]
 w83.drew fun (v90 : Value) (w91 : World) =>
 ∃ (i92 : Int),
 v90 = Value.int IntKind.i64 i92 ∧
 Keeps w83.drew w91 [w.heap.size] ∧
 BytesAt w91 (cutA (cutA p0 c0 p1.toNat (1 : Nat)) (c0 - p1.toNat) (18 : Nat) (1 : Nat)) s89 ∧
 w91.cell? (a86.add (4 : Nat)) = some (Value.int IntKind.u8 i87) ∧
 (Known w91
 [(w.heap.size,
 [((0 : Nat), Value.int IntKind.i64 (0 : Int)), ((1 : Nat), Value.string { data := #[] }),
 ((2 : Nat), Value.int IntKind.i64 (0 : Int)), ((3 : Nat), Value.int IntKind.i64 (0 : Int)),
 ((4 : Nat), Value.int IntKind.u32 (0 : Int))])] →
 Rets Tryd.prog (114 : Nat)
 #[Value.slice (cutA p0 c0 p1.toNat (1 : Nat)) (n0 - p1.toNat) (c0 - p1.toNat), Value.int IntKind.i64 (10 : Int),
 Value.int IntKind.i64 (4 : Int)]
 w91 fun (v93 : Value) (w94 : World) =>
 ∃ (i95 : Int),
 v93 = Value.int IntKind.i64 i95 ∧
 Keeps w91 w94 [w.heap.size] ∧
 BytesAt w94 (cutA (cutA p0 c0 p1.toNat (1 : Nat)) (c0 - p1.toNat) (18 : Nat) (1 : Nat)) s89 ∧
 w94.cell? (a86.add (4 : Nat)) = some (Value.int IntKind.u8 i87) ∧
 (Known w94
 [(w.heap.size,
 [((0 : Nat), Value.int IntKind.i64 (0 : Int)), ((1 : Nat), Value.string { data := #[] }),
 ((2 : Nat), Value.int IntKind.i64 (0 : Int)), ((3 : Nat), Value.int IntKind.i64 (0 : Int)),
 ((4 : Nat), Value.int IntKind.u32 (0 : Int))])] →
 Rets Tryd.prog (114 : Nat)
 #[Value.slice (cutA p0 c0 p1.toNat (1 : Nat)) (n0 - p1.toNat) (c0 - p1.toNat),
 Value.int IntKind.i64 (14 : Int), Value.int IntKind.i64 (4 : Int)]
 w94 fun (v96 : Value) (w97 : World) =>
 ∃ (i98 : Int),
 v96 = Value.int IntKind.i64 i98 ∧
 Keeps w94 w97 [w.heap.size] ∧
 BytesAt w97 (cutA (cutA p0 c0 p1.toNat (1 : Nat)) (c0 - p1.toNat) (18 : Nat) (1 : Nat)) s89 ∧
 w97.cell? (a86.add (4 : Nat)) = some (Value.int IntKind.u8 i87) ∧
 Wr IntKind.u32 i98 fun (i99 : Int) =>
 BytesAt
 (w97.alloc
 (Obj.cells
 #[Value.int IntKind.i64 (0 : Int), Value.string { data := #[] },
 Value.int IntKind.i64 (0 : Int), Value.int IntKind.i64 (0 : Int),
 Value.int IntKind.u32 (0 : Int)]
 (57 : Nat)))
 (cutA (cutA p0 c0 p1.toNat (1 : Nat)) (c0 - p1.toNat) (18 : Nat) (1 : Nat)) s89 ∧
 (w97.alloc
 (Obj.cells
 #[Value.int IntKind.i64 (0 : Int), Value.string { data := #[] },
 Value.int IntKind.i64 (0 : Int), Value.int IntKind.i64 (0 : Int),
 Value.int IntKind.u32 (0 : Int)]
 (57 : Nat))).cell?
 (a86.add (4 : Nat)) =
 some (Value.int IntKind.u8 i87) ∧
 (Known
 ((((((w97.alloc
 (Obj.cells
 #[Value.int IntKind.i64 (0 : Int),
 Value.string { data := #[] },
 Value.int IntKind.i64 (0 : Int),
 Value.int IntKind.i64 (0 : Int),
 Value.int IntKind.u32 (0 : Int)]
 (57 : Nat))).setCell
 {block := w97.heap.size, off := (0 : Nat) }
 (Value.int IntKind.i64 i88)).setCell
 {block := w97.heap.size, off := (1 : Nat) }
 (Value.string s89)).setCell
 {block := w97.heap.size, off := (2 : Nat) }
 (Value.int IntKind.i64 i92)).setCell
 {block := w97.heap.size, off := (3 : Nat) }
 (Value.int IntKind.i64 i95)).setCell
 {block := w97.heap.size, off := (4 : Nat) } (Value.int IntKind.u32 i99))
 [(w.heap.size,
 [((0 : Nat), Value.int IntKind.i64 (0 : Int)),
 ((1 : Nat), Value.string { data := #[] }),
 ((2 : Nat), Value.int IntKind.i64 (0 : Int)),
 ((3 : Nat), Value.int IntKind.i64 (0 : Int)),
 ((4 : Nat), Value.int IntKind.u32 (0 : Int))]),
 (w97.heap.size,
 [((0 : Nat), Value.int IntKind.i64 i88), ((1 : Nat), Value.string s89),
 ((2 : Nat), Value.int IntKind.i64 i92),
 ((3 : Nat), Value.int IntKind.i64 i95),
 ((4 : Nat), Value.int IntKind.u32 i99)])] →
 Rets Tryd.prog (50 : Nat)
 #[Value.agg
 #[Value.int IntKind.i64 i88, Value.string s89, Value.int IntKind.i64 i92,
 Value.int IntKind.i64 i95, Value.int IntKind.u32 i99]]
 ((((((w97.alloc
 (Obj.cells
 #[Value.int IntKind.i64 (0 : Int),
 Value.string { data := #[] },
 Value.int IntKind.i64 (0 : Int),
 Value.int IntKind.i64 (0 : Int),
 Value.int IntKind.u32 (0 : Int)]
 (57 : Nat))).setCell
 {block := w97.heap.size, off := (0 : Nat) }
 (Value.int IntKind.i64 i88)).setCell
 {block := w97.heap.size, off := (1 : Nat) }
 (Value.string s89)).setCell
 {block := w97.heap.size, off := (2 : Nat) }
 (Value.int IntKind.i64 i92)).setCell
 {block := w97.heap.size, off := (3 : Nat) }
 (Value.int IntKind.i64 i95)).setCell
 {block := w97.heap.size, off := (4 : Nat) } (Value.int IntKind.u32 i99))
 fun (v100 : Value) (w101 : World) =>
 ∃ (t102 : Bool),
 v100 = Value.bool t102 ∧
 Keeps
 ((((((w97.alloc
 (Obj.cells
 #[Value.int IntKind.i64 (0 : Int),
 Value.string { data := #[] },
 Value.int IntKind.i64 (0 : Int),
 Value.int IntKind.i64 (0 : Int),
 Value.int IntKind.u32 (0 : Int)]
 (57 : Nat))).setCell
 {block := w97.heap.size, off := (0 : Nat) }
 (Value.int IntKind.i64 i88)).setCell
 {block := w97.heap.size, off := (1 : Nat) }
 (Value.string s89)).setCell
 {block := w97.heap.size, off := (2 : Nat) }
 (Value.int IntKind.i64 i92)).setCell
 {block := w97.heap.size, off := (3 : Nat) }
 (Value.int IntKind.i64 i95)).setCell
 {block := w97.heap.size, off := (4 : Nat) }
 (Value.int IntKind.u32 i99))
 w101 [w.heap.size, w97.heap.size] ∧
 bif !t102 then
 Known
 (((((w101.setCell { block := w.heap.size, off := (0 : Nat) }
 (Value.int IntKind.i64 (0 : Int))).setCell
 {block := w.heap.size, off := (1 : Nat) }
 (Value.string { data := #[] })).setCell
 {block := w.heap.size, off := (2 : Nat) }
 (Value.int IntKind.i64 (0 : Int))).setCell
 {block := w.heap.size, off := (3 : Nat) }
 (Value.int IntKind.i64 (0 : Int))).setCell
 {block := w.heap.size, off := (4 : Nat) }
 (Value.int IntKind.u32 (0 : Int)))
 [(w.heap.size,
 [((0 : Nat), Value.int IntKind.i64 (0 : Int)),
 ((1 : Nat), Value.string { data := #[] }),
 ((2 : Nat), Value.int IntKind.i64 (0 : Int)),
 ((3 : Nat), Value.int IntKind.i64 (0 : Int)),
 ((4 : Nat), Value.int IntKind.u32 (0 : Int))]),
 (w97.heap.size,
 [((0 : Nat), Value.int IntKind.i64 i88),
 ((1 : Nat), Value.string s89),
 ((2 : Nat), Value.int IntKind.i64 i92),
 ((3 : Nat), Value.int IntKind.i64 i95),
 ((4 : Nat), Value.int IntKind.u32 i99)])] →
 R
 (Ending.returned
 (Value.tuple
 #[Value.agg
 #[Value.int IntKind.i64 (0 : Int),
 Value.string { data := #[] },
 Value.int IntKind.i64 (0 : Int),
 Value.int IntKind.i64 (0 : Int),
 Value.int IntKind.u32 (0 : Int)],
 Value.int IntKind.i64 (0 : Int),
 Value.int IntKind.i64 (3 : Int)]))
 (((((w101.setCell { block := w.heap.size, off := (0 : Nat) }
 (Value.int IntKind.i64 (0 : Int))).setCell
 {block := w.heap.size, off := (1 : Nat) }
 (Value.string { data := #[] })).setCell
 {block := w.heap.size, off := (2 : Nat) }
 (Value.int IntKind.i64 (0 : Int))).setCell
 {block := w.heap.size, off := (3 : Nat) }
 (Value.int IntKind.i64 (0 : Int))).setCell
 {block := w.heap.size, off := (4 : Nat) }
 (Value.int IntKind.u32 (0 : Int)))
 else
 Wr IntKind.i64 (p1 + i78) fun (i103 : Int) =>
 Wr IntKind.i64 (i103 + (4 : Int)) fun (i104 : Int) =>
 Known
 (((((w101.setCell { block := w.heap.size, off := (0 : Nat) }
 (Value.int IntKind.i64 i88)).setCell
 {block := w.heap.size, off := (1 : Nat) }
 (Value.string s89)).setCell
 {block := w.heap.size, off := (2 : Nat) }
 (Value.int IntKind.i64 i92)).setCell
 {block := w.heap.size, off := (3 : Nat) }
 (Value.int IntKind.i64 i95)).setCell
 {block := w.heap.size, off := (4 : Nat) }
 (Value.int IntKind.u32 i99))
 [(w.heap.size,
 [((0 : Nat), Value.int IntKind.i64 i88),
 ((1 : Nat), Value.string s89),
 ((2 : Nat), Value.int IntKind.i64 i92),
 ((3 : Nat), Value.int IntKind.i64 i95),
 ((4 : Nat), Value.int IntKind.u32 i99)]),
 (w97.heap.size,
 [((0 : Nat), Value.int IntKind.i64 i88),
 ((1 : Nat), Value.string s89),
 ((2 : Nat), Value.int IntKind.i64 i92),
 ((3 : Nat), Value.int IntKind.i64 i95),
 ((4 : Nat), Value.int IntKind.u32 i99)])] →
 R
 (Ending.returned
 (Value.tuple
 #[Value.agg
 #[Value.int IntKind.i64 i88, Value.string s89,
 Value.int IntKind.i64 i92, Value.int IntKind.i64 i95,
 Value.int IntKind.u32 i99],
 Value.int IntKind.i64 i104,
 Value.int IntKind.i64 (0 : Int)]))
 (((((w101.setCell { block := w.heap.size, off := (0 : Nat) }
 (Value.int IntKind.i64 i88)).setCell
 {block := w.heap.size, off := (1 : Nat) }
 (Value.string s89)).setCell
 {block := w.heap.size, off := (2 : Nat) }
 (Value.int IntKind.i64 i92)).setCell
 {block := w.heap.size, off := (3 : Nat) }
 (Value.int IntKind.i64 i95)).setCell
 {block := w.heap.size, off := (4 : Nat) }
 (Value.int IntKind.u32 i99)))) ∧
 BytesAt
 (w94.alloc
 (Obj.cells
 #[Value.int IntKind.i64 (0 : Int), Value.string { data := #[] },
 Value.int IntKind.i64 (0 : Int), Value.int IntKind.i64 (0 : Int),
 Value.int IntKind.u32 (0 : Int)]
 (57 : Nat)))
 (cutA (cutA p0 c0 p1.toNat (1 : Nat)) (c0 - p1.toNat) (18 : Nat) (1 : Nat)) s89 ∧
 (w94.alloc
 (Obj.cells
 #[Value.int IntKind.i64 (0 : Int), Value.string { data := #[] },
 Value.int IntKind.i64 (0 : Int), Value.int IntKind.i64 (0 : Int),
 Value.int IntKind.u32 (0 : Int)]
 (57 : Nat))).cell?
 (a86.add (4 : Nat)) =
 some (Value.int IntKind.u8 i87) ∧
 (Known
 (w94.alloc
 (Obj.cells
 #[Value.int IntKind.i64 (0 : Int), Value.string { data := #[] },
 Value.int IntKind.i64 (0 : Int), Value.int IntKind.i64 (0 : Int),
 Value.int IntKind.u32 (0 : Int)]
 (57 : Nat)))
 [(w.heap.size,
 [((0 : Nat), Value.int IntKind.i64 (0 : Int)), ((1 : Nat), Value.string { data := #[] }),
 ((2 : Nat), Value.int IntKind.i64 (0 : Int)),
 ((3 : Nat), Value.int IntKind.i64 (0 : Int)),
 ((4 : Nat), Value.int IntKind.u32 (0 : Int))]),
 (w94.heap.size,
 [((0 : Nat), Value.int IntKind.i64 (0 : Int)), ((1 : Nat), Value.string { data := #[] }),
 ((2 : Nat), Value.int IntKind.i64 (0 : Int)),
 ((3 : Nat), Value.int IntKind.i64 (0 : Int)),
 ((4 : Nat), Value.int IntKind.u32 (0 : Int))])] →
 Rets Tryd.prog (114 : Nat)
 #[Value.slice (cutA p0 c0 p1.toNat (1 : Nat)) (n0 - p1.toNat) (c0 - p1.toNat),
 Value.int IntKind.i64 (14 : Int), Value.int IntKind.i64 (4 : Int)]
 (w94.alloc
 (Obj.cells
 #[Value.int IntKind.i64 (0 : Int), Value.string { data := #[] },
 Value.int IntKind.i64 (0 : Int), Value.int IntKind.i64 (0 : Int),
 Value.int IntKind.u32 (0 : Int)]
 (57 : Nat)))
 fun (v105 : Value) (w106 : World) =>
 ∃ (i107 : Int),
 v105 = Value.int IntKind.i64 i107 ∧
 Keeps
 (w94.alloc
 (Obj.cells
 #[Value.int IntKind.i64 (0 : Int), Value.string { data := #[] },
 Value.int IntKind.i64 (0 : Int), Value.int IntKind.i64 (0 : Int),
 Value.int IntKind.u32 (0 : Int)]
 (57 : Nat)))
 w106 [w.heap.size, w94.heap.size] ∧
 BytesAt w106 (cutA (cutA p0 c0 p1.toNat (1 : Nat)) (c0 - p1.toNat) (18 : Nat) (1 : Nat))
 s89 ∧
 w106.cell? (a86.add (4 : Nat)) = some (Value.int IntKind.u8 i87) ∧
 Wr IntKind.u32 i107 fun (i108 : Int) =>
 Known
 (((((w106.setCell { block := w94.heap.size, off := (0 : Nat) }
 (Value.int IntKind.i64 i88)).setCell
 {block := w94.heap.size, off := (1 : Nat) }
 (Value.string s89)).setCell
 {block := w94.heap.size, off := (2 : Nat) }
 (Value.int IntKind.i64 i92)).setCell
 {block := w94.heap.size, off := (3 : Nat) }
 (Value.int IntKind.i64 i95)).setCell
 {block := w94.heap.size, off := (4 : Nat) } (Value.int IntKind.u32 i108))
 [(w.heap.size,
 [((0 : Nat), Value.int IntKind.i64 (0 : Int)),
 ((1 : Nat), Value.string { data := #[] }),
 ((2 : Nat), Value.int IntKind.i64 (0 : Int)),
 ((3 : Nat), Value.int IntKind.i64 (0 : Int)),
 ((4 : Nat), Value.int IntKind.u32 (0 : Int))]),
 (w94.heap.size,
 [((0 : Nat), Value.int IntKind.i64 i88), ((1 : Nat), Value.string s89),
 ((2 : Nat), Value.int IntKind.i64 i92),
 ((3 : Nat), Value.int IntKind.i64 i95),
 ((4 : Nat), Value.int IntKind.u32 i108)])] →
 Rets Tryd.prog (50 : Nat)
 #[Value.agg
 #[Value.int IntKind.i64 i88, Value.string s89, Value.int IntKind.i64 i92,
 Value.int IntKind.i64 i95, Value.int IntKind.u32 i108]]
 (((((w106.setCell { block := w94.heap.size, off := (0 : Nat) }
 (Value.int IntKind.i64 i88)).setCell
 {block := w94.heap.size, off := (1 : Nat) }
 (Value.string s89)).setCell
 {block := w94.heap.size, off := (2 : Nat) }
 (Value.int IntKind.i64 i92)).setCell
 {block := w94.heap.size, off := (3 : Nat) }
 (Value.int IntKind.i64 i95)).setCell
 {block := w94.heap.size, off := (4 : Nat) } (Value.int IntKind.u32 i108))
 fun (v109 : Value) (w110 : World) =>
 ∃ (t111 : Bool),
 v109 = Value.bool t111 ∧
 Keeps
 (((((w106.setCell { block := w94.heap.size, off := (0 : Nat) }
 (Value.int IntKind.i64 i88)).setCell
 {block := w94.heap.size, off := (1 : Nat) }
 (Value.string s89)).setCell
 {block := w94.heap.size, off := (2 : Nat) }
 (Value.int IntKind.i64 i92)).setCell
 {block := w94.heap.size, off := (3 : Nat) }
 (Value.int IntKind.i64 i95)).setCell
 {block := w94.heap.size, off := (4 : Nat) }
 (Value.int IntKind.u32 i108))
 w110 [w.heap.size, w94.heap.size] ∧
 bif !t111 then
 Known
 (((((w110.setCell { block := w.heap.size, off := (0 : Nat) }
 (Value.int IntKind.i64 (0 : Int))).setCell
 {block := w.heap.size, off := (1 : Nat) }
 (Value.string { data := #[] })).setCell
 {block := w.heap.size, off := (2 : Nat) }
 (Value.int IntKind.i64 (0 : Int))).setCell
 {block := w.heap.size, off := (3 : Nat) }
 (Value.int IntKind.i64 (0 : Int))).setCell
 {block := w.heap.size, off := (4 : Nat) }
 (Value.int IntKind.u32 (0 : Int)))
 [(w.heap.size,
 [((0 : Nat), Value.int IntKind.i64 (0 : Int)),
 ((1 : Nat), Value.string { data := #[] }),
 ((2 : Nat), Value.int IntKind.i64 (0 : Int)),
 ((3 : Nat), Value.int IntKind.i64 (0 : Int)),
 ((4 : Nat), Value.int IntKind.u32 (0 : Int))]),
 (w94.heap.size,
 [((0 : Nat), Value.int IntKind.i64 i88),
 ((1 : Nat), Value.string s89),
 ((2 : Nat), Value.int IntKind.i64 i92),
 ((3 : Nat), Value.int IntKind.i64 i95),
 ((4 : Nat), Value.int IntKind.u32 i108)])] →
 R
 (Ending.returned
 (Value.tuple
 #[Value.agg
 #[Value.int IntKind.i64 (0 : Int),
 Value.string { data := #[] },
 Value.int IntKind.i64 (0 : Int),
 Value.int IntKind.i64 (0 : Int),
 Value.int IntKind.u32 (0 : Int)],
 Value.int IntKind.i64 (0 : Int),
 Value.int IntKind.i64 (3 : Int)]))
 (((((w110.setCell { block := w.heap.size, off := (0 : Nat) }
 (Value.int IntKind.i64 (0 : Int))).setCell
 {block := w.heap.size, off := (1 : Nat) }
 (Value.string { data := #[] })).setCell
 {block := w.heap.size, off := (2 : Nat) }
 (Value.int IntKind.i64 (0 : Int))).setCell
 {block := w.heap.size, off := (3 : Nat) }
 (Value.int IntKind.i64 (0 : Int))).setCell
 {block := w.heap.size, off := (4 : Nat) }
 (Value.int IntKind.u32 (0 : Int)))
 else
 Wr IntKind.i64 (p1 + i78) fun (i112 : Int) =>
 Wr IntKind.i64 (i112 + (4 : Int)) fun (i113 : Int) =>
 Known
 (((((w110.setCell { block := w.heap.size, off := (0 : Nat) }
 (Value.int IntKind.i64 i88)).setCell
 {block := w.heap.size, off := (1 : Nat) }
 (Value.string s89)).setCell
 {block := w.heap.size, off := (2 : Nat) }
 (Value.int IntKind.i64 i92)).setCell
 {block := w.heap.size, off := (3 : Nat) }
 (Value.int IntKind.i64 i95)).setCell
 {block := w.heap.size, off := (4 : Nat) }
 (Value.int IntKind.u32 i108))
 [(w.heap.size,
 [((0 : Nat), Value.int IntKind.i64 i88),
 ((1 : Nat), Value.string s89),
 ((2 : Nat), Value.int IntKind.i64 i92),
 ((3 : Nat), Value.int IntKind.i64 i95),
 ((4 : Nat), Value.int IntKind.u32 i108)]),
 (w94.heap.size,
 [((0 : Nat), Value.int IntKind.i64 i88),
 ((1 : Nat), Value.string s89),
 ((2 : Nat), Value.int IntKind.i64 i92),
 ((3 : Nat), Value.int IntKind.i64 i95),
 ((4 : Nat), Value.int IntKind.u32 i108)])] →
 R
 (Ending.returned
 (Value.tuple
 #[Value.agg
 #[Value.int IntKind.i64 i88, Value.string s89,
 Value.int IntKind.i64 i92, Value.int IntKind.i64 i95,
 Value.int IntKind.u32 i108],
 Value.int IntKind.i64 i113,
 Value.int IntKind.i64 (0 : Int)]))
 (((((w110.setCell { block := w.heap.size, off := (0 : Nat) }
 (Value.int IntKind.i64 i88)).setCell
 {block := w.heap.size, off := (1 : Nat) }
 (Value.string s89)).setCell
 {block := w.heap.size, off := (2 : Nat) }
 (Value.int IntKind.i64 i92)).setCell
 {block := w.heap.size, off := (3 : Nat) }
 (Value.int IntKind.i64 i95)).setCell
 {block := w.heap.size, off := (4 : Nat) }
 (Value.int IntKind.u32 i108)))) ∧
 BytesAt
 (w91.alloc
 (Obj.cells
 #[Value.int IntKind.i64 (0 : Int), Value.string { data := #[] }, Value.int IntKind.i64 (0 : Int),
 Value.int IntKind.i64 (0 : Int), Value.int IntKind.u32 (0 : Int)]
 (57 : Nat)))
 (cutA (cutA p0 c0 p1.toNat (1 : Nat)) (c0 - p1.toNat) (18 : Nat) (1 : Nat)) s89 ∧
 (w91.alloc
 (Obj.cells
 #[Value.int IntKind.i64 (0 : Int), Value.string { data := #[] }, Value.int IntKind.i64 (0 : Int),
 Value.int IntKind.i64 (0 : Int), Value.int IntKind.u32 (0 : Int)]
 (57 : Nat))).cell?
 (a86.add (4 : Nat)) =
 some (Value.int IntKind.u8 i87) ∧
 (Known
 (w91.alloc
 (Obj.cells
 #[Value.int IntKind.i64 (0 : Int), Value.string { data := #[] }, Value.int IntKind.i64 (0 : Int),
 Value.int IntKind.i64 (0 : Int), Value.int IntKind.u32 (0 : Int)]
 (57 : Nat)))
 [(w.heap.size,
 [((0 : Nat), Value.int IntKind.i64 (0 : Int)), ((1 : Nat), Value.string { data := #[] }),
 ((2 : Nat), Value.int IntKind.i64 (0 : Int)), ((3 : Nat), Value.int IntKind.i64 (0 : Int)),
 ((4 : Nat), Value.int IntKind.u32 (0 : Int))]),
 (w91.heap.size,
 [((0 : Nat), Value.int IntKind.i64 (0 : Int)), ((1 : Nat), Value.string { data := #[] }),
 ((2 : Nat), Value.int IntKind.i64 (0 : Int)), ((3 : Nat), Value.int IntKind.i64 (0 : Int)),
 ((4 : Nat), Value.int IntKind.u32 (0 : Int))])] →
 Rets Tryd.prog (114 : Nat)
 #[Value.slice (cutA p0 c0 p1.toNat (1 : Nat)) (n0 - p1.toNat) (c0 - p1.toNat), Value.int IntKind.i64 (10 : Int),
 Value.int IntKind.i64 (4 : Int)]
 (w91.alloc
 (Obj.cells
 #[Value.int IntKind.i64 (0 : Int), Value.string { data := #[] }, Value.int IntKind.i64 (0 : Int),
 Value.int IntKind.i64 (0 : Int), Value.int IntKind.u32 (0 : Int)]
 (57 : Nat)))
 fun (v114 : Value) (w115 : World) =>
 ∃ (i116 : Int),
 v114 = Value.int IntKind.i64 i116 ∧
 Keeps
 (w91.alloc
 (Obj.cells
 #[Value.int IntKind.i64 (0 : Int), Value.string { data := #[] }, Value.int IntKind.i64 (0 : Int),
 Value.int IntKind.i64 (0 : Int), Value.int IntKind.u32 (0 : Int)]
 (57 : Nat)))
 w115 [w.heap.size, w91.heap.size] ∧
 BytesAt w115 (cutA (cutA p0 c0 p1.toNat (1 : Nat)) (c0 - p1.toNat) (18 : Nat) (1 : Nat)) s89 ∧
 w115.cell? (a86.add (4 : Nat)) = some (Value.int IntKind.u8 i87) ∧
 (Known w115
 [(w.heap.size,
 [((0 : Nat), Value.int IntKind.i64 (0 : Int)), ((1 : Nat), Value.string { data := #[] }),
 ((2 : Nat), Value.int IntKind.i64 (0 : Int)), ((3 : Nat), Value.int IntKind.i64 (0 : Int)),
 ((4 : Nat), Value.int IntKind.u32 (0 : Int))]),
 (w91.heap.size,
 [((0 : Nat), Value.int IntKind.i64 (0 : Int)), ((1 : Nat), Value.string { data := #[] }),
 ((2 : Nat), Value.int IntKind.i64 (0 : Int)), ((3 : Nat), Value.int IntKind.i64 (0 : Int)),
 ((4 : Nat), Value.int IntKind.u32 (0 : Int))])] →
 Rets Tryd.prog (114 : Nat)
 #[Value.slice (cutA p0 c0 p1.toNat (1 : Nat)) (n0 - p1.toNat) (c0 - p1.toNat),
 Value.int IntKind.i64 (14 : Int), Value.int IntKind.i64 (4 : Int)]
 w115 fun (v117 : Value) (w118 : World) =>
 ∃ (i119 : Int),
 v117 = Value.int IntKind.i64 i119 ∧
 Keeps w115 w118 [w.heap.size, w91.heap.size] ∧
 BytesAt w118 (cutA (cutA p0 c0 p1.toNat (1 : Nat)) (c0 - p1.toNat) (18 : Nat) (1 : Nat))
 s89 ∧
 w118.cell? (a86.add (4 : Nat)) = some (Value.int IntKind.u8 i87) ∧
 Wr IntKind.u32 i119 fun (i120 : Int) =>
 Known
 (((((w118.setCell { block := w91.heap.size, off := (0 : Nat) }
 (Value.int IntKind.i64 i88)).setCell
 {block := w91.heap.size, off := (1 : Nat) }
 (Value.string s89)).setCell
 {block := w91.heap.size, off := (2 : Nat) }
 (Value.int IntKind.i64 i92)).setCell
 {block := w91.heap.size, off := (3 : Nat) }
 (Value.int IntKind.i64 i116)).setCell
 {block := w91.heap.size, off := (4 : Nat) } (Value.int IntKind.u32 i120))
 [(w.heap.size,
 [((0 : Nat), Value.int IntKind.i64 (0 : Int)),
 ((1 : Nat), Value.string { data := #[] }),
 ((2 : Nat), Value.int IntKind.i64 (0 : Int)),
 ((3 : Nat), Value.int IntKind.i64 (0 : Int)),
 ((4 : Nat), Value.int IntKind.u32 (0 : Int))]),
 (w91.heap.size,
 [((0 : Nat), Value.int IntKind.i64 i88), ((1 : Nat), Value.string s89),
 ((2 : Nat), Value.int IntKind.i64 i92),
 ((3 : Nat), Value.int IntKind.i64 i116),
 ((4 : Nat), Value.int IntKind.u32 i120)])] →
 Rets Tryd.prog (50 : Nat)
 #[Value.agg
 #[Value.int IntKind.i64 i88, Value.string s89, Value.int IntKind.i64 i92,
 Value.int IntKind.i64 i116, Value.int IntKind.u32 i120]]
 (((((w118.setCell { block := w91.heap.size, off := (0 : Nat) }
 (Value.int IntKind.i64 i88)).setCell
 {block := w91.heap.size, off := (1 : Nat) }
 (Value.string s89)).setCell
 {block := w91.heap.size, off := (2 : Nat) }
 (Value.int IntKind.i64 i92)).setCell
 {block := w91.heap.size, off := (3 : Nat) }
 (Value.int IntKind.i64 i116)).setCell
 {block := w91.heap.size, off := (4 : Nat) } (Value.int IntKind.u32 i120))
 fun (v121 : Value) (w122 : World) =>
 ∃ (t123 : Bool),
 v121 = Value.bool t123 ∧
 Keeps
 (((((w118.setCell { block := w91.heap.size, off := (0 : Nat) }
 (Value.int IntKind.i64 i88)).setCell
 {block := w91.heap.size, off := (1 : Nat) }
 (Value.string s89)).setCell
 {block := w91.heap.size, off := (2 : Nat) }
 (Value.int IntKind.i64 i92)).setCell
 {block := w91.heap.size, off := (3 : Nat) }
 (Value.int IntKind.i64 i116)).setCell
 {block := w91.heap.size, off := (4 : Nat) }
 (Value.int IntKind.u32 i120))
 w122 [w.heap.size, w91.heap.size] ∧
 bif !t123 then
 Known
 (((((w122.setCell { block := w.heap.size, off := (0 : Nat) }
 (Value.int IntKind.i64 (0 : Int))).setCell
 {block := w.heap.size, off := (1 : Nat) }
 (Value.string { data := #[] })).setCell
 {block := w.heap.size, off := (2 : Nat) }
 (Value.int IntKind.i64 (0 : Int))).setCell
 {block := w.heap.size, off := (3 : Nat) }
 (Value.int IntKind.i64 (0 : Int))).setCell
 {block := w.heap.size, off := (4 : Nat) }
 (Value.int IntKind.u32 (0 : Int)))
 [(w.heap.size,
 [((0 : Nat), Value.int IntKind.i64 (0 : Int)),
 ((1 : Nat), Value.string { data := #[] }),
 ((2 : Nat), Value.int IntKind.i64 (0 : Int)),
 ((3 : Nat), Value.int IntKind.i64 (0 : Int)),
 ((4 : Nat), Value.int IntKind.u32 (0 : Int))]),
 (w91.heap.size,
 [((0 : Nat), Value.int IntKind.i64 i88),
 ((1 : Nat), Value.string s89),
 ((2 : Nat), Value.int IntKind.i64 i92),
 ((3 : Nat), Value.int IntKind.i64 i116),
 ((4 : Nat), Value.int IntKind.u32 i120)])] →
 R
 (Ending.returned
 (Value.tuple
 #[Value.agg
 #[Value.int IntKind.i64 (0 : Int),
 Value.string { data := #[] },
 Value.int IntKind.i64 (0 : Int),
 Value.int IntKind.i64 (0 : Int),
 Value.int IntKind.u32 (0 : Int)],
 Value.int IntKind.i64 (0 : Int),
 Value.int IntKind.i64 (3 : Int)]))
 (((((w122.setCell { block := w.heap.size, off := (0 : Nat) }
 (Value.int IntKind.i64 (0 : Int))).setCell
 {block := w.heap.size, off := (1 : Nat) }
 (Value.string { data := #[] })).setCell
 {block := w.heap.size, off := (2 : Nat) }
 (Value.int IntKind.i64 (0 : Int))).setCell
 {block := w.heap.size, off := (3 : Nat) }
 (Value.int IntKind.i64 (0 : Int))).setCell
 {block := w.heap.size, off := (4 : Nat) }
 (Value.int IntKind.u32 (0 : Int)))
 else
 Wr IntKind.i64 (p1 + i78) fun (i124 : Int) =>
 Wr IntKind.i64 (i124 + (4 : Int)) fun (i125 : Int) =>
 Known
 (((((w122.setCell { block := w.heap.size, off := (0 : Nat) }
 (Value.int IntKind.i64 i88)).setCell
 {block := w.heap.size, off := (1 : Nat) }
 (Value.string s89)).setCell
 {block := w.heap.size, off := (2 : Nat) }
 (Value.int IntKind.i64 i92)).setCell
 {block := w.heap.size, off := (3 : Nat) }
 (Value.int IntKind.i64 i116)).setCell
 {block := w.heap.size, off := (4 : Nat) }
 (Value.int IntKind.u32 i120))
 [(w.heap.size,
 [((0 : Nat), Value.int IntKind.i64 i88),
 ((1 : Nat), Value.string s89),
 ((2 : Nat), Value.int IntKind.i64 i92),
 ((3 : Nat), Value.int IntKind.i64 i116),
 ((4 : Nat), Value.int IntKind.u32 i120)]),
 (w91.heap.size,
 [((0 : Nat), Value.int IntKind.i64 i88),
 ((1 : Nat), Value.string s89),
 ((2 : Nat), Value.int IntKind.i64 i92),
 ((3 : Nat), Value.int IntKind.i64 i116),
 ((4 : Nat), Value.int IntKind.u32 i120)])] →
 R
 (Ending.returned
 (Value.tuple
 #[Value.agg
 #[Value.int IntKind.i64 i88, Value.string s89,
 Value.int IntKind.i64 i92, Value.int IntKind.i64 i116,
 Value.int IntKind.u32 i120],
 Value.int IntKind.i64 i125,
 Value.int IntKind.i64 (0 : Int)]))
 (((((w122.setCell { block := w.heap.size, off := (0 : Nat) }
 (Value.int IntKind.i64 i88)).setCell
 {block := w.heap.size, off := (1 : Nat) }
 (Value.string s89)).setCell
 {block := w.heap.size, off := (2 : Nat) }
 (Value.int IntKind.i64 i92)).setCell
 {block := w.heap.size, off := (3 : Nat) }
 (Value.int IntKind.i64 i116)).setCell
 {block := w.heap.size, off := (4 : Nat) }
 (Value.int IntKind.u32 i120))))) ∧
 BytesAt
 (w83.drew.alloc
 (Obj.cells
 #[Value.int IntKind.i64 (0 : Int), Value.string { data := #[] }, Value.int IntKind.i64 (0 : Int),
 Value.int IntKind.i64 (0 : Int), Value.int IntKind.u32 (0 : Int)]
 (57 : Nat)))
 (cutA (cutA p0 c0 p1.toNat (1 : Nat)) (c0 - p1.toNat) (18 : Nat) (1 : Nat)) s89 ∧
 (w83.drew.alloc
 (Obj.cells
 #[Value.int IntKind.i64 (0 : Int), Value.string { data := #[] }, Value.int IntKind.i64 (0 : Int),
 Value.int IntKind.i64 (0 : Int), Value.int IntKind.u32 (0 : Int)]
 (57 : Nat))).cell?
 (a86.add (4 : Nat)) =
 some (Value.int IntKind.u8 i87) ∧
 (Known
 (w83.drew.alloc
 (Obj.cells
 #[Value.int IntKind.i64 (0 : Int), Value.string { data := #[] }, Value.int IntKind.i64 (0 : Int),
 Value.int IntKind.i64 (0 : Int), Value.int IntKind.u32 (0 : Int)]
 (57 : Nat)))
 [(w.heap.size,
 [((0 : Nat), Value.int IntKind.i64 (0 : Int)), ((1 : Nat), Value.string { data := #[] }),
 ((2 : Nat), Value.int IntKind.i64 (0 : Int)), ((3 : Nat), Value.int IntKind.i64 (0 : Int)),
 ((4 : Nat), Value.int IntKind.u32 (0 : Int))]),
 (w83.drew.heap.size,
 [((0 : Nat), Value.int IntKind.i64 (0 : Int)), ((1 : Nat), Value.string { data := #[] }),
 ((2 : Nat), Value.int IntKind.i64 (0 : Int)), ((3 : Nat), Value.int IntKind.i64 (0 : Int)),
 ((4 : Nat), Value.int IntKind.u32 (0 : Int))])] →
 Rets Tryd.prog (114 : Nat)
 #[Value.slice (cutA p0 c0 p1.toNat (1 : Nat)) (n0 - p1.toNat) (c0 - p1.toNat), Value.int IntKind.i64 (6 : Int),
 Value.int IntKind.i64 (4 : Int)]
 (w83.drew.alloc
 (Obj.cells
 #[Value.int IntKind.i64 (0 : Int), Value.string { data := #[] }, Value.int IntKind.i64 (0 : Int),
 Value.int IntKind.i64 (0 : Int), Value.int IntKind.u32 (0 : Int)]
 (57 : Nat)))
 fun (v126 : Value) (w127 : World) =>
 ∃ (i128 : Int),
 v126 = Value.int IntKind.i64 i128 ∧
 Keeps
 (w83.drew.alloc
 (Obj.cells
 #[Value.int IntKind.i64 (0 : Int), Value.string { data := #[] }, Value.int IntKind.i64 (0 : Int),
 Value.int IntKind.i64 (0 : Int), Value.int IntKind.u32 (0 : Int)]
 (57 : Nat)))
 w127 [w.heap.size, w83.drew.heap.size] ∧
 BytesAt w127 (cutA (cutA p0 c0 p1.toNat (1 : Nat)) (c0 - p1.toNat) (18 : Nat) (1 : Nat)) s89 ∧
 w127.cell? (a86.add (4 : Nat)) = some (Value.int IntKind.u8 i87) ∧
 (Known w127
 [(w.heap.size,
 [((0 : Nat), Value.int IntKind.i64 (0 : Int)), ((1 : Nat), Value.string { data := #[] }),
 ((2 : Nat), Value.int IntKind.i64 (0 : Int)), ((3 : Nat), Value.int IntKind.i64 (0 : Int)),
 ((4 : Nat), Value.int IntKind.u32 (0 : Int))]),
 (w83.drew.heap.size,
 [((0 : Nat), Value.int IntKind.i64 (0 : Int)), ((1 : Nat), Value.string { data := #[] }),
 ((2 : Nat), Value.int IntKind.i64 (0 : Int)), ((3 : Nat), Value.int IntKind.i64 (0 : Int)),
 ((4 : Nat), Value.int IntKind.u32 (0 : Int))])] →
 Rets Tryd.prog (114 : Nat)
 #[Value.slice (cutA p0 c0 p1.toNat (1 : Nat)) (n0 - p1.toNat) (c0 - p1.toNat), Value.int IntKind.i64 (10 : Int),
 Value.int IntKind.i64 (4 : Int)]
 w127 fun (v129 : Value) (w130 : World) =>
 ∃ (i131 : Int),
 v129 = Value.int IntKind.i64 i131 ∧
 Keeps w127 w130 [w.heap.size, w83.drew.heap.size] ∧
 BytesAt w130 (cutA (cutA p0 c0 p1.toNat (1 : Nat)) (c0 - p1.toNat) (18 : Nat) (1 : Nat)) s89 ∧
 w130.cell? (a86.add (4 : Nat)) = some (Value.int IntKind.u8 i87) ∧
 (Known w130
 [(w.heap.size,
 [((0 : Nat), Value.int IntKind.i64 (0 : Int)), ((1 : Nat), Value.string { data := #[] }),
 ((2 : Nat), Value.int IntKind.i64 (0 : Int)), ((3 : Nat), Value.int IntKind.i64 (0 : Int)),
 ((4 : Nat), Value.int IntKind.u32 (0 : Int))]),
 (w83.drew.heap.size,
 [((0 : Nat), Value.int IntKind.i64 (0 : Int)), ((1 : Nat), Value.string { data := #[] }),
 ((2 : Nat), Value.int IntKind.i64 (0 : Int)), ((3 : Nat), Value.int IntKind.i64 (0 : Int)),
 ((4 : Nat), Value.int IntKind.u32 (0 : Int))])] →
 Rets Tryd.prog (114 : Nat)
 #[Value.slice (cutA p0 c0 p1.toNat (1 : Nat)) (n0 - p1.toNat) (c0 - p1.toNat),
 Value.int IntKind.i64 (14 : Int), Value.int IntKind.i64 (4 : Int)]
 w130 fun (v132 : Value) (w133 : World) =>
 ∃ (i134 : Int),
 v132 = Value.int IntKind.i64 i134 ∧
 Keeps w130 w133 [w.heap.size, w83.drew.heap.size] ∧
 BytesAt w133 (cutA (cutA p0 c0 p1.toNat (1 : Nat)) (c0 - p1.toNat) (18 : Nat) (1 : Nat)) s89 ∧
 w133.cell? (a86.add (4 : Nat)) = some (Value.int IntKind.u8 i87) ∧
 Wr IntKind.u32 i134 fun (i135 : Int) =>
 Known
 (((((w133.setCell { block := w83.drew.heap.size, off := (0 : Nat) }
 (Value.int IntKind.i64 i88)).setCell
 {block := w83.drew.heap.size, off := (1 : Nat) }
 (Value.string s89)).setCell
 {block := w83.drew.heap.size, off := (2 : Nat) }
 (Value.int IntKind.i64 i128)).setCell
 {block := w83.drew.heap.size, off := (3 : Nat) }
 (Value.int IntKind.i64 i131)).setCell
 {block := w83.drew.heap.size, off := (4 : Nat) } (Value.int IntKind.u32 i135))
 [(w.heap.size,
 [((0 : Nat), Value.int IntKind.i64 (0 : Int)),
 ((1 : Nat), Value.string { data := #[] }),
 ((2 : Nat), Value.int IntKind.i64 (0 : Int)),
 ((3 : Nat), Value.int IntKind.i64 (0 : Int)),
 ((4 : Nat), Value.int IntKind.u32 (0 : Int))]),
 (w83.drew.heap.size,
 [((0 : Nat), Value.int IntKind.i64 i88), ((1 : Nat), Value.string s89),
 ((2 : Nat), Value.int IntKind.i64 i128),
 ((3 : Nat), Value.int IntKind.i64 i131),
 ((4 : Nat), Value.int IntKind.u32 i135)])] →
 Rets Tryd.prog (50 : Nat)
 #[Value.agg
 #[Value.int IntKind.i64 i88, Value.string s89, Value.int IntKind.i64 i128,
 Value.int IntKind.i64 i131, Value.int IntKind.u32 i135]]
 (((((w133.setCell { block := w83.drew.heap.size, off := (0 : Nat) }
 (Value.int IntKind.i64 i88)).setCell
 {block := w83.drew.heap.size, off := (1 : Nat) }
 (Value.string s89)).setCell
 {block := w83.drew.heap.size, off := (2 : Nat) }
 (Value.int IntKind.i64 i128)).setCell
 {block := w83.drew.heap.size, off := (3 : Nat) }
 (Value.int IntKind.i64 i131)).setCell
 {block := w83.drew.heap.size, off := (4 : Nat) } (Value.int IntKind.u32 i135))
 fun (v136 : Value) (w137 : World) =>
 ∃ (t138 : Bool),
 v136 = Value.bool t138 ∧
 Keeps
 (((((w133.setCell { block := w83.drew.heap.size, off := (0 : Nat) }
 (Value.int IntKind.i64 i88)).setCell
 {block := w83.drew.heap.size, off := (1 : Nat) }
 (Value.string s89)).setCell
 {block := w83.drew.heap.size, off := (2 : Nat) }
 (Value.int IntKind.i64 i128)).setCell
 {block := w83.drew.heap.size, off := (3 : Nat) }
 (Value.int IntKind.i64 i131)).setCell
 {block := w83.drew.heap.size, off := (4 : Nat) }
 (Value.int IntKind.u32 i135))
 w137 [w.heap.size, w83.drew.heap.size] ∧
 bif !t138 then
 Known
 (((((w137.setCell { block := w.heap.size, off := (0 : Nat) }
 (Value.int IntKind.i64 (0 : Int))).setCell
 {block := w.heap.size, off := (1 : Nat) }
 (Value.string { data := #[] })).setCell
 {block := w.heap.size, off := (2 : Nat) }
 (Value.int IntKind.i64 (0 : Int))).setCell
 {block := w.heap.size, off := (3 : Nat) }
 (Value.int IntKind.i64 (0 : Int))).setCell
 {block := w.heap.size, off := (4 : Nat) }
 (Value.int IntKind.u32 (0 : Int)))
 [(w.heap.size,
 [((0 : Nat), Value.int IntKind.i64 (0 : Int)),
 ((1 : Nat), Value.string { data := #[] }),
 ((2 : Nat), Value.int IntKind.i64 (0 : Int)),
 ((3 : Nat), Value.int IntKind.i64 (0 : Int)),
 ((4 : Nat), Value.int IntKind.u32 (0 : Int))]),
 (w83.drew.heap.size,
 [((0 : Nat), Value.int IntKind.i64 i88),
 ((1 : Nat), Value.string s89),
 ((2 : Nat), Value.int IntKind.i64 i128),
 ((3 : Nat), Value.int IntKind.i64 i131),
 ((4 : Nat), Value.int IntKind.u32 i135)])] →
 R
 (Ending.returned
 (Value.tuple
 #[Value.agg
 #[Value.int IntKind.i64 (0 : Int), Value.string { data := #[] },
 Value.int IntKind.i64 (0 : Int),
 Value.int IntKind.i64 (0 : Int),
 Value.int IntKind.u32 (0 : Int)],
 Value.int IntKind.i64 (0 : Int),
 Value.int IntKind.i64 (3 : Int)]))
 (((((w137.setCell { block := w.heap.size, off := (0 : Nat) }
 (Value.int IntKind.i64 (0 : Int))).setCell
 {block := w.heap.size, off := (1 : Nat) }
 (Value.string { data := #[] })).setCell
 {block := w.heap.size, off := (2 : Nat) }
 (Value.int IntKind.i64 (0 : Int))).setCell
 {block := w.heap.size, off := (3 : Nat) }
 (Value.int IntKind.i64 (0 : Int))).setCell
 {block := w.heap.size, off := (4 : Nat) }
 (Value.int IntKind.u32 (0 : Int)))
 else
 Wr IntKind.i64 (p1 + i78) fun (i139 : Int) =>
 Wr IntKind.i64 (i139 + (4 : Int)) fun (i140 : Int) =>
 Known
 (((((w137.setCell { block := w.heap.size, off := (0 : Nat) }
 (Value.int IntKind.i64 i88)).setCell
 {block := w.heap.size, off := (1 : Nat) }
 (Value.string s89)).setCell
 {block := w.heap.size, off := (2 : Nat) }
 (Value.int IntKind.i64 i128)).setCell
 {block := w.heap.size, off := (3 : Nat) }
 (Value.int IntKind.i64 i131)).setCell
 {block := w.heap.size, off := (4 : Nat) }
 (Value.int IntKind.u32 i135))
 [(w.heap.size,
 [((0 : Nat), Value.int IntKind.i64 i88),
 ((1 : Nat), Value.string s89),
 ((2 : Nat), Value.int IntKind.i64 i128),
 ((3 : Nat), Value.int IntKind.i64 i131),
 ((4 : Nat), Value.int IntKind.u32 i135)]),
 (w83.drew.heap.size,
 [((0 : Nat), Value.int IntKind.i64 i88),
 ((1 : Nat), Value.string s89),
 ((2 : Nat), Value.int IntKind.i64 i128),
 ((3 : Nat), Value.int IntKind.i64 i131),
 ((4 : Nat), Value.int IntKind.u32 i135)])] →
 R
 (Ending.returned
 (Value.tuple
 #[Value.agg
 #[Value.int IntKind.i64 i88, Value.string s89,
 Value.int IntKind.i64 i128, Value.int IntKind.i64 i131,
 Value.int IntKind.u32 i135],
 Value.int IntKind.i64 i140, Value.int IntKind.i64 (0 : Int)]))
 (((((w137.setCell { block := w.heap.size, off := (0 : Nat) }
 (Value.int IntKind.i64 i88)).setCell
 {block := w.heap.size, off := (1 : Nat) }
 (Value.string s89)).setCell
 {block := w.heap.size, off := (2 : Nat) }
 (Value.int IntKind.i64 i128)).setCell
 {block := w.heap.size, off := (3 : Nat) }
 (Value.int IntKind.i64 i131)).setCell
 {block := w.heap.size, off := (4 : Nat) }
 (Value.int IntKind.u32 i135)))))))
theorem vcTryd55 (p0 : Option Addr) (n0 c0 : Nat) (p1 : Int) (w : World) (R : Ending → World → Prop) : SX.vcFn Tryd.prog [] Tryd.f55 [.v (.slice p0 n0 c0), .v (.int .i64 p1)] [] w R = VCTryd55 p0 n0 c0 p1 w R := by kernel_rfl
end Go.Proofs.YtbpknjldphckgaaDoor
