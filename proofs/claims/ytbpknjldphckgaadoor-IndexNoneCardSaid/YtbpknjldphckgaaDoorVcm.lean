/- The conditions of functions, as the executor computes them: each is equal to what 'vcFn' says. -/
import Derived.Test.YtbpknjldphckgaaDoorSxLib
import Derived.Test.YtbpknjldphckgaaDoorProg
namespace Go.Proofs.YtbpknjldphckgaaDoor
open Go Go.SX Go.Proofs
set_option maxRecDepth 100000
set_option linter.unusedVariables false
def VCTryd19 (s : ByteArray) (a f r z u m : Int) (t : ByteArray) (w : World) (R : Ending → World → Prop) : Prop :=
Known (w.alloc (Obj.cells #[Value.string s, Value.int IntKind.i64 a, Value.int IntKind.i64 f, Value.int IntKind.i64 r, Value.int IntKind.i64 z, Value.int IntKind.u32 u, Value.int IntKind.i64 m] (50 : Nat)))
 [(w.heap.size,
 [((0 : Nat), Value.string s), ((1 : Nat), Value.int IntKind.i64 a), ((2 : Nat), Value.int IntKind.i64 f), ((3 : Nat), Value.int IntKind.i64 r), ((4 : Nat), Value.int IntKind.i64 z),
 ((5 : Nat), Value.int IntKind.u32 u), ((6 : Nat), Value.int IntKind.i64 m)])] →
 Rets Tryd.prog (73 : Nat) #[Value.pointer none, Value.string t]
 (w.alloc (Obj.cells #[Value.string s, Value.int IntKind.i64 a, Value.int IntKind.i64 f, Value.int IntKind.i64 r, Value.int IntKind.i64 z, Value.int IntKind.u32 u, Value.int IntKind.i64 m] (50 : Nat)))
 fun (v0 : Value) (w1 : World) =>
 ∃ (s2 : ByteArray),
 ∃ (i3 : Int),
 ∃ (i4 : Int),
 ∃ (i5 : Int),
 ∃ (i6 : Int),
 ∃ (i7 : Int),
 ∃ (i8 : Int),
 ∃ (t9 : Bool),
 v0 =
 Value.tuple
 #[Value.agg #[Value.string s2, Value.int IntKind.i64 i3, Value.int IntKind.i64 i4, Value.int IntKind.i64 i5, Value.int IntKind.i64 i6, Value.int IntKind.u32 i7, Value.int IntKind.i64 i8],
 Value.bool t9] ∧
 Keeps
 (w.alloc
 (Obj.cells #[Value.string s, Value.int IntKind.i64 a, Value.int IntKind.i64 f, Value.int IntKind.i64 r, Value.int IntKind.i64 z, Value.int IntKind.u32 u, Value.int IntKind.i64 m] (50 : Nat)))
 w1 [w.heap.size] ∧
 bif t9 then
 Known
 ((((((((w1.alloc
 (Obj.cells
 #[Value.string { data := #[] }, Value.int IntKind.i64 (0 : Int), Value.int IntKind.i64 (0 : Int), Value.int IntKind.i64 (0 : Int),
 Value.int IntKind.i64 (0 : Int), Value.int IntKind.u32 (0 : Int), Value.int IntKind.i64 (0 : Int)]
 (50 : Nat))).setCell
 {block := w1.heap.size, off := (0 : Nat) } (Value.string s2)).setCell
 {block := w1.heap.size, off := (1 : Nat) } (Value.int IntKind.i64 i3)).setCell
 {block := w1.heap.size, off := (2 : Nat) } (Value.int IntKind.i64 i4)).setCell
 {block := w1.heap.size, off := (3 : Nat) } (Value.int IntKind.i64 i5)).setCell
 {block := w1.heap.size, off := (4 : Nat) } (Value.int IntKind.i64 i6)).setCell
 {block := w1.heap.size, off := (5 : Nat) } (Value.int IntKind.u32 i7)).setCell
 {block := w1.heap.size, off := (6 : Nat) } (Value.int IntKind.i64 i8))
 [(w.heap.size,
 [((0 : Nat), Value.string s), ((1 : Nat), Value.int IntKind.i64 a), ((2 : Nat), Value.int IntKind.i64 f), ((3 : Nat), Value.int IntKind.i64 r), ((4 : Nat), Value.int IntKind.i64 z),
 ((5 : Nat), Value.int IntKind.u32 u), ((6 : Nat), Value.int IntKind.i64 m)]),
 (w1.heap.size,
 [((0 : Nat), Value.string s2), ((1 : Nat), Value.int IntKind.i64 i3), ((2 : Nat), Value.int IntKind.i64 i4), ((3 : Nat), Value.int IntKind.i64 i5), ((4 : Nat), Value.int IntKind.i64 i6),
 ((5 : Nat), Value.int IntKind.u32 i7), ((6 : Nat), Value.int IntKind.i64 i8)])] →
 R (Ending.returned (Value.bool false))
 ((((((((w1.alloc
 (Obj.cells
 #[Value.string { data := #[] }, Value.int IntKind.i64 (0 : Int), Value.int IntKind.i64 (0 : Int), Value.int IntKind.i64 (0 : Int),
 Value.int IntKind.i64 (0 : Int), Value.int IntKind.u32 (0 : Int), Value.int IntKind.i64 (0 : Int)]
 (50 : Nat))).setCell
 {block := w1.heap.size, off := (0 : Nat) } (Value.string s2)).setCell
 {block := w1.heap.size, off := (1 : Nat) } (Value.int IntKind.i64 i3)).setCell
 {block := w1.heap.size, off := (2 : Nat) } (Value.int IntKind.i64 i4)).setCell
 {block := w1.heap.size, off := (3 : Nat) } (Value.int IntKind.i64 i5)).setCell
 {block := w1.heap.size, off := (4 : Nat) } (Value.int IntKind.i64 i6)).setCell
 {block := w1.heap.size, off := (5 : Nat) } (Value.int IntKind.u32 i7)).setCell
 {block := w1.heap.size, off := (6 : Nat) } (Value.int IntKind.i64 i8))
 else
 Known
 ((((((((w1.alloc
 (Obj.cells
 #[Value.string { data := #[] }, Value.int IntKind.i64 (0 : Int), Value.int IntKind.i64 (0 : Int), Value.int IntKind.i64 (0 : Int),
 Value.int IntKind.i64 (0 : Int), Value.int IntKind.u32 (0 : Int), Value.int IntKind.i64 (0 : Int)]
 (50 : Nat))).setCell
 {block := w1.heap.size, off := (0 : Nat) } (Value.string s2)).setCell
 {block := w1.heap.size, off := (1 : Nat) } (Value.int IntKind.i64 i3)).setCell
 {block := w1.heap.size, off := (2 : Nat) } (Value.int IntKind.i64 i4)).setCell
 {block := w1.heap.size, off := (3 : Nat) } (Value.int IntKind.i64 i5)).setCell
 {block := w1.heap.size, off := (4 : Nat) } (Value.int IntKind.i64 i6)).setCell
 {block := w1.heap.size, off := (5 : Nat) } (Value.int IntKind.u32 i7)).setCell
 {block := w1.heap.size, off := (6 : Nat) } (Value.int IntKind.i64 i8))
 [(w.heap.size,
 [((0 : Nat), Value.string s), ((1 : Nat), Value.int IntKind.i64 a), ((2 : Nat), Value.int IntKind.i64 f), ((3 : Nat), Value.int IntKind.i64 r), ((4 : Nat), Value.int IntKind.i64 z),
 ((5 : Nat), Value.int IntKind.u32 u), ((6 : Nat), Value.int IntKind.i64 m)]),
 (w1.heap.size,
 [((0 : Nat), Value.string s2), ((1 : Nat), Value.int IntKind.i64 i3), ((2 : Nat), Value.int IntKind.i64 i4), ((3 : Nat), Value.int IntKind.i64 i5), ((4 : Nat), Value.int IntKind.i64 i6),
 ((5 : Nat), Value.int IntKind.u32 i7), ((6 : Nat), Value.int IntKind.i64 i8)])] →
 Rets Tryd.prog (69 : Nat) #[Value.pointer none]
 ((((((((w1.alloc
 (Obj.cells
 #[Value.string { data := #[] }, Value.int IntKind.i64 (0 : Int), Value.int IntKind.i64 (0 : Int), Value.int IntKind.i64 (0 : Int),
 Value.int IntKind.i64 (0 : Int), Value.int IntKind.u32 (0 : Int), Value.int IntKind.i64 (0 : Int)]
 (50 : Nat))).setCell
 {block := w1.heap.size, off := (0 : Nat) } (Value.string s2)).setCell
 {block := w1.heap.size, off := (1 : Nat) } (Value.int IntKind.i64 i3)).setCell
 {block := w1.heap.size, off := (2 : Nat) } (Value.int IntKind.i64 i4)).setCell
 {block := w1.heap.size, off := (3 : Nat) } (Value.int IntKind.i64 i5)).setCell
 {block := w1.heap.size, off := (4 : Nat) } (Value.int IntKind.i64 i6)).setCell
 {block := w1.heap.size, off := (5 : Nat) } (Value.int IntKind.u32 i7)).setCell
 {block := w1.heap.size, off := (6 : Nat) } (Value.int IntKind.i64 i8))
 fun (v10 : Value) (w11 : World) =>
 ∃ (i12 : Int),
 v10 = Value.int IntKind.i64 i12 ∧
 Keeps
 ((((((((w1.alloc
 (Obj.cells
 #[Value.string { data := #[] }, Value.int IntKind.i64 (0 : Int), Value.int IntKind.i64 (0 : Int), Value.int IntKind.i64 (0 : Int),
 Value.int IntKind.i64 (0 : Int), Value.int IntKind.u32 (0 : Int), Value.int IntKind.i64 (0 : Int)]
 (50 : Nat))).setCell
 {block := w1.heap.size, off := (0 : Nat) } (Value.string s2)).setCell
 {block := w1.heap.size, off := (1 : Nat) } (Value.int IntKind.i64 i3)).setCell
 {block := w1.heap.size, off := (2 : Nat) } (Value.int IntKind.i64 i4)).setCell
 {block := w1.heap.size, off := (3 : Nat) } (Value.int IntKind.i64 i5)).setCell
 {block := w1.heap.size, off := (4 : Nat) } (Value.int IntKind.i64 i6)).setCell
 {block := w1.heap.size, off := (5 : Nat) } (Value.int IntKind.u32 i7)).setCell
 {block := w1.heap.size, off := (6 : Nat) } (Value.int IntKind.i64 i8))
 w11 [w.heap.size, w1.heap.size] ∧
 bif i12 != (0 : Int) then
 Known w11
 [(w.heap.size,
 [((0 : Nat), Value.string s), ((1 : Nat), Value.int IntKind.i64 a), ((2 : Nat), Value.int IntKind.i64 f), ((3 : Nat), Value.int IntKind.i64 r),
 ((4 : Nat), Value.int IntKind.i64 z), ((5 : Nat), Value.int IntKind.u32 u), ((6 : Nat), Value.int IntKind.i64 m)]),
 (w1.heap.size,
 [((0 : Nat), Value.string s2), ((1 : Nat), Value.int IntKind.i64 i3), ((2 : Nat), Value.int IntKind.i64 i4), ((3 : Nat), Value.int IntKind.i64 i5),
 ((4 : Nat), Value.int IntKind.i64 i6), ((5 : Nat), Value.int IntKind.u32 i7), ((6 : Nat), Value.int IntKind.i64 i8)])] →
 R (Ending.returned (Value.bool false)) w11
 else
 Known w11
 [(w.heap.size,
 [((0 : Nat), Value.string s), ((1 : Nat), Value.int IntKind.i64 a), ((2 : Nat), Value.int IntKind.i64 f), ((3 : Nat), Value.int IntKind.i64 r),
 ((4 : Nat), Value.int IntKind.i64 z), ((5 : Nat), Value.int IntKind.u32 u), ((6 : Nat), Value.int IntKind.i64 m)]),
 (w1.heap.size,
 [((0 : Nat), Value.string s2), ((1 : Nat), Value.int IntKind.i64 i3), ((2 : Nat), Value.int IntKind.i64 i4), ((3 : Nat), Value.int IntKind.i64 i5),
 ((4 : Nat), Value.int IntKind.i64 i6), ((5 : Nat), Value.int IntKind.u32 i7), ((6 : Nat), Value.int IntKind.i64 i8)])] →
 Rets Tryd.prog (74 : Nat)
 #[Value.pointer none,
 Value.agg
 #[Value.string s, Value.int IntKind.i64 a, Value.int IntKind.i64 f, Value.int IntKind.i64 r, Value.int IntKind.i64 z, Value.int IntKind.u32 u, Value.int IntKind.i64 m]]
 w11 fun (v13 : Value) (w14 : World) =>
 ∃ (i15 : Int),
 v13 = Value.int IntKind.i64 i15 ∧
 Keeps w11 w14 [w.heap.size, w1.heap.size] ∧
 bif i15 != (1 : Int) then
 Known w14
 [(w.heap.size,
 [((0 : Nat), Value.string s), ((1 : Nat), Value.int IntKind.i64 a), ((2 : Nat), Value.int IntKind.i64 f), ((3 : Nat), Value.int IntKind.i64 r),
 ((4 : Nat), Value.int IntKind.i64 z), ((5 : Nat), Value.int IntKind.u32 u), ((6 : Nat), Value.int IntKind.i64 m)]),
 (w1.heap.size,
 [((0 : Nat), Value.string s2), ((1 : Nat), Value.int IntKind.i64 i3), ((2 : Nat), Value.int IntKind.i64 i4), ((3 : Nat), Value.int IntKind.i64 i5),
 ((4 : Nat), Value.int IntKind.i64 i6), ((5 : Nat), Value.int IntKind.u32 i7), ((6 : Nat), Value.int IntKind.i64 i8)])] →
 R (Ending.returned (Value.bool false)) w14
 else
 Known w14
 [(w.heap.size,
 [((0 : Nat), Value.string s), ((1 : Nat), Value.int IntKind.i64 a), ((2 : Nat), Value.int IntKind.i64 f), ((3 : Nat), Value.int IntKind.i64 r),
 ((4 : Nat), Value.int IntKind.i64 z), ((5 : Nat), Value.int IntKind.u32 u), ((6 : Nat), Value.int IntKind.i64 m)]),
 (w1.heap.size,
 [((0 : Nat), Value.string s2), ((1 : Nat), Value.int IntKind.i64 i3), ((2 : Nat), Value.int IntKind.i64 i4), ((3 : Nat), Value.int IntKind.i64 i5),
 ((4 : Nat), Value.int IntKind.i64 i6), ((5 : Nat), Value.int IntKind.u32 i7), ((6 : Nat), Value.int IntKind.i64 i8)])] →
 Rets Tryd.prog (75 : Nat) #[Value.pointer none, Value.string t] w14 fun (v16 : Value) (w17 : World) =>
 ∃ (t18 : Bool),
 v16 = Value.bool t18 ∧
 Keeps w14 w17 [w.heap.size, w1.heap.size] ∧
 bif t18 then
 Known w17
 [(w.heap.size,
 [((0 : Nat), Value.string s), ((1 : Nat), Value.int IntKind.i64 a), ((2 : Nat), Value.int IntKind.i64 f), ((3 : Nat), Value.int IntKind.i64 r),
 ((4 : Nat), Value.int IntKind.i64 z), ((5 : Nat), Value.int IntKind.u32 u), ((6 : Nat), Value.int IntKind.i64 m)]),
 (w1.heap.size,
 [((0 : Nat), Value.string s2), ((1 : Nat), Value.int IntKind.i64 i3), ((2 : Nat), Value.int IntKind.i64 i4), ((3 : Nat), Value.int IntKind.i64 i5),
 ((4 : Nat), Value.int IntKind.i64 i6), ((5 : Nat), Value.int IntKind.u32 i7), ((6 : Nat), Value.int IntKind.i64 i8)])] →
 R (Ending.returned (Value.bool false)) w17
 else
 Known w17
 [(w.heap.size,
 [((0 : Nat), Value.string s), ((1 : Nat), Value.int IntKind.i64 a), ((2 : Nat), Value.int IntKind.i64 f), ((3 : Nat), Value.int IntKind.i64 r),
 ((4 : Nat), Value.int IntKind.i64 z), ((5 : Nat), Value.int IntKind.u32 u), ((6 : Nat), Value.int IntKind.i64 m)]),
 (w1.heap.size,
 [((0 : Nat), Value.string s2), ((1 : Nat), Value.int IntKind.i64 i3), ((2 : Nat), Value.int IntKind.i64 i4), ((3 : Nat), Value.int IntKind.i64 i5),
 ((4 : Nat), Value.int IntKind.i64 i6), ((5 : Nat), Value.int IntKind.u32 i7), ((6 : Nat), Value.int IntKind.i64 i8)])] →
 Rets Tryd.prog (80 : Nat) #[Value.pointer none, Value.string t] w17 fun (v19 : Value) (w20 : World) =>
 ∃ (t21 : Bool),
 v19 = Value.bool t21 ∧
 Keeps w17 w20 [w.heap.size, w1.heap.size] ∧
 bif t21 then
 Known w20
 [(w.heap.size,
 [((0 : Nat), Value.string s), ((1 : Nat), Value.int IntKind.i64 a), ((2 : Nat), Value.int IntKind.i64 f),
 ((3 : Nat), Value.int IntKind.i64 r), ((4 : Nat), Value.int IntKind.i64 z), ((5 : Nat), Value.int IntKind.u32 u),
 ((6 : Nat), Value.int IntKind.i64 m)]),
 (w1.heap.size,
 [((0 : Nat), Value.string s2), ((1 : Nat), Value.int IntKind.i64 i3), ((2 : Nat), Value.int IntKind.i64 i4),
 ((3 : Nat), Value.int IntKind.i64 i5), ((4 : Nat), Value.int IntKind.i64 i6), ((5 : Nat), Value.int IntKind.u32 i7),
 ((6 : Nat), Value.int IntKind.i64 i8)])] →
 R (Ending.returned (Value.bool false)) w20
 else
 Known w20
 [(w.heap.size,
 [((0 : Nat), Value.string s), ((1 : Nat), Value.int IntKind.i64 a), ((2 : Nat), Value.int IntKind.i64 f),
 ((3 : Nat), Value.int IntKind.i64 r), ((4 : Nat), Value.int IntKind.i64 z), ((5 : Nat), Value.int IntKind.u32 u),
 ((6 : Nat), Value.int IntKind.i64 m)]),
 (w1.heap.size,
 [((0 : Nat), Value.string s2), ((1 : Nat), Value.int IntKind.i64 i3), ((2 : Nat), Value.int IntKind.i64 i4),
 ((3 : Nat), Value.int IntKind.i64 i5), ((4 : Nat), Value.int IntKind.i64 i6), ((5 : Nat), Value.int IntKind.u32 i7),
 ((6 : Nat), Value.int IntKind.i64 i8)])] →
 Rets Tryd.prog (70 : Nat) #[Value.pointer none] w20 fun (v22 : Value) (w23 : World) =>
 ∃ (q24 : Option Addr),
 ∃ (n25 : Nat),
 ∃ (n26 : Nat),
 v22 = Value.slice q24 n25 n26 ∧
 Keeps w20 w23 [w.heap.size, w1.heap.size] ∧
 bif (↑n25 : Int) != (0 : Int) then
 Known w23
 [(w.heap.size,
 [((0 : Nat), Value.string s), ((1 : Nat), Value.int IntKind.i64 a), ((2 : Nat), Value.int IntKind.i64 f),
 ((3 : Nat), Value.int IntKind.i64 r), ((4 : Nat), Value.int IntKind.i64 z), ((5 : Nat), Value.int IntKind.u32 u),
 ((6 : Nat), Value.int IntKind.i64 m)]),
 (w1.heap.size,
 [((0 : Nat), Value.string s2), ((1 : Nat), Value.int IntKind.i64 i3), ((2 : Nat), Value.int IntKind.i64 i4),
 ((3 : Nat), Value.int IntKind.i64 i5), ((4 : Nat), Value.int IntKind.i64 i6), ((5 : Nat), Value.int IntKind.u32 i7),
 ((6 : Nat), Value.int IntKind.i64 i8)])] →
 R (Ending.returned (Value.bool false)) w23
 else
 Known w23
 [(w.heap.size,
 [((0 : Nat), Value.string s), ((1 : Nat), Value.int IntKind.i64 a), ((2 : Nat), Value.int IntKind.i64 f),
 ((3 : Nat), Value.int IntKind.i64 r), ((4 : Nat), Value.int IntKind.i64 z), ((5 : Nat), Value.int IntKind.u32 u),
 ((6 : Nat), Value.int IntKind.i64 m)]),
 (w1.heap.size,
 [((0 : Nat), Value.string s2), ((1 : Nat), Value.int IntKind.i64 i3), ((2 : Nat), Value.int IntKind.i64 i4),
 ((3 : Nat), Value.int IntKind.i64 i5), ((4 : Nat), Value.int IntKind.i64 i6), ((5 : Nat), Value.int IntKind.u32 i7),
 ((6 : Nat), Value.int IntKind.i64 i8)])] →
 Rets Tryd.prog (77 : Nat) #[Value.pointer none, Value.string { data := #[] }] w23 fun (v27 : Value) (w28 : World) =>
 ∃ (q29 : Option Addr),
 ∃ (n30 : Nat),
 ∃ (n31 : Nat),
 v27 = Value.slice q29 n30 n31 ∧
 Keeps w23 w28 [w.heap.size, w1.heap.size] ∧
 bif (↑n30 : Int) != (0 : Int) then
 Known w28
 [(w.heap.size,
 [((0 : Nat), Value.string s), ((1 : Nat), Value.int IntKind.i64 a), ((2 : Nat), Value.int IntKind.i64 f),
 ((3 : Nat), Value.int IntKind.i64 r), ((4 : Nat), Value.int IntKind.i64 z),
 ((5 : Nat), Value.int IntKind.u32 u), ((6 : Nat), Value.int IntKind.i64 m)]),
 (w1.heap.size,
 [((0 : Nat), Value.string s2), ((1 : Nat), Value.int IntKind.i64 i3),
 ((2 : Nat), Value.int IntKind.i64 i4), ((3 : Nat), Value.int IntKind.i64 i5),
 ((4 : Nat), Value.int IntKind.i64 i6), ((5 : Nat), Value.int IntKind.u32 i7),
 ((6 : Nat), Value.int IntKind.i64 i8)])] →
 R (Ending.returned (Value.bool false)) w28
 else
 Known w28
 [(w.heap.size,
 [((0 : Nat), Value.string s), ((1 : Nat), Value.int IntKind.i64 a), ((2 : Nat), Value.int IntKind.i64 f),
 ((3 : Nat), Value.int IntKind.i64 r), ((4 : Nat), Value.int IntKind.i64 z),
 ((5 : Nat), Value.int IntKind.u32 u), ((6 : Nat), Value.int IntKind.i64 m)]),
 (w1.heap.size,
 [((0 : Nat), Value.string s2), ((1 : Nat), Value.int IntKind.i64 i3),
 ((2 : Nat), Value.int IntKind.i64 i4), ((3 : Nat), Value.int IntKind.i64 i5),
 ((4 : Nat), Value.int IntKind.i64 i6), ((5 : Nat), Value.int IntKind.u32 i7),
 ((6 : Nat), Value.int IntKind.i64 i8)])] →
 Rets Tryd.prog (71 : Nat) #[Value.pointer none] w28 fun (v32 : Value) (w33 : World) =>
 ∃ (i34 : Int),
 v32 = Value.int IntKind.i64 i34 ∧
 Keeps w28 w33 [w.heap.size, w1.heap.size] ∧
 bif i34 != (0 : Int) then
 Known w33
 [(w.heap.size,
 [((0 : Nat), Value.string s), ((1 : Nat), Value.int IntKind.i64 a),
 ((2 : Nat), Value.int IntKind.i64 f), ((3 : Nat), Value.int IntKind.i64 r),
 ((4 : Nat), Value.int IntKind.i64 z), ((5 : Nat), Value.int IntKind.u32 u),
 ((6 : Nat), Value.int IntKind.i64 m)]),
 (w1.heap.size,
 [((0 : Nat), Value.string s2), ((1 : Nat), Value.int IntKind.i64 i3),
 ((2 : Nat), Value.int IntKind.i64 i4), ((3 : Nat), Value.int IntKind.i64 i5),
 ((4 : Nat), Value.int IntKind.i64 i6), ((5 : Nat), Value.int IntKind.u32 i7),
 ((6 : Nat), Value.int IntKind.i64 i8)])] →
 R (Ending.returned (Value.bool false)) w33
 else
 Known (w33.alloc (Obj.cells #[Value.slice none (0 : Nat) (0 : Nat)] (103 : Nat)))
 [(w.heap.size,
 [((0 : Nat), Value.string s), ((1 : Nat), Value.int IntKind.i64 a),
 ((2 : Nat), Value.int IntKind.i64 f), ((3 : Nat), Value.int IntKind.i64 r),
 ((4 : Nat), Value.int IntKind.i64 z), ((5 : Nat), Value.int IntKind.u32 u),
 ((6 : Nat), Value.int IntKind.i64 m)]),
 (w1.heap.size,
 [((0 : Nat), Value.string s2), ((1 : Nat), Value.int IntKind.i64 i3),
 ((2 : Nat), Value.int IntKind.i64 i4), ((3 : Nat), Value.int IntKind.i64 i5),
 ((4 : Nat), Value.int IntKind.i64 i6), ((5 : Nat), Value.int IntKind.u32 i7),
 ((6 : Nat), Value.int IntKind.i64 i8)]),
 (w33.heap.size, [((0 : Nat), Value.slice none (0 : Nat) (0 : Nat))])] →
 Rets Tryd.prog (73 : Nat)
 #[Value.pointer (some { block := w33.heap.size, off := (0 : Nat) }), Value.string t]
 (w33.alloc (Obj.cells #[Value.slice none (0 : Nat) (0 : Nat)] (103 : Nat)))
 fun (v35 : Value) (w36 : World) =>
 ∃ (s37 : ByteArray),
 ∃ (i38 : Int),
 ∃ (i39 : Int),
 ∃ (i40 : Int),
 ∃ (i41 : Int),
 ∃ (i42 : Int),
 ∃ (i43 : Int),
 ∃ (t44 : Bool),
 v35 =
 Value.tuple
 #[Value.agg
 #[Value.string s37, Value.int IntKind.i64 i38,
 Value.int IntKind.i64 i39, Value.int IntKind.i64 i40,
 Value.int IntKind.i64 i41, Value.int IntKind.u32 i42,
 Value.int IntKind.i64 i43],
 Value.bool t44] ∧
 Keeps
 (w33.alloc (Obj.cells #[Value.slice none (0 : Nat) (0 : Nat)] (103 : Nat)))
 w36 [w.heap.size, w1.heap.size] ∧
 ∃ (q45 : Option Addr),
 ∃ (n46 : Nat),
 ∃ (n47 : Nat),
 w36.cell? { block := w33.heap.size, off := (0 : Nat) } =
 some (Value.slice q45 n46 n47) ∧
 w36.frozen? { block := w33.heap.size, off := (0 : Nat) } = false ∧
 (Known
 ((((((((w36.alloc
 (Obj.cells
 #[Value.string { data := #[] },
 Value.int IntKind.i64
 (0 : Int),
 Value.int IntKind.i64
 (0 : Int),
 Value.int IntKind.i64
 (0 : Int),
 Value.int IntKind.i64
 (0 : Int),
 Value.int IntKind.u32
 (0 : Int),
 Value.int IntKind.i64
 (0 : Int)]
 (50 : Nat))).setCell
 {block := w36.heap.size, off := (0 : Nat) }
 (Value.string s37)).setCell
 {block := w36.heap.size, off := (1 : Nat) }
 (Value.int IntKind.i64 i38)).setCell
 {block := w36.heap.size, off := (2 : Nat) }
 (Value.int IntKind.i64 i39)).setCell
 {block := w36.heap.size, off := (3 : Nat) }
 (Value.int IntKind.i64 i40)).setCell
 {block := w36.heap.size, off := (4 : Nat) }
 (Value.int IntKind.i64 i41)).setCell
 {block := w36.heap.size, off := (5 : Nat) }
 (Value.int IntKind.u32 i42)).setCell
 {block := w36.heap.size, off := (6 : Nat) }
 (Value.int IntKind.i64 i43))
 [(w.heap.size,
 [((0 : Nat), Value.string s),
 ((1 : Nat), Value.int IntKind.i64 a),
 ((2 : Nat), Value.int IntKind.i64 f),
 ((3 : Nat), Value.int IntKind.i64 r),
 ((4 : Nat), Value.int IntKind.i64 z),
 ((5 : Nat), Value.int IntKind.u32 u),
 ((6 : Nat), Value.int IntKind.i64 m)]),
 (w1.heap.size,
 [((0 : Nat), Value.string s2),
 ((1 : Nat), Value.int IntKind.i64 i3),
 ((2 : Nat), Value.int IntKind.i64 i4),
 ((3 : Nat), Value.int IntKind.i64 i5),
 ((4 : Nat), Value.int IntKind.i64 i6),
 ((5 : Nat), Value.int IntKind.u32 i7),
 ((6 : Nat), Value.int IntKind.i64 i8)]),
 (w33.heap.size, [((0 : Nat), Value.slice q45 n46 n47)]),
 (w36.heap.size,
 [((0 : Nat), Value.string s37),
 ((1 : Nat), Value.int IntKind.i64 i38),
 ((2 : Nat), Value.int IntKind.i64 i39),
 ((3 : Nat), Value.int IntKind.i64 i40),
 ((4 : Nat), Value.int IntKind.i64 i41),
 ((5 : Nat), Value.int IntKind.u32 i42),
 ((6 : Nat), Value.int IntKind.i64 i43)])] →
 Rets Tryd.prog (78 : Nat)
 #[Value.pointer
 (some { block := w33.heap.size, off := (0 : Nat) }),
 Value.string { data := #[] }]
 ((((((((w36.alloc
 (Obj.cells
 #[Value.string { data := #[] },
 Value.int IntKind.i64
 (0 : Int),
 Value.int IntKind.i64
 (0 : Int),
 Value.int IntKind.i64
 (0 : Int),
 Value.int IntKind.i64
 (0 : Int),
 Value.int IntKind.u32
 (0 : Int),
 Value.int IntKind.i64
 (0 : Int)]
 (50 : Nat))).setCell
 {block := w36.heap.size, off := (0 : Nat) }
 (Value.string s37)).setCell
 {block := w36.heap.size, off := (1 : Nat) }
 (Value.int IntKind.i64 i38)).setCell
 {block := w36.heap.size, off := (2 : Nat) }
 (Value.int IntKind.i64 i39)).setCell
 {block := w36.heap.size, off := (3 : Nat) }
 (Value.int IntKind.i64 i40)).setCell
 {block := w36.heap.size, off := (4 : Nat) }
 (Value.int IntKind.i64 i41)).setCell
 {block := w36.heap.size, off := (5 : Nat) }
 (Value.int IntKind.u32 i42)).setCell
 {block := w36.heap.size, off := (6 : Nat) }
 (Value.int IntKind.i64 i43))
 fun (v48 : Value) (w49 : World) =>
 ∃ (v50 : Value),
 v48 = v50 ∧
 Keeps
 ((((((((w36.alloc
 (Obj.cells
 #[Value.string
 { data := #[] },
 Value.int IntKind.i64
 (0 : Int),
 Value.int IntKind.i64
 (0 : Int),
 Value.int IntKind.i64
 (0 : Int),
 Value.int IntKind.i64
 (0 : Int),
 Value.int IntKind.u32
 (0 : Int),
 Value.int IntKind.i64
 (0 : Int)]
 (50 : Nat))).setCell
 {block := w36.heap.size, off := (0 : Nat) }
 (Value.string s37)).setCell
 {block := w36.heap.size, off := (1 : Nat) }
 (Value.int IntKind.i64
 i38)).setCell
 {block := w36.heap.size, off := (2 : Nat) }
 (Value.int IntKind.i64 i39)).setCell
 {block := w36.heap.size, off := (3 : Nat) }
 (Value.int IntKind.i64 i40)).setCell
 {block := w36.heap.size, off := (4 : Nat) }
 (Value.int IntKind.i64 i41)).setCell
 {block := w36.heap.size, off := (5 : Nat) }
 (Value.int IntKind.u32 i42)).setCell
 {block := w36.heap.size, off := (6 : Nat) }
 (Value.int IntKind.i64 i43))
 w49 [w.heap.size, w1.heap.size, w36.heap.size] ∧
 ∃ (q51 : Option Addr),
 ∃ (n52 : Nat),
 ∃ (n53 : Nat),
 w49.cell?
 {block := w33.heap.size, off := (0 : Nat) } =
 some (Value.slice q51 n52 n53) ∧
 w49.frozen?
 {block := w33.heap.size, off := (0 : Nat) } =
 false ∧
 FnVal v50 fun (t54 : Bool) =>
 bif t54 then
 Known w49
 [(w.heap.size,
 [((0 : Nat), Value.string s),
 ((1 : Nat),
 Value.int IntKind.i64 a),
 ((2 : Nat),
 Value.int IntKind.i64 f),
 ((3 : Nat),
 Value.int IntKind.i64 r),
 ((4 : Nat),
 Value.int IntKind.i64 z),
 ((5 : Nat),
 Value.int IntKind.u32 u),
 ((6 : Nat),
 Value.int IntKind.i64 m)]),
 (w1.heap.size,
 [((0 : Nat), Value.string s2),
 ((1 : Nat),
 Value.int IntKind.i64 i3),
 ((2 : Nat),
 Value.int IntKind.i64 i4),
 ((3 : Nat),
 Value.int IntKind.i64 i5),
 ((4 : Nat),
 Value.int IntKind.i64 i6),
 ((5 : Nat),
 Value.int IntKind.u32 i7),
 ((6 : Nat),
 Value.int IntKind.i64 i8)]),
 (w33.heap.size,
 [((0 : Nat),
 Value.slice q51 n52 n53)]),
 (w36.heap.size,
 [((0 : Nat), Value.string s37),
 ((1 : Nat),
 Value.int IntKind.i64 i38),
 ((2 : Nat),
 Value.int IntKind.i64 i39),
 ((3 : Nat),
 Value.int IntKind.i64 i40),
 ((4 : Nat),
 Value.int IntKind.i64 i41),
 ((5 : Nat),
 Value.int IntKind.u32 i42),
 ((6 : Nat),
 Value.int IntKind.i64 i43)])] →
 R (Ending.returned (Value.bool false)) w49
 else
 Known
 ((w49.alloc
 (Obj.cells
 #[Value.int IntKind.i64
 (0 : Int)]
 (3 : Nat))).setCell
 {block := w49.heap.size, off := (0 : Nat) }
 (Value.int IntKind.i64 (0 : Int)))
 [(w.heap.size,
 [((0 : Nat), Value.string s),
 ((1 : Nat),
 Value.int IntKind.i64 a),
 ((2 : Nat),
 Value.int IntKind.i64 f),
 ((3 : Nat),
 Value.int IntKind.i64 r),
 ((4 : Nat),
 Value.int IntKind.i64 z),
 ((5 : Nat),
 Value.int IntKind.u32 u),
 ((6 : Nat),
 Value.int IntKind.i64 m)]),
 (w1.heap.size,
 [((0 : Nat), Value.string s2),
 ((1 : Nat),
 Value.int IntKind.i64 i3),
 ((2 : Nat),
 Value.int IntKind.i64 i4),
 ((3 : Nat),
 Value.int IntKind.i64 i5),
 ((4 : Nat),
 Value.int IntKind.i64 i6),
 ((5 : Nat),
 Value.int IntKind.u32 i7),
 ((6 : Nat),
 Value.int IntKind.i64 i8)]),
 (w33.heap.size,
 [((0 : Nat),
 Value.slice q51 n52 n53)]),
 (w36.heap.size,
 [((0 : Nat), Value.string s37),
 ((1 : Nat),
 Value.int IntKind.i64 i38),
 ((2 : Nat),
 Value.int IntKind.i64 i39),
 ((3 : Nat),
 Value.int IntKind.i64 i40),
 ((4 : Nat),
 Value.int IntKind.i64 i41),
 ((5 : Nat),
 Value.int IntKind.u32 i42),
 ((6 : Nat),
 Value.int IntKind.i64 i43)]),
 (w49.heap.size,
 [((0 : Nat),
 Value.int IntKind.i64
 (0 : Int))])] →
 CallsVal Tryd.prog v50
 #[Value.func (Fn.func (81 : Nat)) #[]
 #[Value.pointer
 (some
 {block := w49.heap.size, off := (0 : Nat) })]]
 ((w49.alloc
 (Obj.cells
 #[Value.int IntKind.i64
 (0 : Int)]
 (3 : Nat))).setCell
 {block := w49.heap.size, off := (0 : Nat) }
 (Value.int IntKind.i64 (0 : Int)))
 fun (v55 : Value) (w56 : World) =>
 v55 = Value.tuple #[] ∧
 Keeps
 ((w49.alloc
 (Obj.cells
 #[Value.int IntKind.i64
 (0 : Int)]
 (3 : Nat))).setCell
 {block := w49.heap.size, off := (0 : Nat) }
 (Value.int IntKind.i64
 (0 : Int)))
 w56
 [w.heap.size, w1.heap.size,
 w33.heap.size, w36.heap.size] ∧
 ∃ (i57 : Int),
 w56.cell?
 {block := w49.heap.size, off := (0 : Nat) } =
 some
 (Value.int IntKind.i64
 i57) ∧
 w56.frozen?
 {block := w49.heap.size, off := (0 : Nat) } =
 false ∧
 bif !t44 then
 bif i57 == (0 : Int) then
 Known w56
 [(w.heap.size,
 [((0 : Nat),
 Value.string
 s),
 ((1 : Nat),
 Value.int
 IntKind.i64
 a),
 ((2 : Nat),
 Value.int
 IntKind.i64
 f),
 ((3 : Nat),
 Value.int
 IntKind.i64
 r),
 ((4 : Nat),
 Value.int
 IntKind.i64
 z),
 ((5 : Nat),
 Value.int
 IntKind.u32
 u),
 ((6 : Nat),
 Value.int
 IntKind.i64
 m)]),
 (w1.heap.size,
 [((0 : Nat),
 Value.string
 s2),
 ((1 : Nat),
 Value.int
 IntKind.i64
 i3),
 ((2 : Nat),
 Value.int
 IntKind.i64
 i4),
 ((3 : Nat),
 Value.int
 IntKind.i64
 i5),
 ((4 : Nat),
 Value.int
 IntKind.i64
 i6),
 ((5 : Nat),
 Value.int
 IntKind.u32
 i7),
 ((6 : Nat),
 Value.int
 IntKind.i64
 i8)]),
 (w33.heap.size,
 [((0 : Nat),
 Value.slice
 q51 n52
 n53)]),
 (w36.heap.size,
 [((0 : Nat),
 Value.string
 s37),
 ((1 : Nat),
 Value.int
 IntKind.i64
 i38),
 ((2 : Nat),
 Value.int
 IntKind.i64
 i39),
 ((3 : Nat),
 Value.int
 IntKind.i64
 i40),
 ((4 : Nat),
 Value.int
 IntKind.i64
 i41),
 ((5 : Nat),
 Value.int
 IntKind.u32
 i42),
 ((6 : Nat),
 Value.int
 IntKind.i64
 i43)]),
 (w49.heap.size,
 [((0 : Nat),
 Value.int
 IntKind.i64
 i57)])] →
 Rets Tryd.prog
 (69 : Nat)
 #[Value.pointer
 (some
 { block := w33.heap.size, off := (0 : Nat) })]
 w56
 fun (v58 : Value)
 (w59 : World) =>
 ∃ (i60 : Int),
 v58 =
 Value.int
 IntKind.i64
 i60 ∧
 Keeps w56 w59
 [w.heap.size,
 w1.heap.size,
 w36.heap.size] ∧
 ∃ (q61 :
 Option Addr),
 ∃ (n62 : Nat),
 ∃ (n63 :
 Nat),
 w59.cell?
 { block := w33.heap.size, off := (0 : Nat) } =
 some
 (Value.slice
 q61
 n62
 n63) ∧
 w59.frozen?
 { block := w33.heap.size, off := (0 : Nat) } =
 false ∧
 ∃ (i64
 :
 Int),
 w59.cell?
 { block := w49.heap.size, off := (0 : Nat) } =
 some
 (Value.int
 IntKind.i64
 i64) ∧
 w59.frozen?
 { block := w49.heap.size, off := (0 : Nat) } =
 false ∧
 bif
 i60 ==
 (0 :
 Int) then
 Known
 w59
 [(w.heap.size,
 [((0 :
 Nat),
 Value.string
 s),
 ((1 :
 Nat),
 Value.int
 IntKind.i64
 a),
 ((2 :
 Nat),
 Value.int
 IntKind.i64
 f),
 ((3 :
 Nat),
 Value.int
 IntKind.i64
 r),
 ((4 :
 Nat),
 Value.int
 IntKind.i64
 z),
 ((5 :
 Nat),
 Value.int
 IntKind.u32
 u),
 ((6 :
 Nat),
 Value.int
 IntKind.i64
 m)]),
 (w1.heap.size,
 [((0 :
 Nat),
 Value.string
 s2),
 ((1 :
 Nat),
 Value.int
 IntKind.i64
 i3),
 ((2 :
 Nat),
 Value.int
 IntKind.i64
 i4),
 ((3 :
 Nat),
 Value.int
 IntKind.i64
 i5),
 ((4 :
 Nat),
 Value.int
 IntKind.i64
 i6),
 ((5 :
 Nat),
 Value.int
 IntKind.u32
 i7),
 ((6 :
 Nat),
 Value.int
 IntKind.i64
 i8)]),
 (w33.heap.size,
 [((0 :
 Nat),
 Value.slice
 q61
 n62
 n63)]),
 (w36.heap.size,
 [((0 :
 Nat),
 Value.string
 s37),
 ((1 :
 Nat),
 Value.int
 IntKind.i64
 i38),
 ((2 :
 Nat),
 Value.int
 IntKind.i64
 i39),
 ((3 :
 Nat),
 Value.int
 IntKind.i64
 i40),
 ((4 :
 Nat),
 Value.int
 IntKind.i64
 i41),
 ((5 :
 Nat),
 Value.int
 IntKind.u32
 i42),
 ((6 :
 Nat),
 Value.int
 IntKind.i64
 i43)]),
 (w49.heap.size,
 [((0 :
 Nat),
 Value.int
 IntKind.i64
 i64)])] →
 Rets
 Tryd.prog
 (71 :
 Nat)
 #[Value.pointer
 (some
 { block := w33.heap.size, off := (0 : Nat) })]
 w59
 fun
 (v65 :
 Value)
 (w66 :
 World) =>
 ∃
 (i67
 :
 Int),
 v65 =
 Value.int
 IntKind.i64
 i67 ∧
 Keeps
 w59
 w66
 [w.heap.size,
 w1.heap.size,
 w36.heap.size] ∧
 ∃
 (q68
 :
 Option
 Addr),
 ∃
 (n69
 :
 Nat),
 ∃
 (n70
 :
 Nat),
 w66.cell?
 { block := w33.heap.size, off := (0 : Nat) } =
 some
 (Value.slice
 q68
 n69
 n70) ∧
 w66.frozen?
 { block := w33.heap.size, off := (0 : Nat) } =
 false ∧
 ∃
 (i71
 :
 Int),
 w66.cell?
 { block := w49.heap.size, off := (0 : Nat) } =
 some
 (Value.int
 IntKind.i64
 i71) ∧
 w66.frozen?
 { block := w49.heap.size, off := (0 : Nat) } =
 false ∧
 bif
 i67 ==
 (20 :
 Int) then
 Known
 w66
 [(w.heap.size,
 [((0 :
 Nat),
 Value.string
 s),
 ((1 :
 Nat),
 Value.int
 IntKind.i64
 a),
 ((2 :
 Nat),
 Value.int
 IntKind.i64
 f),
 ((3 :
 Nat),
 Value.int
 IntKind.i64
 r),
 ((4 :
 Nat),
 Value.int
 IntKind.i64
 z),
 ((5 :
 Nat),
 Value.int
 IntKind.u32
 u),
 ((6 :
 Nat),
 Value.int
 IntKind.i64
 m)]),
 (w1.heap.size,
 [((0 :
 Nat),
 Value.string
 s2),
 ((1 :
 Nat),
 Value.int
 IntKind.i64
 i3),
 ((2 :
 Nat),
 Value.int
 IntKind.i64
 i4),
 ((3 :
 Nat),
 Value.int
 IntKind.i64
 i5),
 ((4 :
 Nat),
 Value.int
 IntKind.i64
 i6),
 ((5 :
 Nat),
 Value.int
 IntKind.u32
 i7),
 ((6 :
 Nat),
 Value.int
 IntKind.i64
 i8)]),
 (w33.heap.size,
 [((0 :
 Nat),
 Value.slice
 q68
 n69
 n70)]),
 (w36.heap.size,
 [((0 :
 Nat),
 Value.string
 s37),
 ((1 :
 Nat),
 Value.int
 IntKind.i64
 i38),
 ((2 :
 Nat),
 Value.int
 IntKind.i64
 i39),
 ((3 :
 Nat),
 Value.int
 IntKind.i64
 i40),
 ((4 :
 Nat),
 Value.int
 IntKind.i64
 i41),
 ((5 :
 Nat),
 Value.int
 IntKind.u32
 i42),
 ((6 :
 Nat),
 Value.int
 IntKind.i64
 i43)]),
 (w49.heap.size,
 [((0 :
 Nat),
 Value.int
 IntKind.i64
 i71)])] →
 Rets
 Tryd.prog
 (80 :
 Nat)
 #[Value.pointer
 (some
 { block := w33.heap.size, off := (0 : Nat) }),
 Value.string
 t]
 w66
 fun
 (v72 :
 Value)
 (w73 :
 World) =>
 ∃
 (t74
 :
 Bool),
 v72 =
 Value.bool
 t74 ∧
 Keeps
 w66
 w73
 [w.heap.size,
 w1.heap.size,
 w36.heap.size] ∧
 ∃
 (q75
 :
 Option
 Addr),
 ∃
 (n76
 :
 Nat),
 ∃
 (n77
 :
 Nat),
 w73.cell?
 { block := w33.heap.size, off := (0 : Nat) } =
 some
 (Value.slice
 q75
 n76
 n77) ∧
 w73.frozen?
 { block := w33.heap.size, off := (0 : Nat) } =
 false ∧
 ∃
 (i78
 :
 Int),
 w73.cell?
 { block := w49.heap.size, off := (0 : Nat) } =
 some
 (Value.int
 IntKind.i64
 i78) ∧
 w73.frozen?
 { block := w49.heap.size, off := (0 : Nat) } =
 false ∧
 bif
 t74 then
 Known
 w73
 [(w.heap.size,
 [((0 :
 Nat),
 Value.string
 s),
 ((1 :
 Nat),
 Value.int
 IntKind.i64
 a),
 ((2 :
 Nat),
 Value.int
 IntKind.i64
 f),
 ((3 :
 Nat),
 Value.int
 IntKind.i64
 r),
 ((4 :
 Nat),
 Value.int
 IntKind.i64
 z),
 ((5 :
 Nat),
 Value.int
 IntKind.u32
 u),
 ((6 :
 Nat),
 Value.int
 IntKind.i64
 m)]),
 (w1.heap.size,
 [((0 :
 Nat),
 Value.string
 s2),
 ((1 :
 Nat),
 Value.int
 IntKind.i64
 i3),
 ((2 :
 Nat),
 Value.int
 IntKind.i64
 i4),
 ((3 :
 Nat),
 Value.int
 IntKind.i64
 i5),
 ((4 :
 Nat),
 Value.int
 IntKind.i64
 i6),
 ((5 :
 Nat),
 Value.int
 IntKind.u32
 i7),
 ((6 :
 Nat),
 Value.int
 IntKind.i64
 i8)]),
 (w33.heap.size,
 [((0 :
 Nat),
 Value.slice
 q75
 n76
 n77)]),
 (w36.heap.size,
 [((0 :
 Nat),
 Value.string
 s37),
 ((1 :
 Nat),
 Value.int
 IntKind.i64
 i38),
 ((2 :
 Nat),
 Value.int
 IntKind.i64
 i39),
 ((3 :
 Nat),
 Value.int
 IntKind.i64
 i40),
 ((4 :
 Nat),
 Value.int
 IntKind.i64
 i41),
 ((5 :
 Nat),
 Value.int
 IntKind.u32
 i42),
 ((6 :
 Nat),
 Value.int
 IntKind.i64
 i43)]),
 (w49.heap.size,
 [((0 :
 Nat),
 Value.int
 IntKind.i64
 i78)])] →
 Rets
 Tryd.prog
 (75 :
 Nat)
 #[Value.pointer
 (some
 { block := w33.heap.size, off := (0 : Nat) }),
 Value.string
 t]
 w73
 fun
 (v79 :
 Value)
 (w80 :
 World) =>
 ∃
 (t81
 :
 Bool),
 v79 =
 Value.bool
 t81 ∧
 Keeps
 w73
 w80
 [w.heap.size,
 w1.heap.size,
 w36.heap.size] ∧
 ∃
 (q82
 :
 Option
 Addr),
 ∃
 (n83
 :
 Nat),
 ∃
 (n84
 :
 Nat),
 w80.cell?
 { block := w33.heap.size, off := (0 : Nat) } =
 some
 (Value.slice
 q82
 n83
 n84) ∧
 w80.frozen?
 { block := w33.heap.size, off := (0 : Nat) } =
 false ∧
 ∃
 (i85
 :
 Int),
 w80.cell?
 { block := w49.heap.size, off := (0 : Nat) } =
 some
 (Value.int
 IntKind.i64
 i85) ∧
 w80.frozen?
 { block := w49.heap.size, off := (0 : Nat) } =
 false ∧
 bif
 !t81 then
 Known
 w80
 [(w.heap.size,
 [((0 :
 Nat),
 Value.string
 s),
 ((1 :
 Nat),
 Value.int
 IntKind.i64
 a),
 ((2 :
 Nat),
 Value.int
 IntKind.i64
 f),
 ((3 :
 Nat),
 Value.int
 IntKind.i64
 r),
 ((4 :
 Nat),
 Value.int
 IntKind.i64
 z),
 ((5 :
 Nat),
 Value.int
 IntKind.u32
 u),
 ((6 :
 Nat),
 Value.int
 IntKind.i64
 m)]),
 (w1.heap.size,
 [((0 :
 Nat),
 Value.string
 s2),
 ((1 :
 Nat),
 Value.int
 IntKind.i64
 i3),
 ((2 :
 Nat),
 Value.int
 IntKind.i64
 i4),
 ((3 :
 Nat),
 Value.int
 IntKind.i64
 i5),
 ((4 :
 Nat),
 Value.int
 IntKind.i64
 i6),
 ((5 :
 Nat),
 Value.int
 IntKind.u32
 i7),
 ((6 :
 Nat),
 Value.int
 IntKind.i64
 i8)]),
 (w33.heap.size,
 [((0 :
 Nat),
 Value.slice
 q82
 n83
 n84)]),
 (w36.heap.size,
 [((0 :
 Nat),
 Value.string
 s37),
 ((1 :
 Nat),
 Value.int
 IntKind.i64
 i38),
 ((2 :
 Nat),
 Value.int
 IntKind.i64
 i39),
 ((3 :
 Nat),
 Value.int
 IntKind.i64
 i40),
 ((4 :
 Nat),
 Value.int
 IntKind.i64
 i41),
 ((5 :
 Nat),
 Value.int
 IntKind.u32
 i42),
 ((6 :
 Nat),
 Value.int
 IntKind.i64
 i43)]),
 (w49.heap.size,
 [((0 :
 Nat),
 Value.int
 IntKind.i64
 i85)])] →
 Rets
 Tryd.prog
 (66 :
 Nat)
 #[]
 w80
 fun
 (v86 :
 Value)
 (w87 :
 World) =>
 ∃
 (t88
 :
 Bool),
 v86 =
 Value.bool
 t88 ∧
 Keeps
 w80
 w87
 [w.heap.size,
 w1.heap.size,
 w33.heap.size,
 w36.heap.size] ∧
 ∃
 (i89
 :
 Int),
 w87.cell?
 { block := w49.heap.size, off := (0 : Nat) } =
 some
 (Value.int
 IntKind.i64
 i89) ∧
 w87.frozen?
 { block := w49.heap.size, off := (0 : Nat) } =
 false ∧
 (Known
 w87
 [(w.heap.size,
 [((0 :
 Nat),
 Value.string
 s),
 ((1 :
 Nat),
 Value.int
 IntKind.i64
 a),
 ((2 :
 Nat),
 Value.int
 IntKind.i64
 f),
 ((3 :
 Nat),
 Value.int
 IntKind.i64
 r),
 ((4 :
 Nat),
 Value.int
 IntKind.i64
 z),
 ((5 :
 Nat),
 Value.int
 IntKind.u32
 u),
 ((6 :
 Nat),
 Value.int
 IntKind.i64
 m)]),
 (w1.heap.size,
 [((0 :
 Nat),
 Value.string
 s2),
 ((1 :
 Nat),
 Value.int
 IntKind.i64
 i3),
 ((2 :
 Nat),
 Value.int
 IntKind.i64
 i4),
 ((3 :
 Nat),
 Value.int
 IntKind.i64
 i5),
 ((4 :
 Nat),
 Value.int
 IntKind.i64
 i6),
 ((5 :
 Nat),
 Value.int
 IntKind.u32
 i7),
 ((6 :
 Nat),
 Value.int
 IntKind.i64
 i8)]),
 (w33.heap.size,
 [((0 :
 Nat),
 Value.slice
 q82
 n83
 n84)]),
 (w36.heap.size,
 [((0 :
 Nat),
 Value.string
 s37),
 ((1 :
 Nat),
 Value.int
 IntKind.i64
 i38),
 ((2 :
 Nat),
 Value.int
 IntKind.i64
 i39),
 ((3 :
 Nat),
 Value.int
 IntKind.i64
 i40),
 ((4 :
 Nat),
 Value.int
 IntKind.i64
 i41),
 ((5 :
 Nat),
 Value.int
 IntKind.u32
 i42),
 ((6 :
 Nat),
 Value.int
 IntKind.i64
 i43)]),
 (w49.heap.size,
 [((0 :
 Nat),
 Value.int
 IntKind.i64
 i89)])] →
 R
 (Ending.returned
 (Value.bool
 t88))
 w87)
 else
 Known
 w80
 [(w.heap.size,
 [((0 :
 Nat),
 Value.string
 s),
 ((1 :
 Nat),
 Value.int
 IntKind.i64
 a),
 ((2 :
 Nat),
 Value.int
 IntKind.i64
 f),
 ((3 :
 Nat),
 Value.int
 IntKind.i64
 r),
 ((4 :
 Nat),
 Value.int
 IntKind.i64
 z),
 ((5 :
 Nat),
 Value.int
 IntKind.u32
 u),
 ((6 :
 Nat),
 Value.int
 IntKind.i64
 m)]),
 (w1.heap.size,
 [((0 :
 Nat),
 Value.string
 s2),
 ((1 :
 Nat),
 Value.int
 IntKind.i64
 i3),
 ((2 :
 Nat),
 Value.int
 IntKind.i64
 i4),
 ((3 :
 Nat),
 Value.int
 IntKind.i64
 i5),
 ((4 :
 Nat),
 Value.int
 IntKind.i64
 i6),
 ((5 :
 Nat),
 Value.int
 IntKind.u32
 i7),
 ((6 :
 Nat),
 Value.int
 IntKind.i64
 i8)]),
 (w33.heap.size,
 [((0 :
 Nat),
 Value.slice
 q82
 n83
 n84)]),
 (w36.heap.size,
 [((0 :
 Nat),
 Value.string
 s37),
 ((1 :
 Nat),
 Value.int
 IntKind.i64
 i38),
 ((2 :
 Nat),
 Value.int
 IntKind.i64
 i39),
 ((3 :
 Nat),
 Value.int
 IntKind.i64
 i40),
 ((4 :
 Nat),
 Value.int
 IntKind.i64
 i41),
 ((5 :
 Nat),
 Value.int
 IntKind.u32
 i42),
 ((6 :
 Nat),
 Value.int
 IntKind.i64
 i43)]),
 (w49.heap.size,
 [((0 :
 Nat),
 Value.int
 IntKind.i64
 i85)])] →
 R
 (Ending.returned
 (Value.bool
 false))
 w80
 else
 Known
 w73
 [(w.heap.size,
 [((0 :
 Nat),
 Value.string
 s),
 ((1 :
 Nat),
 Value.int
 IntKind.i64
 a),
 ((2 :
 Nat),
 Value.int
 IntKind.i64
 f),
 ((3 :
 Nat),
 Value.int
 IntKind.i64
 r),
 ((4 :
 Nat),
 Value.int
 IntKind.i64
 z),
 ((5 :
 Nat),
 Value.int
 IntKind.u32
 u),
 ((6 :
 Nat),
 Value.int
 IntKind.i64
 m)]),
 (w1.heap.size,
 [((0 :
 Nat),
 Value.string
 s2),
 ((1 :
 Nat),
 Value.int
 IntKind.i64
 i3),
 ((2 :
 Nat),
 Value.int
 IntKind.i64
 i4),
 ((3 :
 Nat),
 Value.int
 IntKind.i64
 i5),
 ((4 :
 Nat),
 Value.int
 IntKind.i64
 i6),
 ((5 :
 Nat),
 Value.int
 IntKind.u32
 i7),
 ((6 :
 Nat),
 Value.int
 IntKind.i64
 i8)]),
 (w33.heap.size,
 [((0 :
 Nat),
 Value.slice
 q75
 n76
 n77)]),
 (w36.heap.size,
 [((0 :
 Nat),
 Value.string
 s37),
 ((1 :
 Nat),
 Value.int
 IntKind.i64
 i38),
 ((2 :
 Nat),
 Value.int
 IntKind.i64
 i39),
 ((3 :
 Nat),
 Value.int
 IntKind.i64
 i40),
 ((4 :
 Nat),
 Value.int
 IntKind.i64
 i41),
 ((5 :
 Nat),
 Value.int
 IntKind.u32
 i42),
 ((6 :
 Nat),
 Value.int
 IntKind.i64
 i43)]),
 (w49.heap.size,
 [((0 :
 Nat),
 Value.int
 IntKind.i64
 i78)])] →
 R
 (Ending.returned
 (Value.bool
 false))
 w73
 else
 Known
 w66
 [(w.heap.size,
 [((0 :
 Nat),
 Value.string
 s),
 ((1 :
 Nat),
 Value.int
 IntKind.i64
 a),
 ((2 :
 Nat),
 Value.int
 IntKind.i64
 f),
 ((3 :
 Nat),
 Value.int
 IntKind.i64
 r),
 ((4 :
 Nat),
 Value.int
 IntKind.i64
 z),
 ((5 :
 Nat),
 Value.int
 IntKind.u32
 u),
 ((6 :
 Nat),
 Value.int
 IntKind.i64
 m)]),
 (w1.heap.size,
 [((0 :
 Nat),
 Value.string
 s2),
 ((1 :
 Nat),
 Value.int
 IntKind.i64
 i3),
 ((2 :
 Nat),
 Value.int
 IntKind.i64
 i4),
 ((3 :
 Nat),
 Value.int
 IntKind.i64
 i5),
 ((4 :
 Nat),
 Value.int
 IntKind.i64
 i6),
 ((5 :
 Nat),
 Value.int
 IntKind.u32
 i7),
 ((6 :
 Nat),
 Value.int
 IntKind.i64
 i8)]),
 (w33.heap.size,
 [((0 :
 Nat),
 Value.slice
 q68
 n69
 n70)]),
 (w36.heap.size,
 [((0 :
 Nat),
 Value.string
 s37),
 ((1 :
 Nat),
 Value.int
 IntKind.i64
 i38),
 ((2 :
 Nat),
 Value.int
 IntKind.i64
 i39),
 ((3 :
 Nat),
 Value.int
 IntKind.i64
 i40),
 ((4 :
 Nat),
 Value.int
 IntKind.i64
 i41),
 ((5 :
 Nat),
 Value.int
 IntKind.u32
 i42),
 ((6 :
 Nat),
 Value.int
 IntKind.i64
 i43)]),
 (w49.heap.size,
 [((0 :
 Nat),
 Value.int
 IntKind.i64
 i71)])] →
 R
 (Ending.returned
 (Value.bool
 false))
 w66
 else
 Known
 w59
 [(w.heap.size,
 [((0 :
 Nat),
 Value.string
 s),
 ((1 :
 Nat),
 Value.int
 IntKind.i64
 a),
 ((2 :
 Nat),
 Value.int
 IntKind.i64
 f),
 ((3 :
 Nat),
 Value.int
 IntKind.i64
 r),
 ((4 :
 Nat),
 Value.int
 IntKind.i64
 z),
 ((5 :
 Nat),
 Value.int
 IntKind.u32
 u),
 ((6 :
 Nat),
 Value.int
 IntKind.i64
 m)]),
 (w1.heap.size,
 [((0 :
 Nat),
 Value.string
 s2),
 ((1 :
 Nat),
 Value.int
 IntKind.i64
 i3),
 ((2 :
 Nat),
 Value.int
 IntKind.i64
 i4),
 ((3 :
 Nat),
 Value.int
 IntKind.i64
 i5),
 ((4 :
 Nat),
 Value.int
 IntKind.i64
 i6),
 ((5 :
 Nat),
 Value.int
 IntKind.u32
 i7),
 ((6 :
 Nat),
 Value.int
 IntKind.i64
 i8)]),
 (w33.heap.size,
 [((0 :
 Nat),
 Value.slice
 q61
 n62
 n63)]),
 (w36.heap.size,
 [((0 :
 Nat),
 Value.string
 s37),
 ((1 :
 Nat),
 Value.int
 IntKind.i64
 i38),
 ((2 :
 Nat),
 Value.int
 IntKind.i64
 i39),
 ((3 :
 Nat),
 Value.int
 IntKind.i64
 i40),
 ((4 :
 Nat),
 Value.int
 IntKind.i64
 i41),
 ((5 :
 Nat),
 Value.int
 IntKind.u32
 i42),
 ((6 :
 Nat),
 Value.int
 IntKind.i64
 i43)]),
 (w49.heap.size,
 [((0 :
 Nat),
 Value.int
 IntKind.i64
 i64)])] →
 R
 (Ending.returned
 (Value.bool
 false))
 w59
 else
 Known w56
 [(w.heap.size,
 [((0 : Nat),
 Value.string
 s),
 ((1 : Nat),
 Value.int
 IntKind.i64
 a),
 ((2 : Nat),
 Value.int
 IntKind.i64
 f),
 ((3 : Nat),
 Value.int
 IntKind.i64
 r),
 ((4 : Nat),
 Value.int
 IntKind.i64
 z),
 ((5 : Nat),
 Value.int
 IntKind.u32
 u),
 ((6 : Nat),
 Value.int
 IntKind.i64
 m)]),
 (w1.heap.size,
 [((0 : Nat),
 Value.string
 s2),
 ((1 : Nat),
 Value.int
 IntKind.i64
 i3),
 ((2 : Nat),
 Value.int
 IntKind.i64
 i4),
 ((3 : Nat),
 Value.int
 IntKind.i64
 i5),
 ((4 : Nat),
 Value.int
 IntKind.i64
 i6),
 ((5 : Nat),
 Value.int
 IntKind.u32
 i7),
 ((6 : Nat),
 Value.int
 IntKind.i64
 i8)]),
 (w33.heap.size,
 [((0 : Nat),
 Value.slice
 q51 n52
 n53)]),
 (w36.heap.size,
 [((0 : Nat),
 Value.string
 s37),
 ((1 : Nat),
 Value.int
 IntKind.i64
 i38),
 ((2 : Nat),
 Value.int
 IntKind.i64
 i39),
 ((3 : Nat),
 Value.int
 IntKind.i64
 i40),
 ((4 : Nat),
 Value.int
 IntKind.i64
 i41),
 ((5 : Nat),
 Value.int
 IntKind.u32
 i42),
 ((6 : Nat),
 Value.int
 IntKind.i64
 i43)]),
 (w49.heap.size,
 [((0 : Nat),
 Value.int
 IntKind.i64
 i57)])] →
 R
 (Ending.returned
 (Value.bool false))
 w56
 else
 Known w56
 [(w.heap.size,
 [((0 : Nat),
 Value.string s),
 ((1 : Nat),
 Value.int
 IntKind.i64
 a),
 ((2 : Nat),
 Value.int
 IntKind.i64
 f),
 ((3 : Nat),
 Value.int
 IntKind.i64
 r),
 ((4 : Nat),
 Value.int
 IntKind.i64
 z),
 ((5 : Nat),
 Value.int
 IntKind.u32
 u),
 ((6 : Nat),
 Value.int
 IntKind.i64
 m)]),
 (w1.heap.size,
 [((0 : Nat),
 Value.string
 s2),
 ((1 : Nat),
 Value.int
 IntKind.i64
 i3),
 ((2 : Nat),
 Value.int
 IntKind.i64
 i4),
 ((3 : Nat),
 Value.int
 IntKind.i64
 i5),
 ((4 : Nat),
 Value.int
 IntKind.i64
 i6),
 ((5 : Nat),
 Value.int
 IntKind.u32
 i7),
 ((6 : Nat),
 Value.int
 IntKind.i64
 i8)]),
 (w33.heap.size,
 [((0 : Nat),
 Value.slice q51
 n52 n53)]),
 (w36.heap.size,
 [((0 : Nat),
 Value.string
 s37),
 ((1 : Nat),
 Value.int
 IntKind.i64
 i38),
 ((2 : Nat),
 Value.int
 IntKind.i64
 i39),
 ((3 : Nat),
 Value.int
 IntKind.i64
 i40),
 ((4 : Nat),
 Value.int
 IntKind.i64
 i41),
 ((5 : Nat),
 Value.int
 IntKind.u32
 i42),
 ((6 : Nat),
 Value.int
 IntKind.i64
 i43)]),
 (w49.heap.size,
 [((0 : Nat),
 Value.int
 IntKind.i64
 i57)])] →
 R
 (Ending.returned
 (Value.bool false))
 w56)
theorem vcTryd19 (s : ByteArray) (a f r z u m : Int) (t : ByteArray) (w : World) (R : Ending → World → Prop) : SX.vcFn Tryd.prog [] Tryd.f19 [.v (.agg #[.string s, .int .i64 a, .int .i64 f, .int .i64 r, .int .i64 z, .int .u32 u, .int .i64 m]), .v (.string t)] [] w R = VCTryd19 s a f r z u m t w R := by kernel_rfl
def VCTryd81 (s : ByteArray) (a f r z u m : Int) (p1 : Option Addr) (w : World) (R : Ending → World → Prop) : Prop :=
SX.Ptr p1 fun (a0 : Addr) =>
 ∃ (i1 : Int),
  (w.alloc (Obj.cells #[Value.string s, Value.int IntKind.i64 a, Value.int IntKind.i64 f, Value.int IntKind.i64 r, Value.int IntKind.i64 z, Value.int IntKind.u32 u, Value.int IntKind.i64 m] (50 : Nat))).cell? a0 =
    some (Value.int IntKind.i64 i1) ∧
   Wr IntKind.i64 (i1 + (1 : Int)) fun (i2 : Int) =>
    SX.Ptr p1 fun (a3 : Addr) =>
     (∃ (v4 : Value),
       (w.alloc (Obj.cells #[Value.string s, Value.int IntKind.i64 a, Value.int IntKind.i64 f, Value.int IntKind.i64 r, Value.int IntKind.i64 z, Value.int IntKind.u32 u, Value.int IntKind.i64 m] (50 : Nat))).cell?
         (a3.add (0 : Nat)) =
        some v4) ∧
      (w.alloc (Obj.cells #[Value.string s, Value.int IntKind.i64 a, Value.int IntKind.i64 f, Value.int IntKind.i64 r, Value.int IntKind.i64 z, Value.int IntKind.u32 u, Value.int IntKind.i64 m] (50 : Nat))).frozen?
         (a3.add (0 : Nat)) =
        false ∧
       Apart (a3.add (0 : Nat)) w.heap.size [(0 : Nat), (1 : Nat), (2 : Nat), (3 : Nat), (4 : Nat), (5 : Nat), (6 : Nat)] ∧
        (Known
          ((w.alloc
             (Obj.cells #[Value.string s, Value.int IntKind.i64 a, Value.int IntKind.i64 f, Value.int IntKind.i64 r, Value.int IntKind.i64 z, Value.int IntKind.u32 u, Value.int IntKind.i64 m]
              (50 : Nat))).setCell
           (a3.add (0 : Nat)) (Value.int IntKind.i64 i2))
          [(w.heap.size,
            [((0 : Nat), Value.string s), ((1 : Nat), Value.int IntKind.i64 a), ((2 : Nat), Value.int IntKind.i64 f), ((3 : Nat), Value.int IntKind.i64 r), ((4 : Nat), Value.int IntKind.i64 z),
             ((5 : Nat), Value.int IntKind.u32 u), ((6 : Nat), Value.int IntKind.i64 m)])] →
         R (Ending.returned (Value.bool true))
          ((w.alloc
             (Obj.cells #[Value.string s, Value.int IntKind.i64 a, Value.int IntKind.i64 f, Value.int IntKind.i64 r, Value.int IntKind.i64 z, Value.int IntKind.u32 u, Value.int IntKind.i64 m]
              (50 : Nat))).setCell
           (a3.add (0 : Nat)) (Value.int IntKind.i64 i2)))
theorem vcTryd81 (s : ByteArray) (a f r z u m : Int) (p1 : Option Addr) (w : World) (R : Ending → World → Prop) : SX.vcFn Tryd.prog [] Tryd.f81 [.v (.agg #[.string s, .int .i64 a, .int .i64 f, .int .i64 r, .int .i64 z, .int .u32 u, .int .i64 m]), .v (.pointer p1)] [] w R = VCTryd81 s a f r z u m p1 w R := by kernel_rfl
end Go.Proofs.YtbpknjldphckgaaDoor
