/- The conditions of functions, as the executor computes them: each is equal to what 'vcFn' says. -/
import Derived.Test.YtbpknjldphckgaaDoorSxLib
import Derived.Test.YtbpknjldphckgaaDoorProg
namespace Go.Proofs.YtbpknjldphckgaaDoor
open Go Go.SX Go.Proofs
set_option maxRecDepth 100000
set_option linter.unusedVariables false
def VCTryd17 (q : Option Addr) (n c : Nat) (s : ByteArray) (a f r z u m : Int) (t : ByteArray) (w : World) (R : Ending → World → Prop) : Prop :=
Known (w.alloc (Obj.cells #[Value.string s, Value.int IntKind.i64 a, Value.int IntKind.i64 f, Value.int IntKind.i64 r, Value.int IntKind.i64 z, Value.int IntKind.u32 u, Value.int IntKind.i64 m] (50 : Nat)))
 [(w.heap.size,
 [((0 : Nat), Value.string s), ((1 : Nat), Value.int IntKind.i64 a), ((2 : Nat), Value.int IntKind.i64 f), ((3 : Nat), Value.int IntKind.i64 r), ((4 : Nat), Value.int IntKind.i64 z),
 ((5 : Nat), Value.int IntKind.u32 u), ((6 : Nat), Value.int IntKind.i64 m)])] →
 Rets Tryd.prog (65 : Nat) #[Value.slice q n c]
 (w.alloc (Obj.cells #[Value.string s, Value.int IntKind.i64 a, Value.int IntKind.i64 f, Value.int IntKind.i64 r, Value.int IntKind.i64 z, Value.int IntKind.u32 u, Value.int IntKind.i64 m] (50 : Nat)))
 fun (v0 : Value) (w1 : World) =>
 ∃ (t2 : Bool),
 v0 = Value.bool t2 ∧
 Keeps (w.alloc (Obj.cells #[Value.string s, Value.int IntKind.i64 a, Value.int IntKind.i64 f, Value.int IntKind.i64 r, Value.int IntKind.i64 z, Value.int IntKind.u32 u, Value.int IntKind.i64 m] (50 : Nat))) w1
 [w.heap.size] ∧
 bif t2 then
 Known w1
 [(w.heap.size,
 [((0 : Nat), Value.string s), ((1 : Nat), Value.int IntKind.i64 a), ((2 : Nat), Value.int IntKind.i64 f), ((3 : Nat), Value.int IntKind.i64 r), ((4 : Nat), Value.int IntKind.i64 z),
 ((5 : Nat), Value.int IntKind.u32 u), ((6 : Nat), Value.int IntKind.i64 m)])] →
 Rets Tryd.prog (66 : Nat) #[] w1 fun (v3 : Value) (w4 : World) =>
 ∃ (t5 : Bool),
 v3 = Value.bool t5 ∧
 Keeps w1 w4 [w.heap.size] ∧
 (Known w4
 [(w.heap.size,
 [((0 : Nat), Value.string s), ((1 : Nat), Value.int IntKind.i64 a), ((2 : Nat), Value.int IntKind.i64 f), ((3 : Nat), Value.int IntKind.i64 r), ((4 : Nat), Value.int IntKind.i64 z),
 ((5 : Nat), Value.int IntKind.u32 u), ((6 : Nat), Value.int IntKind.i64 m)])] →
 R (Ending.returned (Value.bool t5)) w4)
 else
 bif decide ((↑s.size : Int) > (200 : Int)) then
 Known w1
 [(w.heap.size,
 [((0 : Nat), Value.string s), ((1 : Nat), Value.int IntKind.i64 a), ((2 : Nat), Value.int IntKind.i64 f), ((3 : Nat), Value.int IntKind.i64 r), ((4 : Nat), Value.int IntKind.i64 z),
 ((5 : Nat), Value.int IntKind.u32 u), ((6 : Nat), Value.int IntKind.i64 m)])] →
 Rets Tryd.prog (66 : Nat) #[] w1 fun (v6 : Value) (w7 : World) =>
 ∃ (t8 : Bool),
 v6 = Value.bool t8 ∧
 Keeps w1 w7 [w.heap.size] ∧
 (Known w7
 [(w.heap.size,
 [((0 : Nat), Value.string s), ((1 : Nat), Value.int IntKind.i64 a), ((2 : Nat), Value.int IntKind.i64 f), ((3 : Nat), Value.int IntKind.i64 r), ((4 : Nat), Value.int IntKind.i64 z),
 ((5 : Nat), Value.int IntKind.u32 u), ((6 : Nat), Value.int IntKind.i64 m)])] →
 R (Ending.returned (Value.bool t8)) w7)
 else
 bif t.toList == s.toList then
 Known w1
 [(w.heap.size,
 [((0 : Nat), Value.string s), ((1 : Nat), Value.int IntKind.i64 a), ((2 : Nat), Value.int IntKind.i64 f), ((3 : Nat), Value.int IntKind.i64 r), ((4 : Nat), Value.int IntKind.i64 z),
 ((5 : Nat), Value.int IntKind.u32 u), ((6 : Nat), Value.int IntKind.i64 m)])] →
 Rets Tryd.prog (66 : Nat) #[] w1 fun (v9 : Value) (w10 : World) =>
 ∃ (t11 : Bool),
 v9 = Value.bool t11 ∧
 Keeps w1 w10 [w.heap.size] ∧
 (Known w10
 [(w.heap.size,
 [((0 : Nat), Value.string s), ((1 : Nat), Value.int IntKind.i64 a), ((2 : Nat), Value.int IntKind.i64 f), ((3 : Nat), Value.int IntKind.i64 r), ((4 : Nat), Value.int IntKind.i64 z),
 ((5 : Nat), Value.int IntKind.u32 u), ((6 : Nat), Value.int IntKind.i64 m)])] →
 R (Ending.returned (Value.bool t11)) w10)
 else
 Known w1
 [(w.heap.size,
 [((0 : Nat), Value.string s), ((1 : Nat), Value.int IntKind.i64 a), ((2 : Nat), Value.int IntKind.i64 f), ((3 : Nat), Value.int IntKind.i64 r), ((4 : Nat), Value.int IntKind.i64 z),
 ((5 : Nat), Value.int IntKind.u32 u), ((6 : Nat), Value.int IntKind.i64 m)])] →
 Rets Tryd.prog (67 : Nat) #[Value.slice q n c] w1 fun (v12 : Value) (w13 : World) =>
 ∃ (q14 : Option Addr),
 ∃ (i15 : Int),
 v12 = Value.tuple #[Value.pointer q14, Value.int IntKind.i64 i15] ∧
 Keeps w1 w13 [w.heap.size] ∧
 bif i15 != (0 : Int) then
 bif q14.isNone then
 Known w13
 [(w.heap.size,
 [((0 : Nat), Value.string s), ((1 : Nat), Value.int IntKind.i64 a), ((2 : Nat), Value.int IntKind.i64 f), ((3 : Nat), Value.int IntKind.i64 r),
 ((4 : Nat), Value.int IntKind.i64 z), ((5 : Nat), Value.int IntKind.u32 u), ((6 : Nat), Value.int IntKind.i64 m)])] →
 Rets Tryd.prog (66 : Nat) #[] w13 fun (v16 : Value) (w17 : World) =>
 ∃ (t18 : Bool),
 v16 = Value.bool t18 ∧
 Keeps w13 w17 [w.heap.size] ∧
 (Known w17
 [(w.heap.size,
 [((0 : Nat), Value.string s), ((1 : Nat), Value.int IntKind.i64 a), ((2 : Nat), Value.int IntKind.i64 f), ((3 : Nat), Value.int IntKind.i64 r),
 ((4 : Nat), Value.int IntKind.i64 z), ((5 : Nat), Value.int IntKind.u32 u), ((6 : Nat), Value.int IntKind.i64 m)])] →
 R (Ending.returned (Value.bool t18)) w17)
 else
 Known w13
 [(w.heap.size,
 [((0 : Nat), Value.string s), ((1 : Nat), Value.int IntKind.i64 a), ((2 : Nat), Value.int IntKind.i64 f), ((3 : Nat), Value.int IntKind.i64 r),
 ((4 : Nat), Value.int IntKind.i64 z), ((5 : Nat), Value.int IntKind.u32 u), ((6 : Nat), Value.int IntKind.i64 m)])] →
 R (Ending.returned (Value.bool false)) w13
 else
 bif q14.isNone then
 Known w13
 [(w.heap.size,
 [((0 : Nat), Value.string s), ((1 : Nat), Value.int IntKind.i64 a), ((2 : Nat), Value.int IntKind.i64 f), ((3 : Nat), Value.int IntKind.i64 r),
 ((4 : Nat), Value.int IntKind.i64 z), ((5 : Nat), Value.int IntKind.u32 u), ((6 : Nat), Value.int IntKind.i64 m)])] →
 R (Ending.returned (Value.bool false)) w13
 else
 Known w13
 [(w.heap.size,
 [((0 : Nat), Value.string s), ((1 : Nat), Value.int IntKind.i64 a), ((2 : Nat), Value.int IntKind.i64 f), ((3 : Nat), Value.int IntKind.i64 r),
 ((4 : Nat), Value.int IntKind.i64 z), ((5 : Nat), Value.int IntKind.u32 u), ((6 : Nat), Value.int IntKind.i64 m)])] →
 Rets Tryd.prog (73 : Nat) #[Value.pointer q14, Value.string t] w13 fun (v19 : Value) (w20 : World) =>
 ∃ (s21 : ByteArray),
 ∃ (i22 : Int),
 ∃ (i23 : Int),
 ∃ (i24 : Int),
 ∃ (i25 : Int),
 ∃ (i26 : Int),
 ∃ (i27 : Int),
 ∃ (t28 : Bool),
 v19 =
 Value.tuple
 #[Value.agg
 #[Value.string s21, Value.int IntKind.i64 i22, Value.int IntKind.i64 i23, Value.int IntKind.i64 i24, Value.int IntKind.i64 i25, Value.int IntKind.u32 i26,
 Value.int IntKind.i64 i27],
 Value.bool t28] ∧
 Keeps w13 w20 [w.heap.size] ∧
 (Known
 ((((((((w20.alloc
 (Obj.cells
 #[Value.string { data := #[] }, Value.int IntKind.i64 (0 : Int), Value.int IntKind.i64 (0 : Int),
 Value.int IntKind.i64 (0 : Int), Value.int IntKind.i64 (0 : Int), Value.int IntKind.u32 (0 : Int),
 Value.int IntKind.i64 (0 : Int)]
 (50 : Nat))).setCell
 {block := w20.heap.size, off := (0 : Nat) } (Value.string s21)).setCell
 {block := w20.heap.size, off := (1 : Nat) } (Value.int IntKind.i64 i22)).setCell
 {block := w20.heap.size, off := (2 : Nat) } (Value.int IntKind.i64 i23)).setCell
 {block := w20.heap.size, off := (3 : Nat) } (Value.int IntKind.i64 i24)).setCell
 {block := w20.heap.size, off := (4 : Nat) } (Value.int IntKind.i64 i25)).setCell
 {block := w20.heap.size, off := (5 : Nat) } (Value.int IntKind.u32 i26)).setCell
 {block := w20.heap.size, off := (6 : Nat) } (Value.int IntKind.i64 i27))
 [(w.heap.size,
 [((0 : Nat), Value.string s), ((1 : Nat), Value.int IntKind.i64 a), ((2 : Nat), Value.int IntKind.i64 f), ((3 : Nat), Value.int IntKind.i64 r),
 ((4 : Nat), Value.int IntKind.i64 z), ((5 : Nat), Value.int IntKind.u32 u), ((6 : Nat), Value.int IntKind.i64 m)]),
 (w20.heap.size,
 [((0 : Nat), Value.string s21), ((1 : Nat), Value.int IntKind.i64 i22), ((2 : Nat), Value.int IntKind.i64 i23), ((3 : Nat), Value.int IntKind.i64 i24),
 ((4 : Nat), Value.int IntKind.i64 i25), ((5 : Nat), Value.int IntKind.u32 i26), ((6 : Nat), Value.int IntKind.i64 i27)])] →
 Rets Tryd.prog (73 : Nat) #[Value.pointer q14, Value.string s]
 ((((((((w20.alloc
 (Obj.cells
 #[Value.string { data := #[] }, Value.int IntKind.i64 (0 : Int), Value.int IntKind.i64 (0 : Int),
 Value.int IntKind.i64 (0 : Int), Value.int IntKind.i64 (0 : Int), Value.int IntKind.u32 (0 : Int),
 Value.int IntKind.i64 (0 : Int)]
 (50 : Nat))).setCell
 {block := w20.heap.size, off := (0 : Nat) } (Value.string s21)).setCell
 {block := w20.heap.size, off := (1 : Nat) } (Value.int IntKind.i64 i22)).setCell
 {block := w20.heap.size, off := (2 : Nat) } (Value.int IntKind.i64 i23)).setCell
 {block := w20.heap.size, off := (3 : Nat) } (Value.int IntKind.i64 i24)).setCell
 {block := w20.heap.size, off := (4 : Nat) } (Value.int IntKind.i64 i25)).setCell
 {block := w20.heap.size, off := (5 : Nat) } (Value.int IntKind.u32 i26)).setCell
 {block := w20.heap.size, off := (6 : Nat) } (Value.int IntKind.i64 i27))
 fun (v29 : Value) (w30 : World) =>
 ∃ (s31 : ByteArray),
 ∃ (i32 : Int),
 ∃ (i33 : Int),
 ∃ (i34 : Int),
 ∃ (i35 : Int),
 ∃ (i36 : Int),
 ∃ (i37 : Int),
 ∃ (t38 : Bool),
 v29 =
 Value.tuple
 #[Value.agg
 #[Value.string s31, Value.int IntKind.i64 i32, Value.int IntKind.i64 i33, Value.int IntKind.i64 i34, Value.int IntKind.i64 i35,
 Value.int IntKind.u32 i36, Value.int IntKind.i64 i37],
 Value.bool t38] ∧
 Keeps
 ((((((((w20.alloc
 (Obj.cells
 #[Value.string { data := #[] }, Value.int IntKind.i64 (0 : Int), Value.int IntKind.i64 (0 : Int),
 Value.int IntKind.i64 (0 : Int), Value.int IntKind.i64 (0 : Int), Value.int IntKind.u32 (0 : Int),
 Value.int IntKind.i64 (0 : Int)]
 (50 : Nat))).setCell
 {block := w20.heap.size, off := (0 : Nat) } (Value.string s21)).setCell
 {block := w20.heap.size, off := (1 : Nat) } (Value.int IntKind.i64 i22)).setCell
 {block := w20.heap.size, off := (2 : Nat) } (Value.int IntKind.i64 i23)).setCell
 {block := w20.heap.size, off := (3 : Nat) } (Value.int IntKind.i64 i24)).setCell
 {block := w20.heap.size, off := (4 : Nat) } (Value.int IntKind.i64 i25)).setCell
 {block := w20.heap.size, off := (5 : Nat) } (Value.int IntKind.u32 i26)).setCell
 {block := w20.heap.size, off := (6 : Nat) } (Value.int IntKind.i64 i27))
 w30 [w.heap.size, w20.heap.size] ∧
 (Known
 ((((((((w30.alloc
 (Obj.cells
 #[Value.string { data := #[] }, Value.int IntKind.i64 (0 : Int), Value.int IntKind.i64 (0 : Int),
 Value.int IntKind.i64 (0 : Int), Value.int IntKind.i64 (0 : Int), Value.int IntKind.u32 (0 : Int),
 Value.int IntKind.i64 (0 : Int)]
 (50 : Nat))).setCell
 {block := w30.heap.size, off := (0 : Nat) } (Value.string s31)).setCell
 {block := w30.heap.size, off := (1 : Nat) } (Value.int IntKind.i64 i32)).setCell
 {block := w30.heap.size, off := (2 : Nat) } (Value.int IntKind.i64 i33)).setCell
 {block := w30.heap.size, off := (3 : Nat) } (Value.int IntKind.i64 i34)).setCell
 {block := w30.heap.size, off := (4 : Nat) } (Value.int IntKind.i64 i35)).setCell
 {block := w30.heap.size, off := (5 : Nat) } (Value.int IntKind.u32 i36)).setCell
 {block := w30.heap.size, off := (6 : Nat) } (Value.int IntKind.i64 i37))
 [(w.heap.size,
 [((0 : Nat), Value.string s), ((1 : Nat), Value.int IntKind.i64 a), ((2 : Nat), Value.int IntKind.i64 f),
 ((3 : Nat), Value.int IntKind.i64 r), ((4 : Nat), Value.int IntKind.i64 z), ((5 : Nat), Value.int IntKind.u32 u),
 ((6 : Nat), Value.int IntKind.i64 m)]),
 (w20.heap.size,
 [((0 : Nat), Value.string s21), ((1 : Nat), Value.int IntKind.i64 i22), ((2 : Nat), Value.int IntKind.i64 i23),
 ((3 : Nat), Value.int IntKind.i64 i24), ((4 : Nat), Value.int IntKind.i64 i25), ((5 : Nat), Value.int IntKind.u32 i26),
 ((6 : Nat), Value.int IntKind.i64 i27)]),
 (w30.heap.size,
 [((0 : Nat), Value.string s31), ((1 : Nat), Value.int IntKind.i64 i32), ((2 : Nat), Value.int IntKind.i64 i33),
 ((3 : Nat), Value.int IntKind.i64 i34), ((4 : Nat), Value.int IntKind.i64 i35), ((5 : Nat), Value.int IntKind.u32 i36),
 ((6 : Nat), Value.int IntKind.i64 i37)])] →
 Rets Tryd.prog (69 : Nat) #[Value.pointer q14]
 ((((((((w30.alloc
 (Obj.cells
 #[Value.string { data := #[] }, Value.int IntKind.i64 (0 : Int), Value.int IntKind.i64 (0 : Int),
 Value.int IntKind.i64 (0 : Int), Value.int IntKind.i64 (0 : Int), Value.int IntKind.u32 (0 : Int),
 Value.int IntKind.i64 (0 : Int)]
 (50 : Nat))).setCell
 {block := w30.heap.size, off := (0 : Nat) } (Value.string s31)).setCell
 {block := w30.heap.size, off := (1 : Nat) } (Value.int IntKind.i64 i32)).setCell
 {block := w30.heap.size, off := (2 : Nat) } (Value.int IntKind.i64 i33)).setCell
 {block := w30.heap.size, off := (3 : Nat) } (Value.int IntKind.i64 i34)).setCell
 {block := w30.heap.size, off := (4 : Nat) } (Value.int IntKind.i64 i35)).setCell
 {block := w30.heap.size, off := (5 : Nat) } (Value.int IntKind.u32 i36)).setCell
 {block := w30.heap.size, off := (6 : Nat) } (Value.int IntKind.i64 i37))
 fun (v39 : Value) (w40 : World) =>
 ∃ (i41 : Int),
 v39 = Value.int IntKind.i64 i41 ∧
 Keeps
 ((((((((w30.alloc
 (Obj.cells
 #[Value.string { data := #[] }, Value.int IntKind.i64 (0 : Int),
 Value.int IntKind.i64 (0 : Int), Value.int IntKind.i64 (0 : Int),
 Value.int IntKind.i64 (0 : Int), Value.int IntKind.u32 (0 : Int),
 Value.int IntKind.i64 (0 : Int)]
 (50 : Nat))).setCell
 {block := w30.heap.size, off := (0 : Nat) } (Value.string s31)).setCell
 {block := w30.heap.size, off := (1 : Nat) } (Value.int IntKind.i64 i32)).setCell
 {block := w30.heap.size, off := (2 : Nat) } (Value.int IntKind.i64 i33)).setCell
 {block := w30.heap.size, off := (3 : Nat) } (Value.int IntKind.i64 i34)).setCell
 {block := w30.heap.size, off := (4 : Nat) } (Value.int IntKind.i64 i35)).setCell
 {block := w30.heap.size, off := (5 : Nat) } (Value.int IntKind.u32 i36)).setCell
 {block := w30.heap.size, off := (6 : Nat) } (Value.int IntKind.i64 i37))
 w40 [w.heap.size, w20.heap.size, w30.heap.size] ∧
 ∃ (I42 :
 ByteArray →
 Int →
 Int →
 Int →
 Int →
 Int →
 Int → ByteArray → Int → Int → Int → Int → Int → Int → ByteArray → Int → Int → Int → Int → Int → Int → World → Prop),
 (∀ (s43 : ByteArray) (i44 i45 i46 i47 i48 i49 : Int) (s50 : ByteArray) (i51 i52 i53 i54 i55 i56 : Int) (s57 : ByteArray)
 (i58 i59 i60 i61 i62 i63 : Int) (w64 : World),
 I42 s43 i44 i45 i46 i47 i48 i49 s50 i51 i52 i53 i54 i55 i56 s57 i58 i59 i60 i61 i62 i63 w64 →
 Known w64
 [(w.heap.size,
 [((0 : Nat), Value.string s43), ((1 : Nat), Value.int IntKind.i64 i44), ((2 : Nat), Value.int IntKind.i64 i45),
 ((3 : Nat), Value.int IntKind.i64 i46), ((4 : Nat), Value.int IntKind.i64 i47),
 ((5 : Nat), Value.int IntKind.u32 i48), ((6 : Nat), Value.int IntKind.i64 i49)]),
 (w20.heap.size,
 [((0 : Nat), Value.string s50), ((1 : Nat), Value.int IntKind.i64 i51), ((2 : Nat), Value.int IntKind.i64 i52),
 ((3 : Nat), Value.int IntKind.i64 i53), ((4 : Nat), Value.int IntKind.i64 i54),
 ((5 : Nat), Value.int IntKind.u32 i55), ((6 : Nat), Value.int IntKind.i64 i56)]),
 (w30.heap.size,
 [((0 : Nat), Value.string s57), ((1 : Nat), Value.int IntKind.i64 i58), ((2 : Nat), Value.int IntKind.i64 i59),
 ((3 : Nat), Value.int IntKind.i64 i60), ((4 : Nat), Value.int IntKind.i64 i61),
 ((5 : Nat), Value.int IntKind.u32 i62), ((6 : Nat), Value.int IntKind.i64 i63)])] →
 Known w64
 [(w.heap.size,
 [((0 : Nat), Value.string s43), ((1 : Nat), Value.int IntKind.i64 i44), ((2 : Nat), Value.int IntKind.i64 i45),
 ((3 : Nat), Value.int IntKind.i64 i46), ((4 : Nat), Value.int IntKind.i64 i47),
 ((5 : Nat), Value.int IntKind.u32 i48), ((6 : Nat), Value.int IntKind.i64 i49)]),
 (w20.heap.size,
 [((0 : Nat), Value.string s50), ((1 : Nat), Value.int IntKind.i64 i51), ((2 : Nat), Value.int IntKind.i64 i52),
 ((3 : Nat), Value.int IntKind.i64 i53), ((4 : Nat), Value.int IntKind.i64 i54),
 ((5 : Nat), Value.int IntKind.u32 i55), ((6 : Nat), Value.int IntKind.i64 i56)]),
 (w30.heap.size,
 [((0 : Nat), Value.string s57), ((1 : Nat), Value.int IntKind.i64 i58), ((2 : Nat), Value.int IntKind.i64 i59),
 ((3 : Nat), Value.int IntKind.i64 i60), ((4 : Nat), Value.int IntKind.i64 i61),
 ((5 : Nat), Value.int IntKind.u32 i62), ((6 : Nat), Value.int IntKind.i64 i63)])] →
 Rets Tryd.prog (73 : Nat) #[Value.pointer q14, Value.string t] w64 fun (v65 : Value) (w66 : World) =>
 ∃ (s67 : ByteArray),
 ∃ (i68 : Int),
 ∃ (i69 : Int),
 ∃ (i70 : Int),
 ∃ (i71 : Int),
 ∃ (i72 : Int),
 ∃ (i73 : Int),
 ∃ (t74 : Bool),
 v65 =
 Value.tuple
 #[Value.agg
 #[Value.string s67, Value.int IntKind.i64 i68, Value.int IntKind.i64 i69,
 Value.int IntKind.i64 i70, Value.int IntKind.i64 i71, Value.int IntKind.u32 i72,
 Value.int IntKind.i64 i73],
 Value.bool t74] ∧
 Keeps w64 w66 [w.heap.size, w20.heap.size, w30.heap.size] ∧
 ∃ (I75 :
 ByteArray →
 Int →
 Int →
 Int →
 Int →
 Int →
 Int →
 ByteArray →
 Int →
 Int →
 Int →
 Int →
 Int →
 Int →
 ByteArray →
 Int →
 Int →
 Int →
 Int →
 Int →
 Int →
 ByteArray →
 Int → Int → Int → Int → Int → Int → World → Prop),
 (∀ (s76 : ByteArray) (i77 i78 i79 i80 i81 i82 : Int) (s83 : ByteArray)
 (i84 i85 i86 i87 i88 i89 : Int) (s90 : ByteArray) (i91 i92 i93 i94 i95 i96 : Int)
 (s97 : ByteArray) (i98 i99 i100 i101 i102 i103 : Int) (w104 : World),
 I75 s76 i77 i78 i79 i80 i81 i82 s83 i84 i85 i86 i87 i88 i89 s90 i91 i92 i93 i94 i95 i96
 s97 i98 i99 i100 i101 i102 i103 w104 →
 Known w104
 [(w.heap.size,
 [((0 : Nat), Value.string s76), ((1 : Nat), Value.int IntKind.i64 i77),
 ((2 : Nat), Value.int IntKind.i64 i78),
 ((3 : Nat), Value.int IntKind.i64 i79),
 ((4 : Nat), Value.int IntKind.i64 i80),
 ((5 : Nat), Value.int IntKind.u32 i81),
 ((6 : Nat), Value.int IntKind.i64 i82)]),
 (w20.heap.size,
 [((0 : Nat), Value.string s83), ((1 : Nat), Value.int IntKind.i64 i84),
 ((2 : Nat), Value.int IntKind.i64 i85),
 ((3 : Nat), Value.int IntKind.i64 i86),
 ((4 : Nat), Value.int IntKind.i64 i87),
 ((5 : Nat), Value.int IntKind.u32 i88),
 ((6 : Nat), Value.int IntKind.i64 i89)]),
 (w30.heap.size,
 [((0 : Nat), Value.string s90), ((1 : Nat), Value.int IntKind.i64 i91),
 ((2 : Nat), Value.int IntKind.i64 i92),
 ((3 : Nat), Value.int IntKind.i64 i93),
 ((4 : Nat), Value.int IntKind.i64 i94),
 ((5 : Nat), Value.int IntKind.u32 i95),
 ((6 : Nat), Value.int IntKind.i64 i96)]),
 (w66.heap.size,
 [((0 : Nat), Value.string s97), ((1 : Nat), Value.int IntKind.i64 i98),
 ((2 : Nat), Value.int IntKind.i64 i99),
 ((3 : Nat), Value.int IntKind.i64 i100),
 ((4 : Nat), Value.int IntKind.i64 i101),
 ((5 : Nat), Value.int IntKind.u32 i102),
 ((6 : Nat), Value.int IntKind.i64 i103)])] →
 Known w104
 [(w.heap.size,
 [((0 : Nat), Value.string s76), ((1 : Nat), Value.int IntKind.i64 i77),
 ((2 : Nat), Value.int IntKind.i64 i78),
 ((3 : Nat), Value.int IntKind.i64 i79),
 ((4 : Nat), Value.int IntKind.i64 i80),
 ((5 : Nat), Value.int IntKind.u32 i81),
 ((6 : Nat), Value.int IntKind.i64 i82)]),
 (w20.heap.size,
 [((0 : Nat), Value.string s83), ((1 : Nat), Value.int IntKind.i64 i84),
 ((2 : Nat), Value.int IntKind.i64 i85),
 ((3 : Nat), Value.int IntKind.i64 i86),
 ((4 : Nat), Value.int IntKind.i64 i87),
 ((5 : Nat), Value.int IntKind.u32 i88),
 ((6 : Nat), Value.int IntKind.i64 i89)]),
 (w30.heap.size,
 [((0 : Nat), Value.string s90), ((1 : Nat), Value.int IntKind.i64 i91),
 ((2 : Nat), Value.int IntKind.i64 i92),
 ((3 : Nat), Value.int IntKind.i64 i93),
 ((4 : Nat), Value.int IntKind.i64 i94),
 ((5 : Nat), Value.int IntKind.u32 i95),
 ((6 : Nat), Value.int IntKind.i64 i96)]),
 (w66.heap.size,
 [((0 : Nat), Value.string s97), ((1 : Nat), Value.int IntKind.i64 i98),
 ((2 : Nat), Value.int IntKind.i64 i99),
 ((3 : Nat), Value.int IntKind.i64 i100),
 ((4 : Nat), Value.int IntKind.i64 i101),
 ((5 : Nat), Value.int IntKind.u32 i102),
 ((6 : Nat), Value.int IntKind.i64 i103)])] →
 Rets Tryd.prog (75 : Nat) #[Value.pointer q14, Value.string s76] w104
 fun (v105 : Value) (w106 : World) =>
 ∃ (t107 : Bool),
 v105 = Value.bool t107 ∧
 Keeps w104 w106 [w.heap.size, w20.heap.size, w30.heap.size, w66.heap.size] ∧
 (Known w106
 [(w.heap.size,
 [((0 : Nat), Value.string s76),
 ((1 : Nat), Value.int IntKind.i64 i77),
 ((2 : Nat), Value.int IntKind.i64 i78),
 ((3 : Nat), Value.int IntKind.i64 i79),
 ((4 : Nat), Value.int IntKind.i64 i80),
 ((5 : Nat), Value.int IntKind.u32 i81),
 ((6 : Nat), Value.int IntKind.i64 i82)]),
 (w20.heap.size,
 [((0 : Nat), Value.string s83),
 ((1 : Nat), Value.int IntKind.i64 i84),
 ((2 : Nat), Value.int IntKind.i64 i85),
 ((3 : Nat), Value.int IntKind.i64 i86),
 ((4 : Nat), Value.int IntKind.i64 i87),
 ((5 : Nat), Value.int IntKind.u32 i88),
 ((6 : Nat), Value.int IntKind.i64 i89)]),
 (w30.heap.size,
 [((0 : Nat), Value.string s90),
 ((1 : Nat), Value.int IntKind.i64 i91),
 ((2 : Nat), Value.int IntKind.i64 i92),
 ((3 : Nat), Value.int IntKind.i64 i93),
 ((4 : Nat), Value.int IntKind.i64 i94),
 ((5 : Nat), Value.int IntKind.u32 i95),
 ((6 : Nat), Value.int IntKind.i64 i96)]),
 (w66.heap.size,
 [((0 : Nat), Value.string s97),
 ((1 : Nat), Value.int IntKind.i64 i98),
 ((2 : Nat), Value.int IntKind.i64 i99),
 ((3 : Nat), Value.int IntKind.i64 i100),
 ((4 : Nat), Value.int IntKind.i64 i101),
 ((5 : Nat), Value.int IntKind.u32 i102),
 ((6 : Nat), Value.int IntKind.i64 i103)])] →
 Rets Tryd.prog (73 : Nat) #[Value.pointer q14, Value.string s76] w106
 fun (v108 : Value) (w109 : World) =>
 ∃ (s110 : ByteArray),
 ∃ (i111 : Int),
 ∃ (i112 : Int),
 ∃ (i113 : Int),
 ∃ (i114 : Int),
 ∃ (i115 : Int),
 ∃ (i116 : Int),
 ∃ (t117 : Bool),
 v108 =
 Value.tuple
 #[Value.agg
 #[Value.string s110,
 Value.int IntKind.i64 i111,
 Value.int IntKind.i64 i112,
 Value.int IntKind.i64 i113,
 Value.int IntKind.i64 i114,
 Value.int IntKind.u32 i115,
 Value.int IntKind.i64 i116],
 Value.bool t117] ∧
 Keeps w106 w109
 [w.heap.size, w20.heap.size, w30.heap.size,
 w66.heap.size] ∧
 (Known
 ((((((((w109.alloc
 (Obj.cells
 #[Value.string
 { data := #[] },
 Value.int
 IntKind.i64
 (0 : Int),
 Value.int
 IntKind.i64
 (0 : Int),
 Value.int
 IntKind.i64
 (0 : Int),
 Value.int
 IntKind.i64
 (0 : Int),
 Value.int
 IntKind.u32
 (0 : Int),
 Value.int
 IntKind.i64
 (0 : Int)]
 (50 :
 Nat))).setCell
 { block := w109.heap.size, off := (0 : Nat) }
 (Value.string
 s110)).setCell
 {block := w109.heap.size, off := (1 : Nat) }
 (Value.int IntKind.i64
 i111)).setCell
 {block := w109.heap.size, off := (2 : Nat) }
 (Value.int IntKind.i64
 i112)).setCell
 {block := w109.heap.size, off := (3 : Nat) }
 (Value.int IntKind.i64
 i113)).setCell
 {block := w109.heap.size, off := (4 : Nat) }
 (Value.int IntKind.i64 i114)).setCell
 {block := w109.heap.size, off := (5 : Nat) }
 (Value.int IntKind.u32 i115)).setCell
 {block := w109.heap.size, off := (6 : Nat) }
 (Value.int IntKind.i64 i116))
 [(w.heap.size,
 [((0 : Nat), Value.string s76),
 ((1 : Nat), Value.int IntKind.i64 i77),
 ((2 : Nat), Value.int IntKind.i64 i78),
 ((3 : Nat), Value.int IntKind.i64 i79),
 ((4 : Nat), Value.int IntKind.i64 i80),
 ((5 : Nat), Value.int IntKind.u32 i81),
 ((6 : Nat), Value.int IntKind.i64 i82)]),
 (w20.heap.size,
 [((0 : Nat), Value.string s83),
 ((1 : Nat), Value.int IntKind.i64 i84),
 ((2 : Nat), Value.int IntKind.i64 i85),
 ((3 : Nat), Value.int IntKind.i64 i86),
 ((4 : Nat), Value.int IntKind.i64 i87),
 ((5 : Nat), Value.int IntKind.u32 i88),
 ((6 : Nat), Value.int IntKind.i64 i89)]),
 (w30.heap.size,
 [((0 : Nat), Value.string s90),
 ((1 : Nat), Value.int IntKind.i64 i91),
 ((2 : Nat), Value.int IntKind.i64 i92),
 ((3 : Nat), Value.int IntKind.i64 i93),
 ((4 : Nat), Value.int IntKind.i64 i94),
 ((5 : Nat), Value.int IntKind.u32 i95),
 ((6 : Nat), Value.int IntKind.i64 i96)]),
 (w66.heap.size,
 [((0 : Nat), Value.string s97),
 ((1 : Nat), Value.int IntKind.i64 i98),
 ((2 : Nat), Value.int IntKind.i64 i99),
 ((3 : Nat), Value.int IntKind.i64 i100),
 ((4 : Nat), Value.int IntKind.i64 i101),
 ((5 : Nat), Value.int IntKind.u32 i102),
 ((6 : Nat), Value.int IntKind.i64 i103)]),
 (w109.heap.size,
 [((0 : Nat), Value.string s110),
 ((1 : Nat), Value.int IntKind.i64 i111),
 ((2 : Nat), Value.int IntKind.i64 i112),
 ((3 : Nat), Value.int IntKind.i64 i113),
 ((4 : Nat), Value.int IntKind.i64 i114),
 ((5 : Nat), Value.int IntKind.u32 i115),
 ((6 : Nat),
 Value.int IntKind.i64 i116)])] →
 Rets Tryd.prog (70 : Nat) #[Value.pointer q14]
 ((((((((w109.alloc
 (Obj.cells
 #[Value.string
 { data := #[] },
 Value.int
 IntKind.i64
 (0 : Int),
 Value.int
 IntKind.i64
 (0 : Int),
 Value.int
 IntKind.i64
 (0 : Int),
 Value.int
 IntKind.i64
 (0 : Int),
 Value.int
 IntKind.u32
 (0 : Int),
 Value.int
 IntKind.i64
 (0 : Int)]
 (50 :
 Nat))).setCell
 { block := w109.heap.size, off := (0 : Nat) }
 (Value.string
 s110)).setCell
 {block := w109.heap.size, off := (1 : Nat) }
 (Value.int IntKind.i64
 i111)).setCell
 {block := w109.heap.size, off := (2 : Nat) }
 (Value.int IntKind.i64
 i112)).setCell
 {block := w109.heap.size, off := (3 : Nat) }
 (Value.int IntKind.i64
 i113)).setCell
 {block := w109.heap.size, off := (4 : Nat) }
 (Value.int IntKind.i64 i114)).setCell
 {block := w109.heap.size, off := (5 : Nat) }
 (Value.int IntKind.u32 i115)).setCell
 {block := w109.heap.size, off := (6 : Nat) }
 (Value.int IntKind.i64 i116))
 fun (v118 : Value) (w119 : World) =>
 ∃ (q120 : Option Addr),
 ∃ (n121 : Nat),
 ∃ (n122 : Nat),
 v118 = Value.slice q120 n121 n122 ∧
 Keeps
 ((((((((w109.alloc
 (Obj.cells
 #[Value.string
 { data := #[] },
 Value.int
 IntKind.i64
 (0 :
 Int),
 Value.int
 IntKind.i64
 (0 :
 Int),
 Value.int
 IntKind.i64
 (0 :
 Int),
 Value.int
 IntKind.i64
 (0 :
 Int),
 Value.int
 IntKind.u32
 (0 :
 Int),
 Value.int
 IntKind.i64
 (0 :
 Int)]
 (50 :
 Nat))).setCell
 { block := w109.heap.size, off := (0 : Nat) }
 (Value.string
 s110)).setCell
 { block := w109.heap.size, off := (1 : Nat) }
 (Value.int
 IntKind.i64
 i111)).setCell
 { block := w109.heap.size, off := (2 : Nat) }
 (Value.int
 IntKind.i64
 i112)).setCell
 { block := w109.heap.size, off := (3 : Nat) }
 (Value.int IntKind.i64
 i113)).setCell
 {block := w109.heap.size, off := (4 : Nat) }
 (Value.int IntKind.i64
 i114)).setCell
 {block := w109.heap.size, off := (5 : Nat) }
 (Value.int IntKind.u32
 i115)).setCell
 {block := w109.heap.size, off := (6 : Nat) }
 (Value.int IntKind.i64 i116))
 w119
 [w.heap.size, w20.heap.size,
 w30.heap.size, w66.heap.size,
 w109.heap.size] ∧
 ∃ (I123 :
 ByteArray →
 Int →
 Int →
 Int →
 Int →
 Int →
 Int →
 ByteArray →
 Int →
 Int →
 Int →
 Int →
 Int →
 Int →
 ByteArray →
 Int →
 Int →
 Int →
 Int →
 Int →
 Int →
 ByteArray →
 Int →
 Int →
 Int →
 Int →
 Int →
 Int →
 ByteArray →
 Int →
 Int →
 Int →
 Int →
 Int →
 Int →
 World →
 Prop),
 (∀ (s124 : ByteArray)
 (i125 i126 i127 i128 i129 i130 :
 Int)
 (s131 : ByteArray)
 (i132 i133 i134 i135 i136 i137 :
 Int)
 (s138 : ByteArray)
 (i139 i140 i141 i142 i143 i144 :
 Int)
 (s145 : ByteArray)
 (i146 i147 i148 i149 i150 i151 :
 Int)
 (s152 : ByteArray)
 (i153 i154 i155 i156 i157 i158 :
 Int)
 (w159 : World),
 I123 s124 i125 i126 i127 i128
 i129 i130 s131 i132 i133
 i134 i135 i136 i137 s138
 i139 i140 i141 i142 i143
 i144 s145 i146 i147 i148
 i149 i150 i151 s152 i153
 i154 i155 i156 i157 i158
 w159 →
 Known w159
 [(w.heap.size,
 [((0 : Nat),
 Value.string
 s124),
 ((1 : Nat),
 Value.int
 IntKind.i64
 i125),
 ((2 : Nat),
 Value.int
 IntKind.i64
 i126),
 ((3 : Nat),
 Value.int
 IntKind.i64
 i127),
 ((4 : Nat),
 Value.int
 IntKind.i64
 i128),
 ((5 : Nat),
 Value.int
 IntKind.u32
 i129),
 ((6 : Nat),
 Value.int
 IntKind.i64
 i130)]),
 (w20.heap.size,
 [((0 : Nat),
 Value.string
 s131),
 ((1 : Nat),
 Value.int
 IntKind.i64
 i132),
 ((2 : Nat),
 Value.int
 IntKind.i64
 i133),
 ((3 : Nat),
 Value.int
 IntKind.i64
 i134),
 ((4 : Nat),
 Value.int
 IntKind.i64
 i135),
 ((5 : Nat),
 Value.int
 IntKind.u32
 i136),
 ((6 : Nat),
 Value.int
 IntKind.i64
 i137)]),
 (w30.heap.size,
 [((0 : Nat),
 Value.string
 s138),
 ((1 : Nat),
 Value.int
 IntKind.i64
 i139),
 ((2 : Nat),
 Value.int
 IntKind.i64
 i140),
 ((3 : Nat),
 Value.int
 IntKind.i64
 i141),
 ((4 : Nat),
 Value.int
 IntKind.i64
 i142),
 ((5 : Nat),
 Value.int
 IntKind.u32
 i143),
 ((6 : Nat),
 Value.int
 IntKind.i64
 i144)]),
 (w66.heap.size,
 [((0 : Nat),
 Value.string
 s145),
 ((1 : Nat),
 Value.int
 IntKind.i64
 i146),
 ((2 : Nat),
 Value.int
 IntKind.i64
 i147),
 ((3 : Nat),
 Value.int
 IntKind.i64
 i148),
 ((4 : Nat),
 Value.int
 IntKind.i64
 i149),
 ((5 : Nat),
 Value.int
 IntKind.u32
 i150),
 ((6 : Nat),
 Value.int
 IntKind.i64
 i151)]),
 (w109.heap.size,
 [((0 : Nat),
 Value.string
 s152),
 ((1 : Nat),
 Value.int
 IntKind.i64
 i153),
 ((2 : Nat),
 Value.int
 IntKind.i64
 i154),
 ((3 : Nat),
 Value.int
 IntKind.i64
 i155),
 ((4 : Nat),
 Value.int
 IntKind.i64
 i156),
 ((5 : Nat),
 Value.int
 IntKind.u32
 i157),
 ((6 : Nat),
 Value.int
 IntKind.i64
 i158)])] →
 ∃ (I160 :
 Int → World → Prop),
 ∃ (I161 :
 Int → World → Nat),
 I160 (1 : Int) w159 ∧
 ∀ (i162 : Int)
 (w163 : World),
 I160 i162 w163 →
 Known w163
 [(w.heap.size,
 [((0 :
 Nat),
 Value.string
 s124),
 ((1 :
 Nat),
 Value.int
 IntKind.i64
 i125),
 ((2 :
 Nat),
 Value.int
 IntKind.i64
 i126),
 ((3 :
 Nat),
 Value.int
 IntKind.i64
 i127),
 ((4 :
 Nat),
 Value.int
 IntKind.i64
 i128),
 ((5 :
 Nat),
 Value.int
 IntKind.u32
 i129),
 ((6 :
 Nat),
 Value.int
 IntKind.i64
 i130)]),
 (w20.heap.size,
 [((0 :
 Nat),
 Value.string
 s131),
 ((1 :
 Nat),
 Value.int
 IntKind.i64
 i132),
 ((2 :
 Nat),
 Value.int
 IntKind.i64
 i133),
 ((3 :
 Nat),
 Value.int
 IntKind.i64
 i134),
 ((4 :
 Nat),
 Value.int
 IntKind.i64
 i135),
 ((5 :
 Nat),
 Value.int
 IntKind.u32
 i136),
 ((6 :
 Nat),
 Value.int
 IntKind.i64
 i137)]),
 (w30.heap.size,
 [((0 :
 Nat),
 Value.string
 s138),
 ((1 :
 Nat),
 Value.int
 IntKind.i64
 i139),
 ((2 :
 Nat),
 Value.int
 IntKind.i64
 i140),
 ((3 :
 Nat),
 Value.int
 IntKind.i64
 i141),
 ((4 :
 Nat),
 Value.int
 IntKind.i64
 i142),
 ((5 :
 Nat),
 Value.int
 IntKind.u32
 i143),
 ((6 :
 Nat),
 Value.int
 IntKind.i64
 i144)]),
 (w66.heap.size,
 [((0 :
 Nat),
 Value.string
 s145),
 ((1 :
 Nat),
 Value.int
 IntKind.i64
 i146),
 ((2 :
 Nat),
 Value.int
 IntKind.i64
 i147),
 ((3 :
 Nat),
 Value.int
 IntKind.i64
 i148),
 ((4 :
 Nat),
 Value.int
 IntKind.i64
 i149),
 ((5 :
 Nat),
 Value.int
 IntKind.u32
 i150),
 ((6 :
 Nat),
 Value.int
 IntKind.i64
 i151)]),
 (w109.heap.size,
 [((0 :
 Nat),
 Value.string
 s152),
 ((1 :
 Nat),
 Value.int
 IntKind.i64
 i153),
 ((2 :
 Nat),
 Value.int
 IntKind.i64
 i154),
 ((3 :
 Nat),
 Value.int
 IntKind.i64
 i155),
 ((4 :
 Nat),
 Value.int
 IntKind.i64
 i156),
 ((5 :
 Nat),
 Value.int
 IntKind.u32
 i157),
 ((6 :
 Nat),
 Value.int
 IntKind.i64
 i158)])] →
 bif
 decide
 (i162 <
 (↑n121 :
 Int)) then
 Wr IntKind.i64
 (i162 -
 (1 : Int))
 fun
 (i164 :
 Int) =>
 ((0 : Int) ≤
 i164 ∧
 i164 <
 (↑n121 :
 Int)) ∧
 SX.Ptr
 q120
 fun
 (a165 :
 Addr) =>
 ∃ (s166
 :
 ByteArray),
 w163.drew.cell?
 ((a165.add
 (i164.toNat *
 (7 :
 Nat))).add
 (0 :
 Nat)) =
 some
 (Value.string
 s166) ∧
 ((0 :
 Int) ≤
 i162 ∧
 i162 <
 (↑n121 :
 Int)) ∧
 SX.Ptr
 q120
 fun
 (a167 :
 Addr) =>
 ∃
 (s168
 :
 ByteArray),
 w163.drew.cell?
 ((a167.add
 (i162.toNat *
 (7 :
 Nat))).add
 (0 :
 Nat)) =
 some
 (Value.string
 s168) ∧
 bif
 !Op.bytesLess
 s166.toList
 s168.toList then
 Known
 w163.drew
 [(w.heap.size,
 [((0 :
 Nat),
 Value.string
 s124),
 ((1 :
 Nat),
 Value.int
 IntKind.i64
 i125),
 ((2 :
 Nat),
 Value.int
 IntKind.i64
 i126),
 ((3 :
 Nat),
 Value.int
 IntKind.i64
 i127),
 ((4 :
 Nat),
 Value.int
 IntKind.i64
 i128),
 ((5 :
 Nat),
 Value.int
 IntKind.u32
 i129),
 ((6 :
 Nat),
 Value.int
 IntKind.i64
 i130)]),
 (w20.heap.size,
 [((0 :
 Nat),
 Value.string
 s131),
 ((1 :
 Nat),
 Value.int
 IntKind.i64
 i132),
 ((2 :
 Nat),
 Value.int
 IntKind.i64
 i133),
 ((3 :
 Nat),
 Value.int
 IntKind.i64
 i134),
 ((4 :
 Nat),
 Value.int
 IntKind.i64
 i135),
 ((5 :
 Nat),
 Value.int
 IntKind.u32
 i136),
 ((6 :
 Nat),
 Value.int
 IntKind.i64
 i137)]),
 (w30.heap.size,
 [((0 :
 Nat),
 Value.string
 s138),
 ((1 :
 Nat),
 Value.int
 IntKind.i64
 i139),
 ((2 :
 Nat),
 Value.int
 IntKind.i64
 i140),
 ((3 :
 Nat),
 Value.int
 IntKind.i64
 i141),
 ((4 :
 Nat),
 Value.int
 IntKind.i64
 i142),
 ((5 :
 Nat),
 Value.int
 IntKind.u32
 i143),
 ((6 :
 Nat),
 Value.int
 IntKind.i64
 i144)]),
 (w66.heap.size,
 [((0 :
 Nat),
 Value.string
 s145),
 ((1 :
 Nat),
 Value.int
 IntKind.i64
 i146),
 ((2 :
 Nat),
 Value.int
 IntKind.i64
 i147),
 ((3 :
 Nat),
 Value.int
 IntKind.i64
 i148),
 ((4 :
 Nat),
 Value.int
 IntKind.i64
 i149),
 ((5 :
 Nat),
 Value.int
 IntKind.u32
 i150),
 ((6 :
 Nat),
 Value.int
 IntKind.i64
 i151)]),
 (w109.heap.size,
 [((0 :
 Nat),
 Value.string
 s152),
 ((1 :
 Nat),
 Value.int
 IntKind.i64
 i153),
 ((2 :
 Nat),
 Value.int
 IntKind.i64
 i154),
 ((3 :
 Nat),
 Value.int
 IntKind.i64
 i155),
 ((4 :
 Nat),
 Value.int
 IntKind.i64
 i156),
 ((5 :
 Nat),
 Value.int
 IntKind.u32
 i157),
 ((6 :
 Nat),
 Value.int
 IntKind.i64
 i158)])] →
 R
 (Ending.returned
 (Value.bool
 false))
 w163.drew
 else
 Wr
 IntKind.i64
 (i162 +
 (1 :
 Int))
 fun
 (i169 :
 Int) =>
 SameVals
 [Value.string
 s124,
 Value.int
 IntKind.i64
 i125,
 Value.int
 IntKind.i64
 i126,
 Value.int
 IntKind.i64
 i127,
 Value.int
 IntKind.i64
 i128,
 Value.int
 IntKind.u32
 i129,
 Value.int
 IntKind.i64
 i130,
 Value.string
 s131,
 Value.int
 IntKind.i64
 i132,
 Value.int
 IntKind.i64
 i133,
 Value.int
 IntKind.i64
 i134,
 Value.int
 IntKind.i64
 i135,
 Value.int
 IntKind.u32
 i136,
 Value.int
 IntKind.i64
 i137,
 Value.string
 s138,
 Value.int
 IntKind.i64
 i139,
 Value.int
 IntKind.i64
 i140,
 Value.int
 IntKind.i64
 i141,
 Value.int
 IntKind.i64
 i142,
 Value.int
 IntKind.u32
 i143,
 Value.int
 IntKind.i64
 i144,
 Value.string
 s145,
 Value.int
 IntKind.i64
 i146,
 Value.int
 IntKind.i64
 i147,
 Value.int
 IntKind.i64
 i148,
 Value.int
 IntKind.i64
 i149,
 Value.int
 IntKind.u32
 i150,
 Value.int
 IntKind.i64
 i151,
 Value.string
 s152,
 Value.int
 IntKind.i64
 i153,
 Value.int
 IntKind.i64
 i154,
 Value.int
 IntKind.i64
 i155,
 Value.int
 IntKind.i64
 i156,
 Value.int
 IntKind.u32
 i157,
 Value.int
 IntKind.i64
 i158]
 [Value.string
 s124,
 Value.int
 IntKind.i64
 i125,
 Value.int
 IntKind.i64
 i126,
 Value.int
 IntKind.i64
 i127,
 Value.int
 IntKind.i64
 i128,
 Value.int
 IntKind.u32
 i129,
 Value.int
 IntKind.i64
 i130,
 Value.string
 s131,
 Value.int
 IntKind.i64
 i132,
 Value.int
 IntKind.i64
 i133,
 Value.int
 IntKind.i64
 i134,
 Value.int
 IntKind.i64
 i135,
 Value.int
 IntKind.u32
 i136,
 Value.int
 IntKind.i64
 i137,
 Value.string
 s138,
 Value.int
 IntKind.i64
 i139,
 Value.int
 IntKind.i64
 i140,
 Value.int
 IntKind.i64
 i141,
 Value.int
 IntKind.i64
 i142,
 Value.int
 IntKind.u32
 i143,
 Value.int
 IntKind.i64
 i144,
 Value.string
 s145,
 Value.int
 IntKind.i64
 i146,
 Value.int
 IntKind.i64
 i147,
 Value.int
 IntKind.i64
 i148,
 Value.int
 IntKind.i64
 i149,
 Value.int
 IntKind.u32
 i150,
 Value.int
 IntKind.i64
 i151,
 Value.string
 s152,
 Value.int
 IntKind.i64
 i153,
 Value.int
 IntKind.i64
 i154,
 Value.int
 IntKind.i64
 i155,
 Value.int
 IntKind.i64
 i156,
 Value.int
 IntKind.u32
 i157,
 Value.int
 IntKind.i64
 i158] ∧
 I160
 i169
 w163.drew ∧
 I161
 i169
 w163.drew <
 I161
 i162
 w163
 else
 ∃ (I170 :
 Int →
 Int →
 World →
 Prop),
 ∃ (I171 :
 Int →
 Int →
 World →
 Nat),
 I170
 (0 :
 Int)
 (0 :
 Int)
 w163 ∧
 ∀
 (i172
 i173 :
 Int)
 (w174 :
 World),
 I170
 i172
 i173
 w174 →
 Known
 w174
 [(w.heap.size,
 [((0 :
 Nat),
 Value.string
 s124),
 ((1 :
 Nat),
 Value.int
 IntKind.i64
 i125),
 ((2 :
 Nat),
 Value.int
 IntKind.i64
 i126),
 ((3 :
 Nat),
 Value.int
 IntKind.i64
 i127),
 ((4 :
 Nat),
 Value.int
 IntKind.i64
 i128),
 ((5 :
 Nat),
 Value.int
 IntKind.u32
 i129),
 ((6 :
 Nat),
 Value.int
 IntKind.i64
 i130)]),
 (w20.heap.size,
 [((0 :
 Nat),
 Value.string
 s131),
 ((1 :
 Nat),
 Value.int
 IntKind.i64
 i132),
 ((2 :
 Nat),
 Value.int
 IntKind.i64
 i133),
 ((3 :
 Nat),
 Value.int
 IntKind.i64
 i134),
 ((4 :
 Nat),
 Value.int
 IntKind.i64
 i135),
 ((5 :
 Nat),
 Value.int
 IntKind.u32
 i136),
 ((6 :
 Nat),
 Value.int
 IntKind.i64
 i137)]),
 (w30.heap.size,
 [((0 :
 Nat),
 Value.string
 s138),
 ((1 :
 Nat),
 Value.int
 IntKind.i64
 i139),
 ((2 :
 Nat),
 Value.int
 IntKind.i64
 i140),
 ((3 :
 Nat),
 Value.int
 IntKind.i64
 i141),
 ((4 :
 Nat),
 Value.int
 IntKind.i64
 i142),
 ((5 :
 Nat),
 Value.int
 IntKind.u32
 i143),
 ((6 :
 Nat),
 Value.int
 IntKind.i64
 i144)]),
 (w66.heap.size,
 [((0 :
 Nat),
 Value.string
 s145),
 ((1 :
 Nat),
 Value.int
 IntKind.i64
 i146),
 ((2 :
 Nat),
 Value.int
 IntKind.i64
 i147),
 ((3 :
 Nat),
 Value.int
 IntKind.i64
 i148),
 ((4 :
 Nat),
 Value.int
 IntKind.i64
 i149),
 ((5 :
 Nat),
 Value.int
 IntKind.u32
 i150),
 ((6 :
 Nat),
 Value.int
 IntKind.i64
 i151)]),
 (w109.heap.size,
 [((0 :
 Nat),
 Value.string
 s152),
 ((1 :
 Nat),
 Value.int
 IntKind.i64
 i153),
 ((2 :
 Nat),
 Value.int
 IntKind.i64
 i154),
 ((3 :
 Nat),
 Value.int
 IntKind.i64
 i155),
 ((4 :
 Nat),
 Value.int
 IntKind.i64
 i156),
 ((5 :
 Nat),
 Value.int
 IntKind.u32
 i157),
 ((6 :
 Nat),
 Value.int
 IntKind.i64
 i158)])] →
 bif
 decide
 (i172 <
 (↑n :
 Int)) then
 ((0 :
 Int) ≤
 i172 ∧
 i172 <
 (↑n :
 Int)) ∧
 SX.Ptr
 q
 fun
 (a175 :
 Addr) =>
 ∃
 (s176
 :
 ByteArray),
 w174.drew.cell?
 ((a175.add
 (i172.toNat *
 (7 :
 Nat))).add
 (0 :
 Nat)) =
 some
 (Value.string
 s176) ∧
 bif
 s176.toList ==
 s124.toList then
 Wr
 IntKind.i64
 (i172 +
 (1 :
 Int))
 fun
 (i177 :
 Int) =>
 SameVals
 [Value.string
 s124,
 Value.int
 IntKind.i64
 i125,
 Value.int
 IntKind.i64
 i126,
 Value.int
 IntKind.i64
 i127,
 Value.int
 IntKind.i64
 i128,
 Value.int
 IntKind.u32
 i129,
 Value.int
 IntKind.i64
 i130,
 Value.string
 s131,
 Value.int
 IntKind.i64
 i132,
 Value.int
 IntKind.i64
 i133,
 Value.int
 IntKind.i64
 i134,
 Value.int
 IntKind.i64
 i135,
 Value.int
 IntKind.u32
 i136,
 Value.int
 IntKind.i64
 i137,
 Value.string
 s138,
 Value.int
 IntKind.i64
 i139,
 Value.int
 IntKind.i64
 i140,
 Value.int
 IntKind.i64
 i141,
 Value.int
 IntKind.i64
 i142,
 Value.int
 IntKind.u32
 i143,
 Value.int
 IntKind.i64
 i144,
 Value.string
 s145,
 Value.int
 IntKind.i64
 i146,
 Value.int
 IntKind.i64
 i147,
 Value.int
 IntKind.i64
 i148,
 Value.int
 IntKind.i64
 i149,
 Value.int
 IntKind.u32
 i150,
 Value.int
 IntKind.i64
 i151,
 Value.string
 s152,
 Value.int
 IntKind.i64
 i153,
 Value.int
 IntKind.i64
 i154,
 Value.int
 IntKind.i64
 i155,
 Value.int
 IntKind.i64
 i156,
 Value.int
 IntKind.u32
 i157,
 Value.int
 IntKind.i64
 i158]
 [Value.string
 s124,
 Value.int
 IntKind.i64
 i125,
 Value.int
 IntKind.i64
 i126,
 Value.int
 IntKind.i64
 i127,
 Value.int
 IntKind.i64
 i128,
 Value.int
 IntKind.u32
 i129,
 Value.int
 IntKind.i64
 i130,
 Value.string
 s131,
 Value.int
 IntKind.i64
 i132,
 Value.int
 IntKind.i64
 i133,
 Value.int
 IntKind.i64
 i134,
 Value.int
 IntKind.i64
 i135,
 Value.int
 IntKind.u32
 i136,
 Value.int
 IntKind.i64
 i137,
 Value.string
 s138,
 Value.int
 IntKind.i64
 i139,
 Value.int
 IntKind.i64
 i140,
 Value.int
 IntKind.i64
 i141,
 Value.int
 IntKind.i64
 i142,
 Value.int
 IntKind.u32
 i143,
 Value.int
 IntKind.i64
 i144,
 Value.string
 s145,
 Value.int
 IntKind.i64
 i146,
 Value.int
 IntKind.i64
 i147,
 Value.int
 IntKind.i64
 i148,
 Value.int
 IntKind.i64
 i149,
 Value.int
 IntKind.u32
 i150,
 Value.int
 IntKind.i64
 i151,
 Value.string
 s152,
 Value.int
 IntKind.i64
 i153,
 Value.int
 IntKind.i64
 i154,
 Value.int
 IntKind.i64
 i155,
 Value.int
 IntKind.i64
 i156,
 Value.int
 IntKind.u32
 i157,
 Value.int
 IntKind.i64
 i158] ∧
 I170
 i177
 i173
 w174.drew ∧
 I171
 i177
 i173
 w174.drew <
 I171
 i172
 i173
 w174
 else
 bif
 decide
 (i173 ≥
 (↑n121 :
 Int)) then
 Known
 w174.drew.drew
 [(w.heap.size,
 [((0 :
 Nat),
 Value.string
 s124),
 ((1 :
 Nat),
 Value.int
 IntKind.i64
 i125),
 ((2 :
 Nat),
 Value.int
 IntKind.i64
 i126),
 ((3 :
 Nat),
 Value.int
 IntKind.i64
 i127),
 ((4 :
 Nat),
 Value.int
 IntKind.i64
 i128),
 ((5 :
 Nat),
 Value.int
 IntKind.u32
 i129),
 ((6 :
 Nat),
 Value.int
 IntKind.i64
 i130)]),
 (w20.heap.size,
 [((0 :
 Nat),
 Value.string
 s131),
 ((1 :
 Nat),
 Value.int
 IntKind.i64
 i132),
 ((2 :
 Nat),
 Value.int
 IntKind.i64
 i133),
 ((3 :
 Nat),
 Value.int
 IntKind.i64
 i134),
 ((4 :
 Nat),
 Value.int
 IntKind.i64
 i135),
 ((5 :
 Nat),
 Value.int
 IntKind.u32
 i136),
 ((6 :
 Nat),
 Value.int
 IntKind.i64
 i137)]),
 (w30.heap.size,
 [((0 :
 Nat),
 Value.string
 s138),
 ((1 :
 Nat),
 Value.int
 IntKind.i64
 i139),
 ((2 :
 Nat),
 Value.int
 IntKind.i64
 i140),
 ((3 :
 Nat),
 Value.int
 IntKind.i64
 i141),
 ((4 :
 Nat),
 Value.int
 IntKind.i64
 i142),
 ((5 :
 Nat),
 Value.int
 IntKind.u32
 i143),
 ((6 :
 Nat),
 Value.int
 IntKind.i64
 i144)]),
 (w66.heap.size,
 [((0 :
 Nat),
 Value.string
 s145),
 ((1 :
 Nat),
 Value.int
 IntKind.i64
 i146),
 ((2 :
 Nat),
 Value.int
 IntKind.i64
 i147),
 ((3 :
 Nat),
 Value.int
 IntKind.i64
 i148),
 ((4 :
 Nat),
 Value.int
 IntKind.i64
 i149),
 ((5 :
 Nat),
 Value.int
 IntKind.u32
 i150),
 ((6 :
 Nat),
 Value.int
 IntKind.i64
 i151)]),
 (w109.heap.size,
 [((0 :
 Nat),
 Value.string
 s152),
 ((1 :
 Nat),
 Value.int
 IntKind.i64
 i153),
 ((2 :
 Nat),
 Value.int
 IntKind.i64
 i154),
 ((3 :
 Nat),
 Value.int
 IntKind.i64
 i155),
 ((4 :
 Nat),
 Value.int
 IntKind.i64
 i156),
 ((5 :
 Nat),
 Value.int
 IntKind.u32
 i157),
 ((6 :
 Nat),
 Value.int
 IntKind.i64
 i158)])] →
 R
 (Ending.returned
 (Value.bool
 false))
 w174.drew.drew
 else
 ((0 :
 Int) ≤
 i173 ∧
 i173 <
 (↑n121 :
 Int)) ∧
 SX.Ptr
 q120
 fun
 (a178 :
 Addr) =>
 ∃
 (s179
 :
 ByteArray),
 ∃
 (i180
 :
 Int),
 ∃
 (i181
 :
 Int),
 ∃
 (i182
 :
 Int),
 ∃
 (i183
 :
 Int),
 ∃
 (i184
 :
 Int),
 ∃
 (i185
 :
 Int),
 (w174.drew.drew.cell?
 ((a178.add
 (i173.toNat *
 (7 :
 Nat))).add
 (0 :
 Nat)) =
 some
 (Value.string
 s179) ∧
 w174.drew.drew.cell?
 ((a178.add
 (i173.toNat *
 (7 :
 Nat))).add
 (1 :
 Nat)) =
 some
 (Value.int
 IntKind.i64
 i180) ∧
 w174.drew.drew.cell?
 ((a178.add
 (i173.toNat *
 (7 :
 Nat))).add
 (2 :
 Nat)) =
 some
 (Value.int
 IntKind.i64
 i181) ∧
 w174.drew.drew.cell?
 ((a178.add
 (i173.toNat *
 (7 :
 Nat))).add
 (3 :
 Nat)) =
 some
 (Value.int
 IntKind.i64
 i182) ∧
 w174.drew.drew.cell?
 ((a178.add
 (i173.toNat *
 (7 :
 Nat))).add
 (4 :
 Nat)) =
 some
 (Value.int
 IntKind.i64
 i183) ∧
 w174.drew.drew.cell?
 ((a178.add
 (i173.toNat *
 (7 :
 Nat))).add
 (5 :
 Nat)) =
 some
 (Value.int
 IntKind.u32
 i184) ∧
 w174.drew.drew.cell?
 ((a178.add
 (i173.toNat *
 (7 :
 Nat))).add
 (6 :
 Nat)) =
 some
 (Value.int
 IntKind.i64
 i185) ∧
 True) ∧
 ((0 :
 Int) ≤
 i172 ∧
 i172 <
 (↑n :
 Int)) ∧
 SX.Ptr
 q
 fun
 (a186 :
 Addr) =>
 ∃
 (s187
 :
 ByteArray),
 ∃
 (i188
 :
 Int),
 ∃
 (i189
 :
 Int),
 ∃
 (i190
 :
 Int),
 ∃
 (i191
 :
 Int),
 ∃
 (i192
 :
 Int),
 ∃
 (i193
 :
 Int),
 (w174.drew.drew.cell?
 ((a186.add
 (i172.toNat *
 (7 :
 Nat))).add
 (0 :
 Nat)) =
 some
 (Value.string
 s187) ∧
 w174.drew.drew.cell?
 ((a186.add
 (i172.toNat *
 (7 :
 Nat))).add
 (1 :
 Nat)) =
 some
 (Value.int
 IntKind.i64
 i188) ∧
 w174.drew.drew.cell?
 ((a186.add
 (i172.toNat *
 (7 :
 Nat))).add
 (2 :
 Nat)) =
 some
 (Value.int
 IntKind.i64
 i189) ∧
 w174.drew.drew.cell?
 ((a186.add
 (i172.toNat *
 (7 :
 Nat))).add
 (3 :
 Nat)) =
 some
 (Value.int
 IntKind.i64
 i190) ∧
 w174.drew.drew.cell?
 ((a186.add
 (i172.toNat *
 (7 :
 Nat))).add
 (4 :
 Nat)) =
 some
 (Value.int
 IntKind.i64
 i191) ∧
 w174.drew.drew.cell?
 ((a186.add
 (i172.toNat *
 (7 :
 Nat))).add
 (5 :
 Nat)) =
 some
 (Value.int
 IntKind.u32
 i192) ∧
 w174.drew.drew.cell?
 ((a186.add
 (i172.toNat *
 (7 :
 Nat))).add
 (6 :
 Nat)) =
 some
 (Value.int
 IntKind.i64
 i193) ∧
 True) ∧
 true =
 true ∧
 bif
 !(s179.toList ==
 s187.toList &&
 (i180 ==
 i188 &&
 (i181 ==
 i189 &&
 (i182 ==
 i190 &&
 (i183 ==
 i191 &&
 (i184 ==
 i192 &&
 i185 ==
 i193)))))) then
 Known
 w174.drew.drew
 [(w.heap.size,
 [((0 :
 Nat),
 Value.string
 s124),
 ((1 :
 Nat),
 Value.int
 IntKind.i64
 i125),
 ((2 :
 Nat),
 Value.int
 IntKind.i64
 i126),
 ((3 :
 Nat),
 Value.int
 IntKind.i64
 i127),
 ((4 :
 Nat),
 Value.int
 IntKind.i64
 i128),
 ((5 :
 Nat),
 Value.int
 IntKind.u32
 i129),
 ((6 :
 Nat),
 Value.int
 IntKind.i64
 i130)]),
 (w20.heap.size,
 [((0 :
 Nat),
 Value.string
 s131),
 ((1 :
 Nat),
 Value.int
 IntKind.i64
 i132),
 ((2 :
 Nat),
 Value.int
 IntKind.i64
 i133),
 ((3 :
 Nat),
 Value.int
 IntKind.i64
 i134),
 ((4 :
 Nat),
 Value.int
 IntKind.i64
 i135),
 ((5 :
 Nat),
 Value.int
 IntKind.u32
 i136),
 ((6 :
 Nat),
 Value.int
 IntKind.i64
 i137)]),
 (w30.heap.size,
 [((0 :
 Nat),
 Value.string
 s138),
 ((1 :
 Nat),
 Value.int
 IntKind.i64
 i139),
 ((2 :
 Nat),
 Value.int
 IntKind.i64
 i140),
 ((3 :
 Nat),
 Value.int
 IntKind.i64
 i141),
 ((4 :
 Nat),
 Value.int
 IntKind.i64
 i142),
 ((5 :
 Nat),
 Value.int
 IntKind.u32
 i143),
 ((6 :
 Nat),
 Value.int
 IntKind.i64
 i144)]),
 (w66.heap.size,
 [((0 :
 Nat),
 Value.string
 s145),
 ((1 :
 Nat),
 Value.int
 IntKind.i64
 i146),
 ((2 :
 Nat),
 Value.int
 IntKind.i64
 i147),
 ((3 :
 Nat),
 Value.int
 IntKind.i64
 i148),
 ((4 :
 Nat),
 Value.int
 IntKind.i64
 i149),
 ((5 :
 Nat),
 Value.int
 IntKind.u32
 i150),
 ((6 :
 Nat),
 Value.int
 IntKind.i64
 i151)]),
 (w109.heap.size,
 [((0 :
 Nat),
 Value.string
 s152),
 ((1 :
 Nat),
 Value.int
 IntKind.i64
 i153),
 ((2 :
 Nat),
 Value.int
 IntKind.i64
 i154),
 ((3 :
 Nat),
 Value.int
 IntKind.i64
 i155),
 ((4 :
 Nat),
 Value.int
 IntKind.i64
 i156),
 ((5 :
 Nat),
 Value.int
 IntKind.u32
 i157),
 ((6 :
 Nat),
 Value.int
 IntKind.i64
 i158)])] →
 R
 (Ending.returned
 (Value.bool
 false))
 w174.drew.drew
 else
 Wr
 IntKind.i64
 (i173 +
 (1 :
 Int))
 fun
 (i194 :
 Int) =>
 Wr
 IntKind.i64
 (i172 +
 (1 :
 Int))
 fun
 (i195 :
 Int) =>
 SameVals
 [Value.string
 s124,
 Value.int
 IntKind.i64
 i125,
 Value.int
 IntKind.i64
 i126,
 Value.int
 IntKind.i64
 i127,
 Value.int
 IntKind.i64
 i128,
 Value.int
 IntKind.u32
 i129,
 Value.int
 IntKind.i64
 i130,
 Value.string
 s131,
 Value.int
 IntKind.i64
 i132,
 Value.int
 IntKind.i64
 i133,
 Value.int
 IntKind.i64
 i134,
 Value.int
 IntKind.i64
 i135,
 Value.int
 IntKind.u32
 i136,
 Value.int
 IntKind.i64
 i137,
 Value.string
 s138,
 Value.int
 IntKind.i64
 i139,
 Value.int
 IntKind.i64
 i140,
 Value.int
 IntKind.i64
 i141,
 Value.int
 IntKind.i64
 i142,
 Value.int
 IntKind.u32
 i143,
 Value.int
 IntKind.i64
 i144,
 Value.string
 s145,
 Value.int
 IntKind.i64
 i146,
 Value.int
 IntKind.i64
 i147,
 Value.int
 IntKind.i64
 i148,
 Value.int
 IntKind.i64
 i149,
 Value.int
 IntKind.u32
 i150,
 Value.int
 IntKind.i64
 i151,
 Value.string
 s152,
 Value.int
 IntKind.i64
 i153,
 Value.int
 IntKind.i64
 i154,
 Value.int
 IntKind.i64
 i155,
 Value.int
 IntKind.i64
 i156,
 Value.int
 IntKind.u32
 i157,
 Value.int
 IntKind.i64
 i158]
 [Value.string
 s124,
 Value.int
 IntKind.i64
 i125,
 Value.int
 IntKind.i64
 i126,
 Value.int
 IntKind.i64
 i127,
 Value.int
 IntKind.i64
 i128,
 Value.int
 IntKind.u32
 i129,
 Value.int
 IntKind.i64
 i130,
 Value.string
 s131,
 Value.int
 IntKind.i64
 i132,
 Value.int
 IntKind.i64
 i133,
 Value.int
 IntKind.i64
 i134,
 Value.int
 IntKind.i64
 i135,
 Value.int
 IntKind.u32
 i136,
 Value.int
 IntKind.i64
 i137,
 Value.string
 s138,
 Value.int
 IntKind.i64
 i139,
 Value.int
 IntKind.i64
 i140,
 Value.int
 IntKind.i64
 i141,
 Value.int
 IntKind.i64
 i142,
 Value.int
 IntKind.u32
 i143,
 Value.int
 IntKind.i64
 i144,
 Value.string
 s145,
 Value.int
 IntKind.i64
 i146,
 Value.int
 IntKind.i64
 i147,
 Value.int
 IntKind.i64
 i148,
 Value.int
 IntKind.i64
 i149,
 Value.int
 IntKind.u32
 i150,
 Value.int
 IntKind.i64
 i151,
 Value.string
 s152,
 Value.int
 IntKind.i64
 i153,
 Value.int
 IntKind.i64
 i154,
 Value.int
 IntKind.i64
 i155,
 Value.int
 IntKind.i64
 i156,
 Value.int
 IntKind.u32
 i157,
 Value.int
 IntKind.i64
 i158] ∧
 I170
 i195
 i194
 w174.drew.drew ∧
 I171
 i195
 i194
 w174.drew.drew <
 I171
 i172
 i173
 w174
 else
 bif
 i173 ==
 (↑n121 :
 Int) then
 Known
 w174
 [(w.heap.size,
 [((0 :
 Nat),
 Value.string
 s124),
 ((1 :
 Nat),
 Value.int
 IntKind.i64
 i125),
 ((2 :
 Nat),
 Value.int
 IntKind.i64
 i126),
 ((3 :
 Nat),
 Value.int
 IntKind.i64
 i127),
 ((4 :
 Nat),
 Value.int
 IntKind.i64
 i128),
 ((5 :
 Nat),
 Value.int
 IntKind.u32
 i129),
 ((6 :
 Nat),
 Value.int
 IntKind.i64
 i130)]),
 (w20.heap.size,
 [((0 :
 Nat),
 Value.string
 s131),
 ((1 :
 Nat),
 Value.int
 IntKind.i64
 i132),
 ((2 :
 Nat),
 Value.int
 IntKind.i64
 i133),
 ((3 :
 Nat),
 Value.int
 IntKind.i64
 i134),
 ((4 :
 Nat),
 Value.int
 IntKind.i64
 i135),
 ((5 :
 Nat),
 Value.int
 IntKind.u32
 i136),
 ((6 :
 Nat),
 Value.int
 IntKind.i64
 i137)]),
 (w30.heap.size,
 [((0 :
 Nat),
 Value.string
 s138),
 ((1 :
 Nat),
 Value.int
 IntKind.i64
 i139),
 ((2 :
 Nat),
 Value.int
 IntKind.i64
 i140),
 ((3 :
 Nat),
 Value.int
 IntKind.i64
 i141),
 ((4 :
 Nat),
 Value.int
 IntKind.i64
 i142),
 ((5 :
 Nat),
 Value.int
 IntKind.u32
 i143),
 ((6 :
 Nat),
 Value.int
 IntKind.i64
 i144)]),
 (w66.heap.size,
 [((0 :
 Nat),
 Value.string
 s145),
 ((1 :
 Nat),
 Value.int
 IntKind.i64
 i146),
 ((2 :
 Nat),
 Value.int
 IntKind.i64
 i147),
 ((3 :
 Nat),
 Value.int
 IntKind.i64
 i148),
 ((4 :
 Nat),
 Value.int
 IntKind.i64
 i149),
 ((5 :
 Nat),
 Value.int
 IntKind.u32
 i150),
 ((6 :
 Nat),
 Value.int
 IntKind.i64
 i151)]),
 (w109.heap.size,
 [((0 :
 Nat),
 Value.string
 s152),
 ((1 :
 Nat),
 Value.int
 IntKind.i64
 i153),
 ((2 :
 Nat),
 Value.int
 IntKind.i64
 i154),
 ((3 :
 Nat),
 Value.int
 IntKind.i64
 i155),
 ((4 :
 Nat),
 Value.int
 IntKind.i64
 i156),
 ((5 :
 Nat),
 Value.int
 IntKind.u32
 i157),
 ((6 :
 Nat),
 Value.int
 IntKind.i64
 i158)])] →
 Rets
 Tryd.prog
 (66 :
 Nat)
 #[]
 w174
 fun
 (v196 :
 Value)
 (w197 :
 World) =>
 ∃
 (t198
 :
 Bool),
 v196 =
 Value.bool
 t198 ∧
 Keeps
 w174
 w197
 [w.heap.size,
 w20.heap.size,
 w30.heap.size,
 w66.heap.size,
 w109.heap.size] ∧
 (Known
 w197
 [(w.heap.size,
 [((0 :
 Nat),
 Value.string
 s124),
 ((1 :
 Nat),
 Value.int
 IntKind.i64
 i125),
 ((2 :
 Nat),
 Value.int
 IntKind.i64
 i126),
 ((3 :
 Nat),
 Value.int
 IntKind.i64
 i127),
 ((4 :
 Nat),
 Value.int
 IntKind.i64
 i128),
 ((5 :
 Nat),
 Value.int
 IntKind.u32
 i129),
 ((6 :
 Nat),
 Value.int
 IntKind.i64
 i130)]),
 (w20.heap.size,
 [((0 :
 Nat),
 Value.string
 s131),
 ((1 :
 Nat),
 Value.int
 IntKind.i64
 i132),
 ((2 :
 Nat),
 Value.int
 IntKind.i64
 i133),
 ((3 :
 Nat),
 Value.int
 IntKind.i64
 i134),
 ((4 :
 Nat),
 Value.int
 IntKind.i64
 i135),
 ((5 :
 Nat),
 Value.int
 IntKind.u32
 i136),
 ((6 :
 Nat),
 Value.int
 IntKind.i64
 i137)]),
 (w30.heap.size,
 [((0 :
 Nat),
 Value.string
 s138),
 ((1 :
 Nat),
 Value.int
 IntKind.i64
 i139),
 ((2 :
 Nat),
 Value.int
 IntKind.i64
 i140),
 ((3 :
 Nat),
 Value.int
 IntKind.i64
 i141),
 ((4 :
 Nat),
 Value.int
 IntKind.i64
 i142),
 ((5 :
 Nat),
 Value.int
 IntKind.u32
 i143),
 ((6 :
 Nat),
 Value.int
 IntKind.i64
 i144)]),
 (w66.heap.size,
 [((0 :
 Nat),
 Value.string
 s145),
 ((1 :
 Nat),
 Value.int
 IntKind.i64
 i146),
 ((2 :
 Nat),
 Value.int
 IntKind.i64
 i147),
 ((3 :
 Nat),
 Value.int
 IntKind.i64
 i148),
 ((4 :
 Nat),
 Value.int
 IntKind.i64
 i149),
 ((5 :
 Nat),
 Value.int
 IntKind.u32
 i150),
 ((6 :
 Nat),
 Value.int
 IntKind.i64
 i151)]),
 (w109.heap.size,
 [((0 :
 Nat),
 Value.string
 s152),
 ((1 :
 Nat),
 Value.int
 IntKind.i64
 i153),
 ((2 :
 Nat),
 Value.int
 IntKind.i64
 i154),
 ((3 :
 Nat),
 Value.int
 IntKind.i64
 i155),
 ((4 :
 Nat),
 Value.int
 IntKind.i64
 i156),
 ((5 :
 Nat),
 Value.int
 IntKind.u32
 i157),
 ((6 :
 Nat),
 Value.int
 IntKind.i64
 i158)])] →
 R
 (Ending.returned
 (Value.bool
 t198))
 w197)
 else
 Known
 w174
 [(w.heap.size,
 [((0 :
 Nat),
 Value.string
 s124),
 ((1 :
 Nat),
 Value.int
 IntKind.i64
 i125),
 ((2 :
 Nat),
 Value.int
 IntKind.i64
 i126),
 ((3 :
 Nat),
 Value.int
 IntKind.i64
 i127),
 ((4 :
 Nat),
 Value.int
 IntKind.i64
 i128),
 ((5 :
 Nat),
 Value.int
 IntKind.u32
 i129),
 ((6 :
 Nat),
 Value.int
 IntKind.i64
 i130)]),
 (w20.heap.size,
 [((0 :
 Nat),
 Value.string
 s131),
 ((1 :
 Nat),
 Value.int
 IntKind.i64
 i132),
 ((2 :
 Nat),
 Value.int
 IntKind.i64
 i133),
 ((3 :
 Nat),
 Value.int
 IntKind.i64
 i134),
 ((4 :
 Nat),
 Value.int
 IntKind.i64
 i135),
 ((5 :
 Nat),
 Value.int
 IntKind.u32
 i136),
 ((6 :
 Nat),
 Value.int
 IntKind.i64
 i137)]),
 (w30.heap.size,
 [((0 :
 Nat),
 Value.string
 s138),
 ((1 :
 Nat),
 Value.int
 IntKind.i64
 i139),
 ((2 :
 Nat),
 Value.int
 IntKind.i64
 i140),
 ((3 :
 Nat),
 Value.int
 IntKind.i64
 i141),
 ((4 :
 Nat),
 Value.int
 IntKind.i64
 i142),
 ((5 :
 Nat),
 Value.int
 IntKind.u32
 i143),
 ((6 :
 Nat),
 Value.int
 IntKind.i64
 i144)]),
 (w66.heap.size,
 [((0 :
 Nat),
 Value.string
 s145),
 ((1 :
 Nat),
 Value.int
 IntKind.i64
 i146),
 ((2 :
 Nat),
 Value.int
 IntKind.i64
 i147),
 ((3 :
 Nat),
 Value.int
 IntKind.i64
 i148),
 ((4 :
 Nat),
 Value.int
 IntKind.i64
 i149),
 ((5 :
 Nat),
 Value.int
 IntKind.u32
 i150),
 ((6 :
 Nat),
 Value.int
 IntKind.i64
 i151)]),
 (w109.heap.size,
 [((0 :
 Nat),
 Value.string
 s152),
 ((1 :
 Nat),
 Value.int
 IntKind.i64
 i153),
 ((2 :
 Nat),
 Value.int
 IntKind.i64
 i154),
 ((3 :
 Nat),
 Value.int
 IntKind.i64
 i155),
 ((4 :
 Nat),
 Value.int
 IntKind.i64
 i156),
 ((5 :
 Nat),
 Value.int
 IntKind.u32
 i157),
 ((6 :
 Nat),
 Value.int
 IntKind.i64
 i158)])] →
 R
 (Ending.returned
 (Value.bool
 false))
 w174) ∧
 bif t117 then
 Known w119
 [(w.heap.size,
 [((0 : Nat),
 Value.string s76),
 ((1 : Nat),
 Value.int
 IntKind.i64 i77),
 ((2 : Nat),
 Value.int
 IntKind.i64 i78),
 ((3 : Nat),
 Value.int
 IntKind.i64 i79),
 ((4 : Nat),
 Value.int
 IntKind.i64 i80),
 ((5 : Nat),
 Value.int
 IntKind.u32 i81),
 ((6 : Nat),
 Value.int
 IntKind.i64
 i82)]),
 (w20.heap.size,
 [((0 : Nat),
 Value.string s83),
 ((1 : Nat),
 Value.int
 IntKind.i64 i84),
 ((2 : Nat),
 Value.int
 IntKind.i64 i85),
 ((3 : Nat),
 Value.int
 IntKind.i64 i86),
 ((4 : Nat),
 Value.int
 IntKind.i64 i87),
 ((5 : Nat),
 Value.int
 IntKind.u32 i88),
 ((6 : Nat),
 Value.int
 IntKind.i64
 i89)]),
 (w30.heap.size,
 [((0 : Nat),
 Value.string s90),
 ((1 : Nat),
 Value.int
 IntKind.i64 i91),
 ((2 : Nat),
 Value.int
 IntKind.i64 i92),
 ((3 : Nat),
 Value.int
 IntKind.i64 i93),
 ((4 : Nat),
 Value.int
 IntKind.i64 i94),
 ((5 : Nat),
 Value.int
 IntKind.u32 i95),
 ((6 : Nat),
 Value.int
 IntKind.i64
 i96)]),
 (w66.heap.size,
 [((0 : Nat),
 Value.string s97),
 ((1 : Nat),
 Value.int
 IntKind.i64 i98),
 ((2 : Nat),
 Value.int
 IntKind.i64 i99),
 ((3 : Nat),
 Value.int
 IntKind.i64 i100),
 ((4 : Nat),
 Value.int
 IntKind.i64 i101),
 ((5 : Nat),
 Value.int
 IntKind.u32 i102),
 ((6 : Nat),
 Value.int
 IntKind.i64
 i103)]),
 (w109.heap.size,
 [((0 : Nat),
 Value.string s110),
 ((1 : Nat),
 Value.int
 IntKind.i64 i111),
 ((2 : Nat),
 Value.int
 IntKind.i64 i112),
 ((3 : Nat),
 Value.int
 IntKind.i64 i113),
 ((4 : Nat),
 Value.int
 IntKind.i64 i114),
 ((5 : Nat),
 Value.int
 IntKind.u32 i115),
 ((6 : Nat),
 Value.int
 IntKind.i64
 i116)])] →
 R
 (Ending.returned
 (Value.bool false))
 w119
 else
 bif t38 then
 Wr IntKind.i64
 (i41 - (1 : Int))
 fun (i199 : Int) =>
 bif
 (↑n121 : Int) !=
 i199 then
 Known w119
 [(w.heap.size,
 [((0 : Nat),
 Value.string
 s76),
 ((1 : Nat),
 Value.int
 IntKind.i64
 i77),
 ((2 : Nat),
 Value.int
 IntKind.i64
 i78),
 ((3 : Nat),
 Value.int
 IntKind.i64
 i79),
 ((4 : Nat),
 Value.int
 IntKind.i64
 i80),
 ((5 : Nat),
 Value.int
 IntKind.u32
 i81),
 ((6 : Nat),
 Value.int
 IntKind.i64
 i82)]),
 (w20.heap.size,
 [((0 : Nat),
 Value.string
 s83),
 ((1 : Nat),
 Value.int
 IntKind.i64
 i84),
 ((2 : Nat),
 Value.int
 IntKind.i64
 i85),
 ((3 : Nat),
 Value.int
 IntKind.i64
 i86),
 ((4 : Nat),
 Value.int
 IntKind.i64
 i87),
 ((5 : Nat),
 Value.int
 IntKind.u32
 i88),
 ((6 : Nat),
 Value.int
 IntKind.i64
 i89)]),
 (w30.heap.size,
 [((0 : Nat),
 Value.string
 s90),
 ((1 : Nat),
 Value.int
 IntKind.i64
 i91),
 ((2 : Nat),
 Value.int
 IntKind.i64
 i92),
 ((3 : Nat),
 Value.int
 IntKind.i64
 i93),
 ((4 : Nat),
 Value.int
 IntKind.i64
 i94),
 ((5 : Nat),
 Value.int
 IntKind.u32
 i95),
 ((6 : Nat),
 Value.int
 IntKind.i64
 i96)]),
 (w66.heap.size,
 [((0 : Nat),
 Value.string
 s97),
 ((1 : Nat),
 Value.int
 IntKind.i64
 i98),
 ((2 : Nat),
 Value.int
 IntKind.i64
 i99),
 ((3 : Nat),
 Value.int
 IntKind.i64
 i100),
 ((4 : Nat),
 Value.int
 IntKind.i64
 i101),
 ((5 : Nat),
 Value.int
 IntKind.u32
 i102),
 ((6 : Nat),
 Value.int
 IntKind.i64
 i103)]),
 (w109.heap.size,
 [((0 : Nat),
 Value.string
 s110),
 ((1 : Nat),
 Value.int
 IntKind.i64
 i111),
 ((2 : Nat),
 Value.int
 IntKind.i64
 i112),
 ((3 : Nat),
 Value.int
 IntKind.i64
 i113),
 ((4 : Nat),
 Value.int
 IntKind.i64
 i114),
 ((5 : Nat),
 Value.int
 IntKind.u32
 i115),
 ((6 : Nat),
 Value.int
 IntKind.i64
 i116)])] →
 R
 (Ending.returned
 (Value.bool false))
 w119
 else
 bif !t38 then
 bif
 (↑n121 : Int) !=
 i41 then
 Known w119
 [(w.heap.size,
 [((0 : Nat),
 Value.string
 s76),
 ((1 : Nat),
 Value.int
 IntKind.i64
 i77),
 ((2 : Nat),
 Value.int
 IntKind.i64
 i78),
 ((3 : Nat),
 Value.int
 IntKind.i64
 i79),
 ((4 : Nat),
 Value.int
 IntKind.i64
 i80),
 ((5 : Nat),
 Value.int
 IntKind.u32
 i81),
 ((6 : Nat),
 Value.int
 IntKind.i64
 i82)]),
 (w20.heap.size,
 [((0 : Nat),
 Value.string
 s83),
 ((1 : Nat),
 Value.int
 IntKind.i64
 i84),
 ((2 : Nat),
 Value.int
 IntKind.i64
 i85),
 ((3 : Nat),
 Value.int
 IntKind.i64
 i86),
 ((4 : Nat),
 Value.int
 IntKind.i64
 i87),
 ((5 : Nat),
 Value.int
 IntKind.u32
 i88),
 ((6 : Nat),
 Value.int
 IntKind.i64
 i89)]),
 (w30.heap.size,
 [((0 : Nat),
 Value.string
 s90),
 ((1 : Nat),
 Value.int
 IntKind.i64
 i91),
 ((2 : Nat),
 Value.int
 IntKind.i64
 i92),
 ((3 : Nat),
 Value.int
 IntKind.i64
 i93),
 ((4 : Nat),
 Value.int
 IntKind.i64
 i94),
 ((5 : Nat),
 Value.int
 IntKind.u32
 i95),
 ((6 : Nat),
 Value.int
 IntKind.i64
 i96)]),
 (w66.heap.size,
 [((0 : Nat),
 Value.string
 s97),
 ((1 : Nat),
 Value.int
 IntKind.i64
 i98),
 ((2 : Nat),
 Value.int
 IntKind.i64
 i99),
 ((3 : Nat),
 Value.int
 IntKind.i64
 i100),
 ((4 : Nat),
 Value.int
 IntKind.i64
 i101),
 ((5 : Nat),
 Value.int
 IntKind.u32
 i102),
 ((6 : Nat),
 Value.int
 IntKind.i64
 i103)]),
 (w109.heap.size,
 [((0 : Nat),
 Value.string
 s110),
 ((1 : Nat),
 Value.int
 IntKind.i64
 i111),
 ((2 : Nat),
 Value.int
 IntKind.i64
 i112),
 ((3 : Nat),
 Value.int
 IntKind.i64
 i113),
 ((4 : Nat),
 Value.int
 IntKind.i64
 i114),
 ((5 : Nat),
 Value.int
 IntKind.u32
 i115),
 ((6 : Nat),
 Value.int
 IntKind.i64
 i116)])] →
 R
 (Ending.returned
 (Value.bool
 false))
 w119
 else
 I123 s76 i77 i78 i79
 i80 i81 i82 s83 i84
 i85 i86 i87 i88 i89
 s90 i91 i92 i93 i94
 i95 i96 s97 i98 i99
 i100 i101 i102 i103
 s110 i111 i112 i113
 i114 i115 i116 w119
 else
 I123 s76 i77 i78 i79 i80
 i81 i82 s83 i84 i85
 i86 i87 i88 i89 s90
 i91 i92 i93 i94 i95
 i96 s97 i98 i99 i100
 i101 i102 i103 s110
 i111 i112 i113 i114
 i115 i116 w119
 else
 bif !t38 then
 bif
 (↑n121 : Int) !=
 i41 then
 Known w119
 [(w.heap.size,
 [((0 : Nat),
 Value.string
 s76),
 ((1 : Nat),
 Value.int
 IntKind.i64
 i77),
 ((2 : Nat),
 Value.int
 IntKind.i64
 i78),
 ((3 : Nat),
 Value.int
 IntKind.i64
 i79),
 ((4 : Nat),
 Value.int
 IntKind.i64
 i80),
 ((5 : Nat),
 Value.int
 IntKind.u32
 i81),
 ((6 : Nat),
 Value.int
 IntKind.i64
 i82)]),
 (w20.heap.size,
 [((0 : Nat),
 Value.string
 s83),
 ((1 : Nat),
 Value.int
 IntKind.i64
 i84),
 ((2 : Nat),
 Value.int
 IntKind.i64
 i85),
 ((3 : Nat),
 Value.int
 IntKind.i64
 i86),
 ((4 : Nat),
 Value.int
 IntKind.i64
 i87),
 ((5 : Nat),
 Value.int
 IntKind.u32
 i88),
 ((6 : Nat),
 Value.int
 IntKind.i64
 i89)]),
 (w30.heap.size,
 [((0 : Nat),
 Value.string
 s90),
 ((1 : Nat),
 Value.int
 IntKind.i64
 i91),
 ((2 : Nat),
 Value.int
 IntKind.i64
 i92),
 ((3 : Nat),
 Value.int
 IntKind.i64
 i93),
 ((4 : Nat),
 Value.int
 IntKind.i64
 i94),
 ((5 : Nat),
 Value.int
 IntKind.u32
 i95),
 ((6 : Nat),
 Value.int
 IntKind.i64
 i96)]),
 (w66.heap.size,
 [((0 : Nat),
 Value.string
 s97),
 ((1 : Nat),
 Value.int
 IntKind.i64
 i98),
 ((2 : Nat),
 Value.int
 IntKind.i64
 i99),
 ((3 : Nat),
 Value.int
 IntKind.i64
 i100),
 ((4 : Nat),
 Value.int
 IntKind.i64
 i101),
 ((5 : Nat),
 Value.int
 IntKind.u32
 i102),
 ((6 : Nat),
 Value.int
 IntKind.i64
 i103)]),
 (w109.heap.size,
 [((0 : Nat),
 Value.string
 s110),
 ((1 : Nat),
 Value.int
 IntKind.i64
 i111),
 ((2 : Nat),
 Value.int
 IntKind.i64
 i112),
 ((3 : Nat),
 Value.int
 IntKind.i64
 i113),
 ((4 : Nat),
 Value.int
 IntKind.i64
 i114),
 ((5 : Nat),
 Value.int
 IntKind.u32
 i115),
 ((6 : Nat),
 Value.int
 IntKind.i64
 i116)])] →
 R
 (Ending.returned
 (Value.bool false))
 w119
 else
 I123 s76 i77 i78 i79 i80
 i81 i82 s83 i84 i85 i86
 i87 i88 i89 s90 i91 i92
 i93 i94 i95 i96 s97 i98
 i99 i100 i101 i102 i103
 s110 i111 i112 i113 i114
 i115 i116 w119
 else
 I123 s76 i77 i78 i79 i80 i81
 i82 s83 i84 i85 i86 i87
 i88 i89 s90 i91 i92 i93
 i94 i95 i96 s97 i98 i99
 i100 i101 i102 i103 s110
 i111 i112 i113 i114 i115
 i116 w119))) ∧
 true = true ∧
 bif
 !(s67.toList == s50.toList &&
 (i68 == i51 &&
 (i69 == i52 &&
 (i70 == i53 && (i71 == i54 && (i72 == i55 && i73 == i56)))))) then
 Known
 ((((((((w66.alloc
 (Obj.cells
 #[Value.string { data := #[] },
 Value.int IntKind.i64 (0 : Int),
 Value.int IntKind.i64 (0 : Int),
 Value.int IntKind.i64 (0 : Int),
 Value.int IntKind.i64 (0 : Int),
 Value.int IntKind.u32 (0 : Int),
 Value.int IntKind.i64 (0 : Int)]
 (50 : Nat))).setCell
 {block := w66.heap.size, off := (0 : Nat) }
 (Value.string s67)).setCell
 {block := w66.heap.size, off := (1 : Nat) }
 (Value.int IntKind.i64 i68)).setCell
 {block := w66.heap.size, off := (2 : Nat) }
 (Value.int IntKind.i64 i69)).setCell
 {block := w66.heap.size, off := (3 : Nat) }
 (Value.int IntKind.i64 i70)).setCell
 {block := w66.heap.size, off := (4 : Nat) }
 (Value.int IntKind.i64 i71)).setCell
 {block := w66.heap.size, off := (5 : Nat) }
 (Value.int IntKind.u32 i72)).setCell
 {block := w66.heap.size, off := (6 : Nat) } (Value.int IntKind.i64 i73))
 [(w.heap.size,
 [((0 : Nat), Value.string s43), ((1 : Nat), Value.int IntKind.i64 i44),
 ((2 : Nat), Value.int IntKind.i64 i45),
 ((3 : Nat), Value.int IntKind.i64 i46),
 ((4 : Nat), Value.int IntKind.i64 i47),
 ((5 : Nat), Value.int IntKind.u32 i48),
 ((6 : Nat), Value.int IntKind.i64 i49)]),
 (w20.heap.size,
 [((0 : Nat), Value.string s50), ((1 : Nat), Value.int IntKind.i64 i51),
 ((2 : Nat), Value.int IntKind.i64 i52),
 ((3 : Nat), Value.int IntKind.i64 i53),
 ((4 : Nat), Value.int IntKind.i64 i54),
 ((5 : Nat), Value.int IntKind.u32 i55),
 ((6 : Nat), Value.int IntKind.i64 i56)]),
 (w30.heap.size,
 [((0 : Nat), Value.string s57), ((1 : Nat), Value.int IntKind.i64 i58),
 ((2 : Nat), Value.int IntKind.i64 i59),
 ((3 : Nat), Value.int IntKind.i64 i60),
 ((4 : Nat), Value.int IntKind.i64 i61),
 ((5 : Nat), Value.int IntKind.u32 i62),
 ((6 : Nat), Value.int IntKind.i64 i63)]),
 (w66.heap.size,
 [((0 : Nat), Value.string s67), ((1 : Nat), Value.int IntKind.i64 i68),
 ((2 : Nat), Value.int IntKind.i64 i69),
 ((3 : Nat), Value.int IntKind.i64 i70),
 ((4 : Nat), Value.int IntKind.i64 i71),
 ((5 : Nat), Value.int IntKind.u32 i72),
 ((6 : Nat), Value.int IntKind.i64 i73)])] →
 R (Ending.returned (Value.bool false))
 ((((((((w66.alloc
 (Obj.cells
 #[Value.string { data := #[] },
 Value.int IntKind.i64 (0 : Int),
 Value.int IntKind.i64 (0 : Int),
 Value.int IntKind.i64 (0 : Int),
 Value.int IntKind.i64 (0 : Int),
 Value.int IntKind.u32 (0 : Int),
 Value.int IntKind.i64 (0 : Int)]
 (50 : Nat))).setCell
 {block := w66.heap.size, off := (0 : Nat) }
 (Value.string s67)).setCell
 {block := w66.heap.size, off := (1 : Nat) }
 (Value.int IntKind.i64 i68)).setCell
 {block := w66.heap.size, off := (2 : Nat) }
 (Value.int IntKind.i64 i69)).setCell
 {block := w66.heap.size, off := (3 : Nat) }
 (Value.int IntKind.i64 i70)).setCell
 {block := w66.heap.size, off := (4 : Nat) }
 (Value.int IntKind.i64 i71)).setCell
 {block := w66.heap.size, off := (5 : Nat) }
 (Value.int IntKind.u32 i72)).setCell
 {block := w66.heap.size, off := (6 : Nat) } (Value.int IntKind.i64 i73))
 else
 bif !t74 == t28 then
 Known
 ((((((((w66.alloc
 (Obj.cells
 #[Value.string { data := #[] },
 Value.int IntKind.i64 (0 : Int),
 Value.int IntKind.i64 (0 : Int),
 Value.int IntKind.i64 (0 : Int),
 Value.int IntKind.i64 (0 : Int),
 Value.int IntKind.u32 (0 : Int),
 Value.int IntKind.i64 (0 : Int)]
 (50 : Nat))).setCell
 {block := w66.heap.size, off := (0 : Nat) }
 (Value.string s67)).setCell
 {block := w66.heap.size, off := (1 : Nat) }
 (Value.int IntKind.i64 i68)).setCell
 {block := w66.heap.size, off := (2 : Nat) }
 (Value.int IntKind.i64 i69)).setCell
 {block := w66.heap.size, off := (3 : Nat) }
 (Value.int IntKind.i64 i70)).setCell
 {block := w66.heap.size, off := (4 : Nat) }
 (Value.int IntKind.i64 i71)).setCell
 {block := w66.heap.size, off := (5 : Nat) }
 (Value.int IntKind.u32 i72)).setCell
 {block := w66.heap.size, off := (6 : Nat) } (Value.int IntKind.i64 i73))
 [(w.heap.size,
 [((0 : Nat), Value.string s43), ((1 : Nat), Value.int IntKind.i64 i44),
 ((2 : Nat), Value.int IntKind.i64 i45),
 ((3 : Nat), Value.int IntKind.i64 i46),
 ((4 : Nat), Value.int IntKind.i64 i47),
 ((5 : Nat), Value.int IntKind.u32 i48),
 ((6 : Nat), Value.int IntKind.i64 i49)]),
 (w20.heap.size,
 [((0 : Nat), Value.string s50), ((1 : Nat), Value.int IntKind.i64 i51),
 ((2 : Nat), Value.int IntKind.i64 i52),
 ((3 : Nat), Value.int IntKind.i64 i53),
 ((4 : Nat), Value.int IntKind.i64 i54),
 ((5 : Nat), Value.int IntKind.u32 i55),
 ((6 : Nat), Value.int IntKind.i64 i56)]),
 (w30.heap.size,
 [((0 : Nat), Value.string s57), ((1 : Nat), Value.int IntKind.i64 i58),
 ((2 : Nat), Value.int IntKind.i64 i59),
 ((3 : Nat), Value.int IntKind.i64 i60),
 ((4 : Nat), Value.int IntKind.i64 i61),
 ((5 : Nat), Value.int IntKind.u32 i62),
 ((6 : Nat), Value.int IntKind.i64 i63)]),
 (w66.heap.size,
 [((0 : Nat), Value.string s67), ((1 : Nat), Value.int IntKind.i64 i68),
 ((2 : Nat), Value.int IntKind.i64 i69),
 ((3 : Nat), Value.int IntKind.i64 i70),
 ((4 : Nat), Value.int IntKind.i64 i71),
 ((5 : Nat), Value.int IntKind.u32 i72),
 ((6 : Nat), Value.int IntKind.i64 i73)])] →
 R (Ending.returned (Value.bool false))
 ((((((((w66.alloc
 (Obj.cells
 #[Value.string { data := #[] },
 Value.int IntKind.i64 (0 : Int),
 Value.int IntKind.i64 (0 : Int),
 Value.int IntKind.i64 (0 : Int),
 Value.int IntKind.i64 (0 : Int),
 Value.int IntKind.u32 (0 : Int),
 Value.int IntKind.i64 (0 : Int)]
 (50 : Nat))).setCell
 {block := w66.heap.size, off := (0 : Nat) }
 (Value.string s67)).setCell
 {block := w66.heap.size, off := (1 : Nat) }
 (Value.int IntKind.i64 i68)).setCell
 {block := w66.heap.size, off := (2 : Nat) }
 (Value.int IntKind.i64 i69)).setCell
 {block := w66.heap.size, off := (3 : Nat) }
 (Value.int IntKind.i64 i70)).setCell
 {block := w66.heap.size, off := (4 : Nat) }
 (Value.int IntKind.i64 i71)).setCell
 {block := w66.heap.size, off := (5 : Nat) }
 (Value.int IntKind.u32 i72)).setCell
 {block := w66.heap.size, off := (6 : Nat) } (Value.int IntKind.i64 i73))
 else
 I75 s43 i44 i45 i46 i47 i48 i49 s50 i51 i52 i53 i54 i55 i56 s57 i58 i59 i60 i61 i62
 i63 s67 i68 i69 i70 i71 i72 i73
 ((((((((w66.alloc
 (Obj.cells
 #[Value.string { data := #[] },
 Value.int IntKind.i64 (0 : Int),
 Value.int IntKind.i64 (0 : Int),
 Value.int IntKind.i64 (0 : Int),
 Value.int IntKind.i64 (0 : Int),
 Value.int IntKind.u32 (0 : Int),
 Value.int IntKind.i64 (0 : Int)]
 (50 : Nat))).setCell
 {block := w66.heap.size, off := (0 : Nat) }
 (Value.string s67)).setCell
 {block := w66.heap.size, off := (1 : Nat) }
 (Value.int IntKind.i64 i68)).setCell
 {block := w66.heap.size, off := (2 : Nat) }
 (Value.int IntKind.i64 i69)).setCell
 {block := w66.heap.size, off := (3 : Nat) }
 (Value.int IntKind.i64 i70)).setCell
 {block := w66.heap.size, off := (4 : Nat) }
 (Value.int IntKind.i64 i71)).setCell
 {block := w66.heap.size, off := (5 : Nat) }
 (Value.int IntKind.u32 i72)).setCell
 {block := w66.heap.size, off := (6 : Nat) } (Value.int IntKind.i64 i73))) ∧
 (Known w40
 [(w.heap.size,
 [((0 : Nat), Value.string s), ((1 : Nat), Value.int IntKind.i64 a), ((2 : Nat), Value.int IntKind.i64 f),
 ((3 : Nat), Value.int IntKind.i64 r), ((4 : Nat), Value.int IntKind.i64 z), ((5 : Nat), Value.int IntKind.u32 u),
 ((6 : Nat), Value.int IntKind.i64 m)]),
 (w20.heap.size,
 [((0 : Nat), Value.string s21), ((1 : Nat), Value.int IntKind.i64 i22), ((2 : Nat), Value.int IntKind.i64 i23),
 ((3 : Nat), Value.int IntKind.i64 i24), ((4 : Nat), Value.int IntKind.i64 i25),
 ((5 : Nat), Value.int IntKind.u32 i26), ((6 : Nat), Value.int IntKind.i64 i27)]),
 (w30.heap.size,
 [((0 : Nat), Value.string s31), ((1 : Nat), Value.int IntKind.i64 i32), ((2 : Nat), Value.int IntKind.i64 i33),
 ((3 : Nat), Value.int IntKind.i64 i34), ((4 : Nat), Value.int IntKind.i64 i35),
 ((5 : Nat), Value.int IntKind.u32 i36), ((6 : Nat), Value.int IntKind.i64 i37)])] →
 Rets Tryd.prog (74 : Nat)
 #[Value.pointer q14,
 Value.agg
 #[Value.string s, Value.int IntKind.i64 a, Value.int IntKind.i64 f, Value.int IntKind.i64 r, Value.int IntKind.i64 z,
 Value.int IntKind.u32 u, Value.int IntKind.i64 m]]
 w40 fun (v200 : Value) (w201 : World) =>
 ∃ (i202 : Int),
 v200 = Value.int IntKind.i64 i202 ∧
 Keeps w40 w201 [w.heap.size, w20.heap.size, w30.heap.size] ∧
 bif i202 == (0 : Int) then
 Known w201
 [(w.heap.size,
 [((0 : Nat), Value.string s), ((1 : Nat), Value.int IntKind.i64 a), ((2 : Nat), Value.int IntKind.i64 f),
 ((3 : Nat), Value.int IntKind.i64 r), ((4 : Nat), Value.int IntKind.i64 z),
 ((5 : Nat), Value.int IntKind.u32 u), ((6 : Nat), Value.int IntKind.i64 m)]),
 (w20.heap.size,
 [((0 : Nat), Value.string s21), ((1 : Nat), Value.int IntKind.i64 i22),
 ((2 : Nat), Value.int IntKind.i64 i23), ((3 : Nat), Value.int IntKind.i64 i24),
 ((4 : Nat), Value.int IntKind.i64 i25), ((5 : Nat), Value.int IntKind.u32 i26),
 ((6 : Nat), Value.int IntKind.i64 i27)]),
 (w30.heap.size,
 [((0 : Nat), Value.string s31), ((1 : Nat), Value.int IntKind.i64 i32),
 ((2 : Nat), Value.int IntKind.i64 i33), ((3 : Nat), Value.int IntKind.i64 i34),
 ((4 : Nat), Value.int IntKind.i64 i35), ((5 : Nat), Value.int IntKind.u32 i36),
 ((6 : Nat), Value.int IntKind.i64 i37)])] →
 Rets Tryd.prog (73 : Nat) #[Value.pointer q14, Value.string s] w201 fun (v203 : Value) (w204 : World) =>
 ∃ (s205 : ByteArray),
 ∃ (i206 : Int),
 ∃ (i207 : Int),
 ∃ (i208 : Int),
 ∃ (i209 : Int),
 ∃ (i210 : Int),
 ∃ (i211 : Int),
 ∃ (t212 : Bool),
 v203 =
 Value.tuple
 #[Value.agg
 #[Value.string s205, Value.int IntKind.i64 i206, Value.int IntKind.i64 i207,
 Value.int IntKind.i64 i208, Value.int IntKind.i64 i209,
 Value.int IntKind.u32 i210, Value.int IntKind.i64 i211],
 Value.bool t212] ∧
 Keeps w201 w204 [w.heap.size, w20.heap.size, w30.heap.size] ∧
 bif !t212 then
 Known
 ((((((((w204.alloc
 (Obj.cells
 #[Value.string { data := #[] },
 Value.int IntKind.i64 (0 : Int),
 Value.int IntKind.i64 (0 : Int),
 Value.int IntKind.i64 (0 : Int),
 Value.int IntKind.i64 (0 : Int),
 Value.int IntKind.u32 (0 : Int),
 Value.int IntKind.i64 (0 : Int)]
 (50 : Nat))).setCell
 {block := w204.heap.size, off := (0 : Nat) }
 (Value.string s205)).setCell
 {block := w204.heap.size, off := (1 : Nat) }
 (Value.int IntKind.i64 i206)).setCell
 {block := w204.heap.size, off := (2 : Nat) }
 (Value.int IntKind.i64 i207)).setCell
 {block := w204.heap.size, off := (3 : Nat) }
 (Value.int IntKind.i64 i208)).setCell
 {block := w204.heap.size, off := (4 : Nat) }
 (Value.int IntKind.i64 i209)).setCell
 {block := w204.heap.size, off := (5 : Nat) }
 (Value.int IntKind.u32 i210)).setCell
 {block := w204.heap.size, off := (6 : Nat) } (Value.int IntKind.i64 i211))
 [(w.heap.size,
 [((0 : Nat), Value.string s), ((1 : Nat), Value.int IntKind.i64 a),
 ((2 : Nat), Value.int IntKind.i64 f), ((3 : Nat), Value.int IntKind.i64 r),
 ((4 : Nat), Value.int IntKind.i64 z), ((5 : Nat), Value.int IntKind.u32 u),
 ((6 : Nat), Value.int IntKind.i64 m)]),
 (w20.heap.size,
 [((0 : Nat), Value.string s21), ((1 : Nat), Value.int IntKind.i64 i22),
 ((2 : Nat), Value.int IntKind.i64 i23),
 ((3 : Nat), Value.int IntKind.i64 i24),
 ((4 : Nat), Value.int IntKind.i64 i25),
 ((5 : Nat), Value.int IntKind.u32 i26),
 ((6 : Nat), Value.int IntKind.i64 i27)]),
 (w30.heap.size,
 [((0 : Nat), Value.string s31), ((1 : Nat), Value.int IntKind.i64 i32),
 ((2 : Nat), Value.int IntKind.i64 i33),
 ((3 : Nat), Value.int IntKind.i64 i34),
 ((4 : Nat), Value.int IntKind.i64 i35),
 ((5 : Nat), Value.int IntKind.u32 i36),
 ((6 : Nat), Value.int IntKind.i64 i37)]),
 (w204.heap.size,
 [((0 : Nat), Value.string s205), ((1 : Nat), Value.int IntKind.i64 i206),
 ((2 : Nat), Value.int IntKind.i64 i207),
 ((3 : Nat), Value.int IntKind.i64 i208),
 ((4 : Nat), Value.int IntKind.i64 i209),
 ((5 : Nat), Value.int IntKind.u32 i210),
 ((6 : Nat), Value.int IntKind.i64 i211)])] →
 R (Ending.returned (Value.bool false))
 ((((((((w204.alloc
 (Obj.cells
 #[Value.string { data := #[] },
 Value.int IntKind.i64 (0 : Int),
 Value.int IntKind.i64 (0 : Int),
 Value.int IntKind.i64 (0 : Int),
 Value.int IntKind.i64 (0 : Int),
 Value.int IntKind.u32 (0 : Int),
 Value.int IntKind.i64 (0 : Int)]
 (50 : Nat))).setCell
 {block := w204.heap.size, off := (0 : Nat) }
 (Value.string s205)).setCell
 {block := w204.heap.size, off := (1 : Nat) }
 (Value.int IntKind.i64 i206)).setCell
 {block := w204.heap.size, off := (2 : Nat) }
 (Value.int IntKind.i64 i207)).setCell
 {block := w204.heap.size, off := (3 : Nat) }
 (Value.int IntKind.i64 i208)).setCell
 {block := w204.heap.size, off := (4 : Nat) }
 (Value.int IntKind.i64 i209)).setCell
 {block := w204.heap.size, off := (5 : Nat) }
 (Value.int IntKind.u32 i210)).setCell
 {block := w204.heap.size, off := (6 : Nat) } (Value.int IntKind.i64 i211))
 else
 true = true ∧
 bif
 !(s205.toList == s.toList &&
 (i206 == a &&
 (i207 == f && (i208 == r && (i209 == z && (i210 == u && i211 == m)))))) then
 Known
 ((((((((w204.alloc
 (Obj.cells
 #[Value.string { data := #[] },
 Value.int IntKind.i64 (0 : Int),
 Value.int IntKind.i64 (0 : Int),
 Value.int IntKind.i64 (0 : Int),
 Value.int IntKind.i64 (0 : Int),
 Value.int IntKind.u32 (0 : Int),
 Value.int IntKind.i64 (0 : Int)]
 (50 : Nat))).setCell
 {block := w204.heap.size, off := (0 : Nat) }
 (Value.string s205)).setCell
 {block := w204.heap.size, off := (1 : Nat) }
 (Value.int IntKind.i64 i206)).setCell
 {block := w204.heap.size, off := (2 : Nat) }
 (Value.int IntKind.i64 i207)).setCell
 {block := w204.heap.size, off := (3 : Nat) }
 (Value.int IntKind.i64 i208)).setCell
 {block := w204.heap.size, off := (4 : Nat) }
 (Value.int IntKind.i64 i209)).setCell
 {block := w204.heap.size, off := (5 : Nat) }
 (Value.int IntKind.u32 i210)).setCell
 {block := w204.heap.size, off := (6 : Nat) } (Value.int IntKind.i64 i211))
 [(w.heap.size,
 [((0 : Nat), Value.string s), ((1 : Nat), Value.int IntKind.i64 a),
 ((2 : Nat), Value.int IntKind.i64 f),
 ((3 : Nat), Value.int IntKind.i64 r),
 ((4 : Nat), Value.int IntKind.i64 z),
 ((5 : Nat), Value.int IntKind.u32 u),
 ((6 : Nat), Value.int IntKind.i64 m)]),
 (w20.heap.size,
 [((0 : Nat), Value.string s21), ((1 : Nat), Value.int IntKind.i64 i22),
 ((2 : Nat), Value.int IntKind.i64 i23),
 ((3 : Nat), Value.int IntKind.i64 i24),
 ((4 : Nat), Value.int IntKind.i64 i25),
 ((5 : Nat), Value.int IntKind.u32 i26),
 ((6 : Nat), Value.int IntKind.i64 i27)]),
 (w30.heap.size,
 [((0 : Nat), Value.string s31), ((1 : Nat), Value.int IntKind.i64 i32),
 ((2 : Nat), Value.int IntKind.i64 i33),
 ((3 : Nat), Value.int IntKind.i64 i34),
 ((4 : Nat), Value.int IntKind.i64 i35),
 ((5 : Nat), Value.int IntKind.u32 i36),
 ((6 : Nat), Value.int IntKind.i64 i37)]),
 (w204.heap.size,
 [((0 : Nat), Value.string s205), ((1 : Nat), Value.int IntKind.i64 i206),
 ((2 : Nat), Value.int IntKind.i64 i207),
 ((3 : Nat), Value.int IntKind.i64 i208),
 ((4 : Nat), Value.int IntKind.i64 i209),
 ((5 : Nat), Value.int IntKind.u32 i210),
 ((6 : Nat), Value.int IntKind.i64 i211)])] →
 R (Ending.returned (Value.bool false))
 ((((((((w204.alloc
 (Obj.cells
 #[Value.string { data := #[] },
 Value.int IntKind.i64 (0 : Int),
 Value.int IntKind.i64 (0 : Int),
 Value.int IntKind.i64 (0 : Int),
 Value.int IntKind.i64 (0 : Int),
 Value.int IntKind.u32 (0 : Int),
 Value.int IntKind.i64 (0 : Int)]
 (50 : Nat))).setCell
 {block := w204.heap.size, off := (0 : Nat) }
 (Value.string s205)).setCell
 {block := w204.heap.size, off := (1 : Nat) }
 (Value.int IntKind.i64 i206)).setCell
 {block := w204.heap.size, off := (2 : Nat) }
 (Value.int IntKind.i64 i207)).setCell
 {block := w204.heap.size, off := (3 : Nat) }
 (Value.int IntKind.i64 i208)).setCell
 {block := w204.heap.size, off := (4 : Nat) }
 (Value.int IntKind.i64 i209)).setCell
 {block := w204.heap.size, off := (5 : Nat) }
 (Value.int IntKind.u32 i210)).setCell
 {block := w204.heap.size, off := (6 : Nat) } (Value.int IntKind.i64 i211))
 else
 Known
 ((((((((w204.alloc
 (Obj.cells
 #[Value.string { data := #[] },
 Value.int IntKind.i64 (0 : Int),
 Value.int IntKind.i64 (0 : Int),
 Value.int IntKind.i64 (0 : Int),
 Value.int IntKind.i64 (0 : Int),
 Value.int IntKind.u32 (0 : Int),
 Value.int IntKind.i64 (0 : Int)]
 (50 : Nat))).setCell
 {block := w204.heap.size, off := (0 : Nat) }
 (Value.string s205)).setCell
 {block := w204.heap.size, off := (1 : Nat) }
 (Value.int IntKind.i64 i206)).setCell
 {block := w204.heap.size, off := (2 : Nat) }
 (Value.int IntKind.i64 i207)).setCell
 {block := w204.heap.size, off := (3 : Nat) }
 (Value.int IntKind.i64 i208)).setCell
 {block := w204.heap.size, off := (4 : Nat) }
 (Value.int IntKind.i64 i209)).setCell
 {block := w204.heap.size, off := (5 : Nat) }
 (Value.int IntKind.u32 i210)).setCell
 {block := w204.heap.size, off := (6 : Nat) } (Value.int IntKind.i64 i211))
 [(w.heap.size,
 [((0 : Nat), Value.string s), ((1 : Nat), Value.int IntKind.i64 a),
 ((2 : Nat), Value.int IntKind.i64 f),
 ((3 : Nat), Value.int IntKind.i64 r),
 ((4 : Nat), Value.int IntKind.i64 z),
 ((5 : Nat), Value.int IntKind.u32 u),
 ((6 : Nat), Value.int IntKind.i64 m)]),
 (w20.heap.size,
 [((0 : Nat), Value.string s21), ((1 : Nat), Value.int IntKind.i64 i22),
 ((2 : Nat), Value.int IntKind.i64 i23),
 ((3 : Nat), Value.int IntKind.i64 i24),
 ((4 : Nat), Value.int IntKind.i64 i25),
 ((5 : Nat), Value.int IntKind.u32 i26),
 ((6 : Nat), Value.int IntKind.i64 i27)]),
 (w30.heap.size,
 [((0 : Nat), Value.string s31), ((1 : Nat), Value.int IntKind.i64 i32),
 ((2 : Nat), Value.int IntKind.i64 i33),
 ((3 : Nat), Value.int IntKind.i64 i34),
 ((4 : Nat), Value.int IntKind.i64 i35),
 ((5 : Nat), Value.int IntKind.u32 i36),
 ((6 : Nat), Value.int IntKind.i64 i37)]),
 (w204.heap.size,
 [((0 : Nat), Value.string s205), ((1 : Nat), Value.int IntKind.i64 i206),
 ((2 : Nat), Value.int IntKind.i64 i207),
 ((3 : Nat), Value.int IntKind.i64 i208),
 ((4 : Nat), Value.int IntKind.i64 i209),
 ((5 : Nat), Value.int IntKind.u32 i210),
 ((6 : Nat), Value.int IntKind.i64 i211)])] →
 Rets Tryd.prog (69 : Nat) #[Value.pointer q14]
 ((((((((w204.alloc
 (Obj.cells
 #[Value.string { data := #[] },
 Value.int IntKind.i64 (0 : Int),
 Value.int IntKind.i64 (0 : Int),
 Value.int IntKind.i64 (0 : Int),
 Value.int IntKind.i64 (0 : Int),
 Value.int IntKind.u32 (0 : Int),
 Value.int IntKind.i64 (0 : Int)]
 (50 : Nat))).setCell
 {block := w204.heap.size, off := (0 : Nat) }
 (Value.string s205)).setCell
 {block := w204.heap.size, off := (1 : Nat) }
 (Value.int IntKind.i64 i206)).setCell
 {block := w204.heap.size, off := (2 : Nat) }
 (Value.int IntKind.i64 i207)).setCell
 {block := w204.heap.size, off := (3 : Nat) }
 (Value.int IntKind.i64 i208)).setCell
 {block := w204.heap.size, off := (4 : Nat) }
 (Value.int IntKind.i64 i209)).setCell
 {block := w204.heap.size, off := (5 : Nat) }
 (Value.int IntKind.u32 i210)).setCell
 {block := w204.heap.size, off := (6 : Nat) } (Value.int IntKind.i64 i211))
 fun (v213 : Value) (w214 : World) =>
 ∃ (i215 : Int),
 v213 = Value.int IntKind.i64 i215 ∧
 Keeps
 ((((((((w204.alloc
 (Obj.cells
 #[Value.string { data := #[] },
 Value.int IntKind.i64 (0 : Int),
 Value.int IntKind.i64 (0 : Int),
 Value.int IntKind.i64 (0 : Int),
 Value.int IntKind.i64 (0 : Int),
 Value.int IntKind.u32 (0 : Int),
 Value.int IntKind.i64 (0 : Int)]
 (50 : Nat))).setCell
 {block := w204.heap.size, off := (0 : Nat) }
 (Value.string s205)).setCell
 {block := w204.heap.size, off := (1 : Nat) }
 (Value.int IntKind.i64 i206)).setCell
 {block := w204.heap.size, off := (2 : Nat) }
 (Value.int IntKind.i64 i207)).setCell
 {block := w204.heap.size, off := (3 : Nat) }
 (Value.int IntKind.i64 i208)).setCell
 {block := w204.heap.size, off := (4 : Nat) }
 (Value.int IntKind.i64 i209)).setCell
 {block := w204.heap.size, off := (5 : Nat) }
 (Value.int IntKind.u32 i210)).setCell
 {block := w204.heap.size, off := (6 : Nat) }
 (Value.int IntKind.i64 i211))
 w214 [w.heap.size, w20.heap.size, w30.heap.size, w204.heap.size] ∧
 bif !t38 == (i215 == i41) then
 Known w214
 [(w.heap.size,
 [((0 : Nat), Value.string s),
 ((1 : Nat), Value.int IntKind.i64 a),
 ((2 : Nat), Value.int IntKind.i64 f),
 ((3 : Nat), Value.int IntKind.i64 r),
 ((4 : Nat), Value.int IntKind.i64 z),
 ((5 : Nat), Value.int IntKind.u32 u),
 ((6 : Nat), Value.int IntKind.i64 m)]),
 (w20.heap.size,
 [((0 : Nat), Value.string s21),
 ((1 : Nat), Value.int IntKind.i64 i22),
 ((2 : Nat), Value.int IntKind.i64 i23),
 ((3 : Nat), Value.int IntKind.i64 i24),
 ((4 : Nat), Value.int IntKind.i64 i25),
 ((5 : Nat), Value.int IntKind.u32 i26),
 ((6 : Nat), Value.int IntKind.i64 i27)]),
 (w30.heap.size,
 [((0 : Nat), Value.string s31),
 ((1 : Nat), Value.int IntKind.i64 i32),
 ((2 : Nat), Value.int IntKind.i64 i33),
 ((3 : Nat), Value.int IntKind.i64 i34),
 ((4 : Nat), Value.int IntKind.i64 i35),
 ((5 : Nat), Value.int IntKind.u32 i36),
 ((6 : Nat), Value.int IntKind.i64 i37)]),
 (w204.heap.size,
 [((0 : Nat), Value.string s205),
 ((1 : Nat), Value.int IntKind.i64 i206),
 ((2 : Nat), Value.int IntKind.i64 i207),
 ((3 : Nat), Value.int IntKind.i64 i208),
 ((4 : Nat), Value.int IntKind.i64 i209),
 ((5 : Nat), Value.int IntKind.u32 i210),
 ((6 : Nat), Value.int IntKind.i64 i211)])] →
 R (Ending.returned (Value.bool false)) w214
 else
 bif !t38 then
 Known w214
 [(w.heap.size,
 [((0 : Nat), Value.string s),
 ((1 : Nat), Value.int IntKind.i64 a),
 ((2 : Nat), Value.int IntKind.i64 f),
 ((3 : Nat), Value.int IntKind.i64 r),
 ((4 : Nat), Value.int IntKind.i64 z),
 ((5 : Nat), Value.int IntKind.u32 u),
 ((6 : Nat), Value.int IntKind.i64 m)]),
 (w20.heap.size,
 [((0 : Nat), Value.string s21),
 ((1 : Nat), Value.int IntKind.i64 i22),
 ((2 : Nat), Value.int IntKind.i64 i23),
 ((3 : Nat), Value.int IntKind.i64 i24),
 ((4 : Nat), Value.int IntKind.i64 i25),
 ((5 : Nat), Value.int IntKind.u32 i26),
 ((6 : Nat), Value.int IntKind.i64 i27)]),
 (w30.heap.size,
 [((0 : Nat), Value.string s31),
 ((1 : Nat), Value.int IntKind.i64 i32),
 ((2 : Nat), Value.int IntKind.i64 i33),
 ((3 : Nat), Value.int IntKind.i64 i34),
 ((4 : Nat), Value.int IntKind.i64 i35),
 ((5 : Nat), Value.int IntKind.u32 i36),
 ((6 : Nat), Value.int IntKind.i64 i37)]),
 (w204.heap.size,
 [((0 : Nat), Value.string s205),
 ((1 : Nat), Value.int IntKind.i64 i206),
 ((2 : Nat), Value.int IntKind.i64 i207),
 ((3 : Nat), Value.int IntKind.i64 i208),
 ((4 : Nat), Value.int IntKind.i64 i209),
 ((5 : Nat), Value.int IntKind.u32 i210),
 ((6 : Nat), Value.int IntKind.i64 i211)])] →
 Rets Tryd.prog (69 : Nat) #[Value.pointer q14] w214
 fun (v216 : Value) (w217 : World) =>
 ∃ (i218 : Int),
 v216 = Value.int IntKind.i64 i218 ∧
 Keeps w214 w217
 [w.heap.size, w20.heap.size, w30.heap.size,
 w204.heap.size] ∧
 Wr IntKind.i64 (i41 + (1 : Int)) fun (i219 : Int) =>
 bif i218 != i219 then
 Known w217
 [(w.heap.size,
 [((0 : Nat), Value.string s),
 ((1 : Nat), Value.int IntKind.i64 a),
 ((2 : Nat), Value.int IntKind.i64 f),
 ((3 : Nat), Value.int IntKind.i64 r),
 ((4 : Nat), Value.int IntKind.i64 z),
 ((5 : Nat), Value.int IntKind.u32 u),
 ((6 : Nat), Value.int IntKind.i64 m)]),
 (w20.heap.size,
 [((0 : Nat), Value.string s21),
 ((1 : Nat), Value.int IntKind.i64 i22),
 ((2 : Nat), Value.int IntKind.i64 i23),
 ((3 : Nat), Value.int IntKind.i64 i24),
 ((4 : Nat), Value.int IntKind.i64 i25),
 ((5 : Nat), Value.int IntKind.u32 i26),
 ((6 : Nat), Value.int IntKind.i64 i27)]),
 (w30.heap.size,
 [((0 : Nat), Value.string s31),
 ((1 : Nat), Value.int IntKind.i64 i32),
 ((2 : Nat), Value.int IntKind.i64 i33),
 ((3 : Nat), Value.int IntKind.i64 i34),
 ((4 : Nat), Value.int IntKind.i64 i35),
 ((5 : Nat), Value.int IntKind.u32 i36),
 ((6 : Nat), Value.int IntKind.i64 i37)]),
 (w204.heap.size,
 [((0 : Nat), Value.string s205),
 ((1 : Nat), Value.int IntKind.i64 i206),
 ((2 : Nat), Value.int IntKind.i64 i207),
 ((3 : Nat), Value.int IntKind.i64 i208),
 ((4 : Nat), Value.int IntKind.i64 i209),
 ((5 : Nat), Value.int IntKind.u32 i210),
 ((6 : Nat), Value.int IntKind.i64 i211)])] →
 R (Ending.returned (Value.bool false)) w217
 else
 I42 s a f r z u m s21 i22 i23 i24 i25 i26 i27 s31 i32
 i33 i34 i35 i36 i37 w217
 else
 I42 s a f r z u m s21 i22 i23 i24 i25 i26 i27 s31 i32 i33 i34 i35 i36
 i37 w214
 else I42 s a f r z u m s21 i22 i23 i24 i25 i26 i27 s31 i32 i33 i34 i35 i36 i37 w201)))
theorem vcTryd17 (q : Option Addr) (n c : Nat) (s : ByteArray) (a f r z u m : Int) (t : ByteArray) (w : World) (R : Ending → World → Prop) : SX.vcFn Tryd.prog [(30, ⟨[(23, .int .i64), (22, .int .i64)], [20, 0, 4], []⟩), (24, ⟨[(21, .int .i64)], [20, 0, 4], []⟩), (1000023, ⟨[], [20, 0, 4], [(0, 0, .str), (0, 1, .int .i64), (0, 2, .int .i64), (0, 3, .int .i64), (0, 4, .int .i64), (0, 5, .int .u32), (0, 6, .int .i64), (1, 0, .str), (1, 1, .int .i64), (1, 2, .int .i64), (1, 3, .int .i64), (1, 4, .int .i64), (1, 5, .int .u32), (1, 6, .int .i64), (2, 0, .str), (2, 1, .int .i64), (2, 2, .int .i64), (2, 3, .int .i64), (2, 4, .int .i64), (2, 5, .int .u32), (2, 6, .int .i64), (3, 0, .str), (3, 1, .int .i64), (3, 2, .int .i64), (3, 3, .int .i64), (3, 4, .int .i64), (3, 5, .int .u32), (3, 6, .int .i64), (4, 0, .str), (4, 1, .int .i64), (4, 2, .int .i64), (4, 3, .int .i64), (4, 4, .int .i64), (4, 5, .int .u32), (4, 6, .int .i64)]⟩), (1000018, ⟨[], [7, 12, 13, 4, 0], [(0, 0, .str), (0, 1, .int .i64), (0, 2, .int .i64), (0, 3, .int .i64), (0, 4, .int .i64), (0, 5, .int .u32), (0, 6, .int .i64), (1, 0, .str), (1, 1, .int .i64), (1, 2, .int .i64), (1, 3, .int .i64), (1, 4, .int .i64), (1, 5, .int .u32), (1, 6, .int .i64), (2, 0, .str), (2, 1, .int .i64), (2, 2, .int .i64), (2, 3, .int .i64), (2, 4, .int .i64), (2, 5, .int .u32), (2, 6, .int .i64), (3, 0, .str), (3, 1, .int .i64), (3, 2, .int .i64), (3, 3, .int .i64), (3, 4, .int .i64), (3, 5, .int .u32), (3, 6, .int .i64)]⟩), (1000015, ⟨[], [2, 9, 10, 0, 4, 13, 12, 7], [(0, 0, .str), (0, 1, .int .i64), (0, 2, .int .i64), (0, 3, .int .i64), (0, 4, .int .i64), (0, 5, .int .u32), (0, 6, .int .i64), (1, 0, .str), (1, 1, .int .i64), (1, 2, .int .i64), (1, 3, .int .i64), (1, 4, .int .i64), (1, 5, .int .u32), (1, 6, .int .i64), (2, 0, .str), (2, 1, .int .i64), (2, 2, .int .i64), (2, 3, .int .i64), (2, 4, .int .i64), (2, 5, .int .u32), (2, 6, .int .i64)]⟩)] Tryd.f17 [.v (.slice q n c), .v (.agg #[.string s, .int .i64 a, .int .i64 f, .int .i64 r, .int .i64 z, .int .u32 u, .int .i64 m]), .v (.string t)] [] w R = VCTryd17 q n c s a f r z u m t w R := by kernel_rfl
end Go.Proofs.YtbpknjldphckgaaDoor
