/- The conditions of functions, as the executor computes them: each is equal to what 'vcFn' says. -/
import Derived.Test.YtbpknjldphckgaaDoorSxLib
import Derived.Test.YtbpknjldphckgaaDoorProg
namespace Go.Proofs.YtbpknjldphckgaaDoor
open Go Go.SX Go.Proofs
set_option maxRecDepth 100000
set_option linter.unusedVariables false
def VCTryd12 (p0 : ByteArray) (p1 : Option Addr) (n1 c1 : Nat) (p2 : Option Addr) (n2 c2 : Nat) (w : World) (R : Ending → World → Prop) : Prop :=
bif decide ((↑p0.size : Int) > (300 : Int)) then Rets Tryd.prog (25 : Nat) #[] w fun (v0 : Value) (w1 : World) => ∃ (t2 : Bool), v0 = Value.bool t2 ∧ Keeps w w1 [] ∧ R (Ending.returned (Value.bool t2)) w1
else
 bif decide ((↑n1 : Int) > (500 : Int)) then Rets Tryd.prog (25 : Nat) #[] w fun (v3 : Value) (w4 : World) => ∃ (t5 : Bool), v3 = Value.bool t5 ∧ Keeps w w4 [] ∧ R (Ending.returned (Value.bool t5)) w4
 else
 bif decide ((↑n2 : Int) > (500 : Int)) then Rets Tryd.prog (25 : Nat) #[] w fun (v6 : Value) (w7 : World) => ∃ (t8 : Bool), v6 = Value.bool t8 ∧ Keeps w w7 [] ∧ R (Ending.returned (Value.bool t8)) w7
 else
 Rets Tryd.prog (26 : Nat) #[] w fun (v9 : Value) (w10 : World) =>
 ∃ (x11 : Array Value),
 v9 = Value.agg x11 ∧
 Keeps w w10 [] ∧
 Runs Tryd.prog (Instr.storeAt (25 : Nat) (Value.pointer (some { block := w10.heap.size, off := (0 : Nat) })) (Value.agg x11)) (w10.alloc (Obj.cells (zeroA Tryd.prog (25 : Nat)) (25 : Nat)))
 fun (x12 : Unit) (w13 : World) =>
 Keeps (w10.alloc (Obj.cells (zeroA Tryd.prog (25 : Nat)) (25 : Nat))) w13 [] ∧
 Rets Tryd.prog (27 : Nat) #[Value.pointer (some { block := w10.heap.size, off := (0 : Nat) }), Value.string p0] w13 fun (v14 : Value) (w15 : World) =>
 ∃ (q16 : Option Addr),
 ∃ (n17 : Nat),
 ∃ (n18 : Nat),
 ∃ (i19 : Int),
 v14 = Value.tuple #[Value.slice q16 n17 n18, Value.int IntKind.i64 i19] ∧
 Keeps w13 w15 [] ∧
 bif i19 == (0 : Int) then
 Runs Tryd.prog (Instr.buildSlice (27 : Nat) (0 : Nat) #[]) w15 fun (v20 : Value) (w21 : World) =>
 ∃ (q22 : Option Addr),
 ∃ (n23 : Nat),
 ∃ (n24 : Nat),
 v20 = Value.slice q22 n23 n24 ∧
 Keeps w15 w21 [] ∧
 Runs Tryd.prog (Builtin.append_ #[(27 : Nat), (27 : Nat)] (27 : Nat) #[Value.slice q22 n23 n24, Value.slice p1 n1 c1]) w21 fun (v25 : Value) (w26 : World) =>
 ∃ (q27 : Option Addr),
 ∃ (n28 : Nat),
 ∃ (n29 : Nat),
 v25 = Value.slice q27 n28 n29 ∧
 Keeps w21 w26 [] ∧
 Runs Tryd.prog (Builtin.append_ #[(27 : Nat), (27 : Nat)] (27 : Nat) #[Value.slice q27 n28 n29, Value.slice q16 n17 n18]) w26 fun (v30 : Value) (w31 : World) =>
 ∃ (q32 : Option Addr),
 ∃ (n33 : Nat),
 ∃ (n34 : Nat),
 v30 = Value.slice q32 n33 n34 ∧
 Keeps w26 w31 [] ∧
 Runs Tryd.prog (Builtin.append_ #[(27 : Nat), (27 : Nat)] (27 : Nat) #[Value.slice q32 n33 n34, Value.slice p2 n2 c2]) w31
 fun (v35 : Value) (w36 : World) =>
 ∃ (q37 : Option Addr),
 ∃ (n38 : Nat),
 ∃ (n39 : Nat),
 v35 = Value.slice q37 n38 n39 ∧
 Keeps w31 w36 [] ∧
 Rets Tryd.prog (31 : Nat)
 #[Value.pointer (some { block := w10.heap.size, off := (0 : Nat) }), Value.slice q37 n38 n39, Value.int IntKind.i64 (↑n1 : Int)] w36
 fun (v40 : Value) (w41 : World) =>
 ∃ (s42 : ByteArray),
 ∃ (i43 : Int),
 ∃ (i44 : Int),
 v40 = Value.tuple #[Value.string s42, Value.int IntKind.i64 i43, Value.int IntKind.i64 i44] ∧
 Keeps w36 w41 [] ∧
 Rets Tryd.prog (54 : Nat)
 #[Value.pointer (some { block := w10.heap.size, off := (0 : Nat) }), Value.slice q37 n38 n39,
 Value.int IntKind.i64 (↑n1 : Int)]
 w41 fun (v45 : Value) (w46 : World) =>
 ∃ (i47 : Int),
 ∃ (s48 : ByteArray),
 ∃ (i49 : Int),
 ∃ (i50 : Int),
 ∃ (i51 : Int),
 ∃ (i52 : Int),
 ∃ (i53 : Int),
 v45 =
 Value.tuple
 #[Value.agg
 #[Value.int IntKind.i64 i47, Value.string s48, Value.int IntKind.i64 i49, Value.int IntKind.i64 i50,
 Value.int IntKind.u32 i51],
 Value.int IntKind.i64 i52, Value.int IntKind.i64 i53] ∧
 Keeps w41 w46 [] ∧
 bif i44 != (0 : Int) then
 Known
 ((((((w46.alloc
 (Obj.cells
 #[Value.int IntKind.i64 (0 : Int), Value.string { data := #[] },
 Value.int IntKind.i64 (0 : Int), Value.int IntKind.i64 (0 : Int),
 Value.int IntKind.u32 (0 : Int)]
 (54 : Nat))).setCell
 {block := w46.heap.size, off := (0 : Nat) } (Value.int IntKind.i64 i47)).setCell
 {block := w46.heap.size, off := (1 : Nat) } (Value.string s48)).setCell
 {block := w46.heap.size, off := (2 : Nat) } (Value.int IntKind.i64 i49)).setCell
 {block := w46.heap.size, off := (3 : Nat) } (Value.int IntKind.i64 i50)).setCell
 {block := w46.heap.size, off := (4 : Nat) } (Value.int IntKind.u32 i51))
 [(w46.heap.size,
 [((0 : Nat), Value.int IntKind.i64 i47), ((1 : Nat), Value.string s48),
 ((2 : Nat), Value.int IntKind.i64 i49), ((3 : Nat), Value.int IntKind.i64 i50),
 ((4 : Nat), Value.int IntKind.u32 i51)])] →
 R (Ending.returned (Value.bool false))
 ((((((w46.alloc
 (Obj.cells
 #[Value.int IntKind.i64 (0 : Int), Value.string { data := #[] },
 Value.int IntKind.i64 (0 : Int), Value.int IntKind.i64 (0 : Int),
 Value.int IntKind.u32 (0 : Int)]
 (54 : Nat))).setCell
 {block := w46.heap.size, off := (0 : Nat) } (Value.int IntKind.i64 i47)).setCell
 {block := w46.heap.size, off := (1 : Nat) } (Value.string s48)).setCell
 {block := w46.heap.size, off := (2 : Nat) } (Value.int IntKind.i64 i49)).setCell
 {block := w46.heap.size, off := (3 : Nat) } (Value.int IntKind.i64 i50)).setCell
 {block := w46.heap.size, off := (4 : Nat) } (Value.int IntKind.u32 i51))
 else
 bif !s42.toList == p0.toList then
 Known
 ((((((w46.alloc
 (Obj.cells
 #[Value.int IntKind.i64 (0 : Int), Value.string { data := #[] },
 Value.int IntKind.i64 (0 : Int), Value.int IntKind.i64 (0 : Int),
 Value.int IntKind.u32 (0 : Int)]
 (54 : Nat))).setCell
 {block := w46.heap.size, off := (0 : Nat) }
 (Value.int IntKind.i64 i47)).setCell
 {block := w46.heap.size, off := (1 : Nat) } (Value.string s48)).setCell
 {block := w46.heap.size, off := (2 : Nat) } (Value.int IntKind.i64 i49)).setCell
 {block := w46.heap.size, off := (3 : Nat) } (Value.int IntKind.i64 i50)).setCell
 {block := w46.heap.size, off := (4 : Nat) } (Value.int IntKind.u32 i51))
 [(w46.heap.size,
 [((0 : Nat), Value.int IntKind.i64 i47), ((1 : Nat), Value.string s48),
 ((2 : Nat), Value.int IntKind.i64 i49), ((3 : Nat), Value.int IntKind.i64 i50),
 ((4 : Nat), Value.int IntKind.u32 i51)])] →
 R (Ending.returned (Value.bool false))
 ((((((w46.alloc
 (Obj.cells
 #[Value.int IntKind.i64 (0 : Int), Value.string { data := #[] },
 Value.int IntKind.i64 (0 : Int), Value.int IntKind.i64 (0 : Int),
 Value.int IntKind.u32 (0 : Int)]
 (54 : Nat))).setCell
 {block := w46.heap.size, off := (0 : Nat) }
 (Value.int IntKind.i64 i47)).setCell
 {block := w46.heap.size, off := (1 : Nat) } (Value.string s48)).setCell
 {block := w46.heap.size, off := (2 : Nat) } (Value.int IntKind.i64 i49)).setCell
 {block := w46.heap.size, off := (3 : Nat) } (Value.int IntKind.i64 i50)).setCell
 {block := w46.heap.size, off := (4 : Nat) } (Value.int IntKind.u32 i51))
 else
 Wr IntKind.i64 ((↑n1 : Int) + (↑n17 : Int)) fun (i54 : Int) =>
 bif i43 != i54 then
 Known
 ((((((w46.alloc
 (Obj.cells
 #[Value.int IntKind.i64 (0 : Int), Value.string { data := #[] },
 Value.int IntKind.i64 (0 : Int), Value.int IntKind.i64 (0 : Int),
 Value.int IntKind.u32 (0 : Int)]
 (54 : Nat))).setCell
 {block := w46.heap.size, off := (0 : Nat) }
 (Value.int IntKind.i64 i47)).setCell
 {block := w46.heap.size, off := (1 : Nat) } (Value.string s48)).setCell
 {block := w46.heap.size, off := (2 : Nat) } (Value.int IntKind.i64 i49)).setCell
 {block := w46.heap.size, off := (3 : Nat) } (Value.int IntKind.i64 i50)).setCell
 {block := w46.heap.size, off := (4 : Nat) } (Value.int IntKind.u32 i51))
 [(w46.heap.size,
 [((0 : Nat), Value.int IntKind.i64 i47), ((1 : Nat), Value.string s48),
 ((2 : Nat), Value.int IntKind.i64 i49), ((3 : Nat), Value.int IntKind.i64 i50),
 ((4 : Nat), Value.int IntKind.u32 i51)])] →
 R (Ending.returned (Value.bool false))
 ((((((w46.alloc
 (Obj.cells
 #[Value.int IntKind.i64 (0 : Int), Value.string { data := #[] },
 Value.int IntKind.i64 (0 : Int), Value.int IntKind.i64 (0 : Int),
 Value.int IntKind.u32 (0 : Int)]
 (54 : Nat))).setCell
 {block := w46.heap.size, off := (0 : Nat) }
 (Value.int IntKind.i64 i47)).setCell
 {block := w46.heap.size, off := (1 : Nat) } (Value.string s48)).setCell
 {block := w46.heap.size, off := (2 : Nat) } (Value.int IntKind.i64 i49)).setCell
 {block := w46.heap.size, off := (3 : Nat) } (Value.int IntKind.i64 i50)).setCell
 {block := w46.heap.size, off := (4 : Nat) } (Value.int IntKind.u32 i51))
 else
 bif i53 == (0 : Int) then
 Known
 ((((((w46.alloc
 (Obj.cells
 #[Value.int IntKind.i64 (0 : Int), Value.string { data := #[] },
 Value.int IntKind.i64 (0 : Int), Value.int IntKind.i64 (0 : Int),
 Value.int IntKind.u32 (0 : Int)]
 (54 : Nat))).setCell
 {block := w46.heap.size, off := (0 : Nat) }
 (Value.int IntKind.i64 i47)).setCell
 {block := w46.heap.size, off := (1 : Nat) } (Value.string s48)).setCell
 {block := w46.heap.size, off := (2 : Nat) } (Value.int IntKind.i64 i49)).setCell
 {block := w46.heap.size, off := (3 : Nat) } (Value.int IntKind.i64 i50)).setCell
 {block := w46.heap.size, off := (4 : Nat) } (Value.int IntKind.u32 i51))
 [(w46.heap.size,
 [((0 : Nat), Value.int IntKind.i64 i47), ((1 : Nat), Value.string s48),
 ((2 : Nat), Value.int IntKind.i64 i49), ((3 : Nat), Value.int IntKind.i64 i50),
 ((4 : Nat), Value.int IntKind.u32 i51)])] →
 R (Ending.returned (Value.bool false))
 ((((((w46.alloc
 (Obj.cells
 #[Value.int IntKind.i64 (0 : Int), Value.string { data := #[] },
 Value.int IntKind.i64 (0 : Int), Value.int IntKind.i64 (0 : Int),
 Value.int IntKind.u32 (0 : Int)]
 (54 : Nat))).setCell
 {block := w46.heap.size, off := (0 : Nat) }
 (Value.int IntKind.i64 i47)).setCell
 {block := w46.heap.size, off := (1 : Nat) } (Value.string s48)).setCell
 {block := w46.heap.size, off := (2 : Nat) } (Value.int IntKind.i64 i49)).setCell
 {block := w46.heap.size, off := (3 : Nat) } (Value.int IntKind.i64 i50)).setCell
 {block := w46.heap.size, off := (4 : Nat) } (Value.int IntKind.u32 i51))
 else
 Known
 ((((((w46.alloc
 (Obj.cells
 #[Value.int IntKind.i64 (0 : Int), Value.string { data := #[] },
 Value.int IntKind.i64 (0 : Int), Value.int IntKind.i64 (0 : Int),
 Value.int IntKind.u32 (0 : Int)]
 (54 : Nat))).setCell
 {block := w46.heap.size, off := (0 : Nat) }
 (Value.int IntKind.i64 i47)).setCell
 {block := w46.heap.size, off := (1 : Nat) } (Value.string s48)).setCell
 {block := w46.heap.size, off := (2 : Nat) } (Value.int IntKind.i64 i49)).setCell
 {block := w46.heap.size, off := (3 : Nat) } (Value.int IntKind.i64 i50)).setCell
 {block := w46.heap.size, off := (4 : Nat) } (Value.int IntKind.u32 i51))
 [(w46.heap.size,
 [((0 : Nat), Value.int IntKind.i64 i47), ((1 : Nat), Value.string s48),
 ((2 : Nat), Value.int IntKind.i64 i49), ((3 : Nat), Value.int IntKind.i64 i50),
 ((4 : Nat), Value.int IntKind.u32 i51)])] →
 Rets Tryd.prog (31 : Nat)
 #[Value.pointer (some { block := w10.heap.size, off := (0 : Nat) }), Value.slice p2 n2 c2,
 Value.int IntKind.i64 (0 : Int)]
 ((((((w46.alloc
 (Obj.cells
 #[Value.int IntKind.i64 (0 : Int), Value.string { data := #[] },
 Value.int IntKind.i64 (0 : Int), Value.int IntKind.i64 (0 : Int),
 Value.int IntKind.u32 (0 : Int)]
 (54 : Nat))).setCell
 {block := w46.heap.size, off := (0 : Nat) }
 (Value.int IntKind.i64 i47)).setCell
 {block := w46.heap.size, off := (1 : Nat) } (Value.string s48)).setCell
 {block := w46.heap.size, off := (2 : Nat) } (Value.int IntKind.i64 i49)).setCell
 {block := w46.heap.size, off := (3 : Nat) } (Value.int IntKind.i64 i50)).setCell
 {block := w46.heap.size, off := (4 : Nat) } (Value.int IntKind.u32 i51))
 fun (v55 : Value) (w56 : World) =>
 ∃ (s57 : ByteArray),
 ∃ (i58 : Int),
 ∃ (i59 : Int),
 v55 =
 Value.tuple
 #[Value.string s57, Value.int IntKind.i64 i58, Value.int IntKind.i64 i59] ∧
 Keeps
 ((((((w46.alloc
 (Obj.cells
 #[Value.int IntKind.i64 (0 : Int),
 Value.string { data := #[] },
 Value.int IntKind.i64 (0 : Int),
 Value.int IntKind.i64 (0 : Int),
 Value.int IntKind.u32 (0 : Int)]
 (54 : Nat))).setCell
 {block := w46.heap.size, off := (0 : Nat) }
 (Value.int IntKind.i64 i47)).setCell
 {block := w46.heap.size, off := (1 : Nat) }
 (Value.string s48)).setCell
 {block := w46.heap.size, off := (2 : Nat) }
 (Value.int IntKind.i64 i49)).setCell
 {block := w46.heap.size, off := (3 : Nat) }
 (Value.int IntKind.i64 i50)).setCell
 {block := w46.heap.size, off := (4 : Nat) } (Value.int IntKind.u32 i51))
 w56 [w46.heap.size] ∧
 (Known w56
 [(w46.heap.size,
 [((0 : Nat), Value.int IntKind.i64 i47), ((1 : Nat), Value.string s48),
 ((2 : Nat), Value.int IntKind.i64 i49),
 ((3 : Nat), Value.int IntKind.i64 i50),
 ((4 : Nat), Value.int IntKind.u32 i51)])] →
 Rets Tryd.prog (54 : Nat)
 #[Value.pointer (some { block := w10.heap.size, off := (0 : Nat) }),
 Value.slice p2 n2 c2, Value.int IntKind.i64 (0 : Int)]
 w56 fun (v60 : Value) (w61 : World) =>
 ∃ (i62 : Int),
 ∃ (s63 : ByteArray),
 ∃ (i64 : Int),
 ∃ (i65 : Int),
 ∃ (i66 : Int),
 ∃ (i67 : Int),
 ∃ (i68 : Int),
 v60 =
 Value.tuple
 #[Value.agg
 #[Value.int IntKind.i64 i62, Value.string s63,
 Value.int IntKind.i64 i64,
 Value.int IntKind.i64 i65,
 Value.int IntKind.u32 i66],
 Value.int IntKind.i64 i67, Value.int IntKind.i64 i68] ∧
 Keeps w56 w61 [w46.heap.size] ∧
 bif i59 != (0 : Int) then
 Known
 ((((((w61.alloc
 (Obj.cells
 #[Value.int IntKind.i64
 (0 : Int),
 Value.string
 { data := #[] },
 Value.int IntKind.i64
 (0 : Int),
 Value.int IntKind.i64
 (0 : Int),
 Value.int IntKind.u32
 (0 : Int)]
 (54 : Nat))).setCell
 {block := w61.heap.size, off := (0 : Nat) }
 (Value.int IntKind.i64 i62)).setCell
 {block := w61.heap.size, off := (1 : Nat) }
 (Value.string s63)).setCell
 {block := w61.heap.size, off := (2 : Nat) }
 (Value.int IntKind.i64 i64)).setCell
 {block := w61.heap.size, off := (3 : Nat) }
 (Value.int IntKind.i64 i65)).setCell
 {block := w61.heap.size, off := (4 : Nat) }
 (Value.int IntKind.u32 i66))
 [(w46.heap.size,
 [((0 : Nat), Value.int IntKind.i64 i47),
 ((1 : Nat), Value.string s48),
 ((2 : Nat), Value.int IntKind.i64 i49),
 ((3 : Nat), Value.int IntKind.i64 i50),
 ((4 : Nat), Value.int IntKind.u32 i51)]),
 (w61.heap.size,
 [((0 : Nat), Value.int IntKind.i64 i62),
 ((1 : Nat), Value.string s63),
 ((2 : Nat), Value.int IntKind.i64 i64),
 ((3 : Nat), Value.int IntKind.i64 i65),
 ((4 : Nat), Value.int IntKind.u32 i66)])] →
 Rets Tryd.prog (25 : Nat) #[]
 ((((((w61.alloc
 (Obj.cells
 #[Value.int IntKind.i64
 (0 : Int),
 Value.string
 { data := #[] },
 Value.int IntKind.i64
 (0 : Int),
 Value.int IntKind.i64
 (0 : Int),
 Value.int IntKind.u32
 (0 : Int)]
 (54 : Nat))).setCell
 {block := w61.heap.size, off := (0 : Nat) }
 (Value.int IntKind.i64 i62)).setCell
 {block := w61.heap.size, off := (1 : Nat) }
 (Value.string s63)).setCell
 {block := w61.heap.size, off := (2 : Nat) }
 (Value.int IntKind.i64 i64)).setCell
 {block := w61.heap.size, off := (3 : Nat) }
 (Value.int IntKind.i64 i65)).setCell
 {block := w61.heap.size, off := (4 : Nat) }
 (Value.int IntKind.u32 i66))
 fun (v69 : Value) (w70 : World) =>
 ∃ (t71 : Bool),
 v69 = Value.bool t71 ∧
 Keeps
 ((((((w61.alloc
 (Obj.cells
 #[Value.int
 IntKind.i64
 (0 : Int),
 Value.string
 { data := #[] },
 Value.int
 IntKind.i64
 (0 : Int),
 Value.int
 IntKind.i64
 (0 : Int),
 Value.int
 IntKind.u32
 (0 : Int)]
 (54 : Nat))).setCell
 {block := w61.heap.size, off := (0 : Nat) }
 (Value.int IntKind.i64
 i62)).setCell
 {block := w61.heap.size, off := (1 : Nat) }
 (Value.string s63)).setCell
 {block := w61.heap.size, off := (2 : Nat) }
 (Value.int IntKind.i64 i64)).setCell
 {block := w61.heap.size, off := (3 : Nat) }
 (Value.int IntKind.i64 i65)).setCell
 {block := w61.heap.size, off := (4 : Nat) }
 (Value.int IntKind.u32 i66))
 w70 [w46.heap.size, w61.heap.size] ∧
 (Known w70
 [(w46.heap.size,
 [((0 : Nat), Value.int IntKind.i64 i47),
 ((1 : Nat), Value.string s48),
 ((2 : Nat),
 Value.int IntKind.i64 i49),
 ((3 : Nat),
 Value.int IntKind.i64 i50),
 ((4 : Nat),
 Value.int IntKind.u32 i51)]),
 (w61.heap.size,
 [((0 : Nat), Value.int IntKind.i64 i62),
 ((1 : Nat), Value.string s63),
 ((2 : Nat),
 Value.int IntKind.i64 i64),
 ((3 : Nat),
 Value.int IntKind.i64 i65),
 ((4 : Nat),
 Value.int IntKind.u32 i66)])] →
 R (Ending.returned (Value.bool t71)) w70)
 else
 bif i68 != (0 : Int) then
 Known
 ((((((w61.alloc
 (Obj.cells
 #[Value.int IntKind.i64
 (0 : Int),
 Value.string
 { data := #[] },
 Value.int IntKind.i64
 (0 : Int),
 Value.int IntKind.i64
 (0 : Int),
 Value.int IntKind.u32
 (0 : Int)]
 (54 : Nat))).setCell
 {block := w61.heap.size, off := (0 : Nat) }
 (Value.int IntKind.i64
 i62)).setCell
 {block := w61.heap.size, off := (1 : Nat) }
 (Value.string s63)).setCell
 {block := w61.heap.size, off := (2 : Nat) }
 (Value.int IntKind.i64 i64)).setCell
 {block := w61.heap.size, off := (3 : Nat) }
 (Value.int IntKind.i64 i65)).setCell
 {block := w61.heap.size, off := (4 : Nat) }
 (Value.int IntKind.u32 i66))
 [(w46.heap.size,
 [((0 : Nat), Value.int IntKind.i64 i47),
 ((1 : Nat), Value.string s48),
 ((2 : Nat), Value.int IntKind.i64 i49),
 ((3 : Nat), Value.int IntKind.i64 i50),
 ((4 : Nat), Value.int IntKind.u32 i51)]),
 (w61.heap.size,
 [((0 : Nat), Value.int IntKind.i64 i62),
 ((1 : Nat), Value.string s63),
 ((2 : Nat), Value.int IntKind.i64 i64),
 ((3 : Nat), Value.int IntKind.i64 i65),
 ((4 : Nat), Value.int IntKind.u32 i66)])] →
 Rets Tryd.prog (25 : Nat) #[]
 ((((((w61.alloc
 (Obj.cells
 #[Value.int IntKind.i64
 (0 : Int),
 Value.string
 { data := #[] },
 Value.int IntKind.i64
 (0 : Int),
 Value.int IntKind.i64
 (0 : Int),
 Value.int IntKind.u32
 (0 : Int)]
 (54 : Nat))).setCell
 {block := w61.heap.size, off := (0 : Nat) }
 (Value.int IntKind.i64
 i62)).setCell
 {block := w61.heap.size, off := (1 : Nat) }
 (Value.string s63)).setCell
 {block := w61.heap.size, off := (2 : Nat) }
 (Value.int IntKind.i64 i64)).setCell
 {block := w61.heap.size, off := (3 : Nat) }
 (Value.int IntKind.i64 i65)).setCell
 {block := w61.heap.size, off := (4 : Nat) }
 (Value.int IntKind.u32 i66))
 fun (v72 : Value) (w73 : World) =>
 ∃ (t74 : Bool),
 v72 = Value.bool t74 ∧
 Keeps
 ((((((w61.alloc
 (Obj.cells
 #[Value.int
 IntKind.i64
 (0 : Int),
 Value.string
 { data := #[] },
 Value.int
 IntKind.i64
 (0 : Int),
 Value.int
 IntKind.i64
 (0 : Int),
 Value.int
 IntKind.u32
 (0 : Int)]
 (54 : Nat))).setCell
 {block := w61.heap.size, off := (0 : Nat) }
 (Value.int IntKind.i64
 i62)).setCell
 {block := w61.heap.size, off := (1 : Nat) }
 (Value.string s63)).setCell
 {block := w61.heap.size, off := (2 : Nat) }
 (Value.int IntKind.i64
 i64)).setCell
 {block := w61.heap.size, off := (3 : Nat) }
 (Value.int IntKind.i64 i65)).setCell
 {block := w61.heap.size, off := (4 : Nat) }
 (Value.int IntKind.u32 i66))
 w73 [w46.heap.size, w61.heap.size] ∧
 (Known w73
 [(w46.heap.size,
 [((0 : Nat),
 Value.int IntKind.i64 i47),
 ((1 : Nat), Value.string s48),
 ((2 : Nat),
 Value.int IntKind.i64 i49),
 ((3 : Nat),
 Value.int IntKind.i64 i50),
 ((4 : Nat),
 Value.int IntKind.u32 i51)]),
 (w61.heap.size,
 [((0 : Nat),
 Value.int IntKind.i64 i62),
 ((1 : Nat), Value.string s63),
 ((2 : Nat),
 Value.int IntKind.i64 i64),
 ((3 : Nat),
 Value.int IntKind.i64 i65),
 ((4 : Nat),
 Value.int IntKind.u32 i66)])] →
 R (Ending.returned (Value.bool t74)) w73)
 else
 Known
 ((((((w61.alloc
 (Obj.cells
 #[Value.int IntKind.i64
 (0 : Int),
 Value.string
 { data := #[] },
 Value.int IntKind.i64
 (0 : Int),
 Value.int IntKind.i64
 (0 : Int),
 Value.int IntKind.u32
 (0 : Int)]
 (54 : Nat))).setCell
 {block := w61.heap.size, off := (0 : Nat) }
 (Value.int IntKind.i64
 i62)).setCell
 {block := w61.heap.size, off := (1 : Nat) }
 (Value.string s63)).setCell
 {block := w61.heap.size, off := (2 : Nat) }
 (Value.int IntKind.i64 i64)).setCell
 {block := w61.heap.size, off := (3 : Nat) }
 (Value.int IntKind.i64 i65)).setCell
 {block := w61.heap.size, off := (4 : Nat) }
 (Value.int IntKind.u32 i66))
 [(w46.heap.size,
 [((0 : Nat), Value.int IntKind.i64 i47),
 ((1 : Nat), Value.string s48),
 ((2 : Nat), Value.int IntKind.i64 i49),
 ((3 : Nat), Value.int IntKind.i64 i50),
 ((4 : Nat), Value.int IntKind.u32 i51)]),
 (w61.heap.size,
 [((0 : Nat), Value.int IntKind.i64 i62),
 ((1 : Nat), Value.string s63),
 ((2 : Nat), Value.int IntKind.i64 i64),
 ((3 : Nat), Value.int IntKind.i64 i65),
 ((4 : Nat), Value.int IntKind.u32 i66)])] →
 R (Ending.returned (Value.bool false))
 ((((((w61.alloc
 (Obj.cells
 #[Value.int IntKind.i64
 (0 : Int),
 Value.string
 { data := #[] },
 Value.int IntKind.i64
 (0 : Int),
 Value.int IntKind.i64
 (0 : Int),
 Value.int IntKind.u32
 (0 : Int)]
 (54 : Nat))).setCell
 {block := w61.heap.size, off := (0 : Nat) }
 (Value.int IntKind.i64
 i62)).setCell
 {block := w61.heap.size, off := (1 : Nat) }
 (Value.string s63)).setCell
 {block := w61.heap.size, off := (2 : Nat) }
 (Value.int IntKind.i64 i64)).setCell
 {block := w61.heap.size, off := (3 : Nat) }
 (Value.int IntKind.i64 i65)).setCell
 {block := w61.heap.size, off := (4 : Nat) }
 (Value.int IntKind.u32 i66)))
 else
 Rets Tryd.prog (31 : Nat) #[Value.pointer (some { block := w10.heap.size, off := (0 : Nat) }), Value.slice p2 n2 c2, Value.int IntKind.i64 (0 : Int)] w15
 fun (v75 : Value) (w76 : World) =>
 ∃ (s77 : ByteArray),
 ∃ (i78 : Int),
 ∃ (i79 : Int),
 v75 = Value.tuple #[Value.string s77, Value.int IntKind.i64 i78, Value.int IntKind.i64 i79] ∧
 Keeps w15 w76 [] ∧
 Rets Tryd.prog (54 : Nat) #[Value.pointer (some { block := w10.heap.size, off := (0 : Nat) }), Value.slice p2 n2 c2, Value.int IntKind.i64 (0 : Int)] w76
 fun (v80 : Value) (w81 : World) =>
 ∃ (i82 : Int),
 ∃ (s83 : ByteArray),
 ∃ (i84 : Int),
 ∃ (i85 : Int),
 ∃ (i86 : Int),
 ∃ (i87 : Int),
 ∃ (i88 : Int),
 v80 =
 Value.tuple
 #[Value.agg #[Value.int IntKind.i64 i82, Value.string s83, Value.int IntKind.i64 i84, Value.int IntKind.i64 i85, Value.int IntKind.u32 i86],
 Value.int IntKind.i64 i87, Value.int IntKind.i64 i88] ∧
 Keeps w76 w81 [] ∧
 bif i79 != (0 : Int) then
 Known
 ((((((w81.alloc
 (Obj.cells
 #[Value.int IntKind.i64 (0 : Int), Value.string { data := #[] }, Value.int IntKind.i64 (0 : Int),
 Value.int IntKind.i64 (0 : Int), Value.int IntKind.u32 (0 : Int)]
 (54 : Nat))).setCell
 {block := w81.heap.size, off := (0 : Nat) } (Value.int IntKind.i64 i82)).setCell
 {block := w81.heap.size, off := (1 : Nat) } (Value.string s83)).setCell
 {block := w81.heap.size, off := (2 : Nat) } (Value.int IntKind.i64 i84)).setCell
 {block := w81.heap.size, off := (3 : Nat) } (Value.int IntKind.i64 i85)).setCell
 {block := w81.heap.size, off := (4 : Nat) } (Value.int IntKind.u32 i86))
 [(w81.heap.size,
 [((0 : Nat), Value.int IntKind.i64 i82), ((1 : Nat), Value.string s83), ((2 : Nat), Value.int IntKind.i64 i84),
 ((3 : Nat), Value.int IntKind.i64 i85), ((4 : Nat), Value.int IntKind.u32 i86)])] →
 Rets Tryd.prog (25 : Nat) #[]
 ((((((w81.alloc
 (Obj.cells
 #[Value.int IntKind.i64 (0 : Int), Value.string { data := #[] }, Value.int IntKind.i64 (0 : Int),
 Value.int IntKind.i64 (0 : Int), Value.int IntKind.u32 (0 : Int)]
 (54 : Nat))).setCell
 {block := w81.heap.size, off := (0 : Nat) } (Value.int IntKind.i64 i82)).setCell
 {block := w81.heap.size, off := (1 : Nat) } (Value.string s83)).setCell
 {block := w81.heap.size, off := (2 : Nat) } (Value.int IntKind.i64 i84)).setCell
 {block := w81.heap.size, off := (3 : Nat) } (Value.int IntKind.i64 i85)).setCell
 {block := w81.heap.size, off := (4 : Nat) } (Value.int IntKind.u32 i86))
 fun (v89 : Value) (w90 : World) =>
 ∃ (t91 : Bool),
 v89 = Value.bool t91 ∧
 Keeps
 ((((((w81.alloc
 (Obj.cells
 #[Value.int IntKind.i64 (0 : Int), Value.string { data := #[] }, Value.int IntKind.i64 (0 : Int),
 Value.int IntKind.i64 (0 : Int), Value.int IntKind.u32 (0 : Int)]
 (54 : Nat))).setCell
 {block := w81.heap.size, off := (0 : Nat) } (Value.int IntKind.i64 i82)).setCell
 {block := w81.heap.size, off := (1 : Nat) } (Value.string s83)).setCell
 {block := w81.heap.size, off := (2 : Nat) } (Value.int IntKind.i64 i84)).setCell
 {block := w81.heap.size, off := (3 : Nat) } (Value.int IntKind.i64 i85)).setCell
 {block := w81.heap.size, off := (4 : Nat) } (Value.int IntKind.u32 i86))
 w90 [w81.heap.size] ∧
 (Known w90
 [(w81.heap.size,
 [((0 : Nat), Value.int IntKind.i64 i82), ((1 : Nat), Value.string s83), ((2 : Nat), Value.int IntKind.i64 i84),
 ((3 : Nat), Value.int IntKind.i64 i85), ((4 : Nat), Value.int IntKind.u32 i86)])] →
 R (Ending.returned (Value.bool t91)) w90)
 else
 bif i88 != (0 : Int) then
 Known
 ((((((w81.alloc
 (Obj.cells
 #[Value.int IntKind.i64 (0 : Int), Value.string { data := #[] }, Value.int IntKind.i64 (0 : Int),
 Value.int IntKind.i64 (0 : Int), Value.int IntKind.u32 (0 : Int)]
 (54 : Nat))).setCell
 {block := w81.heap.size, off := (0 : Nat) } (Value.int IntKind.i64 i82)).setCell
 {block := w81.heap.size, off := (1 : Nat) } (Value.string s83)).setCell
 {block := w81.heap.size, off := (2 : Nat) } (Value.int IntKind.i64 i84)).setCell
 {block := w81.heap.size, off := (3 : Nat) } (Value.int IntKind.i64 i85)).setCell
 {block := w81.heap.size, off := (4 : Nat) } (Value.int IntKind.u32 i86))
 [(w81.heap.size,
 [((0 : Nat), Value.int IntKind.i64 i82), ((1 : Nat), Value.string s83), ((2 : Nat), Value.int IntKind.i64 i84),
 ((3 : Nat), Value.int IntKind.i64 i85), ((4 : Nat), Value.int IntKind.u32 i86)])] →
 Rets Tryd.prog (25 : Nat) #[]
 ((((((w81.alloc
 (Obj.cells
 #[Value.int IntKind.i64 (0 : Int), Value.string { data := #[] }, Value.int IntKind.i64 (0 : Int),
 Value.int IntKind.i64 (0 : Int), Value.int IntKind.u32 (0 : Int)]
 (54 : Nat))).setCell
 {block := w81.heap.size, off := (0 : Nat) } (Value.int IntKind.i64 i82)).setCell
 {block := w81.heap.size, off := (1 : Nat) } (Value.string s83)).setCell
 {block := w81.heap.size, off := (2 : Nat) } (Value.int IntKind.i64 i84)).setCell
 {block := w81.heap.size, off := (3 : Nat) } (Value.int IntKind.i64 i85)).setCell
 {block := w81.heap.size, off := (4 : Nat) } (Value.int IntKind.u32 i86))
 fun (v92 : Value) (w93 : World) =>
 ∃ (t94 : Bool),
 v92 = Value.bool t94 ∧
 Keeps
 ((((((w81.alloc
 (Obj.cells
 #[Value.int IntKind.i64 (0 : Int), Value.string { data := #[] }, Value.int IntKind.i64 (0 : Int),
 Value.int IntKind.i64 (0 : Int), Value.int IntKind.u32 (0 : Int)]
 (54 : Nat))).setCell
 {block := w81.heap.size, off := (0 : Nat) } (Value.int IntKind.i64 i82)).setCell
 {block := w81.heap.size, off := (1 : Nat) } (Value.string s83)).setCell
 {block := w81.heap.size, off := (2 : Nat) } (Value.int IntKind.i64 i84)).setCell
 {block := w81.heap.size, off := (3 : Nat) } (Value.int IntKind.i64 i85)).setCell
 {block := w81.heap.size, off := (4 : Nat) } (Value.int IntKind.u32 i86))
 w93 [w81.heap.size] ∧
 (Known w93
 [(w81.heap.size,
 [((0 : Nat), Value.int IntKind.i64 i82), ((1 : Nat), Value.string s83), ((2 : Nat), Value.int IntKind.i64 i84),
 ((3 : Nat), Value.int IntKind.i64 i85), ((4 : Nat), Value.int IntKind.u32 i86)])] →
 R (Ending.returned (Value.bool t94)) w93)
 else
 Known
 ((((((w81.alloc
 (Obj.cells
 #[Value.int IntKind.i64 (0 : Int), Value.string { data := #[] }, Value.int IntKind.i64 (0 : Int),
 Value.int IntKind.i64 (0 : Int), Value.int IntKind.u32 (0 : Int)]
 (54 : Nat))).setCell
 {block := w81.heap.size, off := (0 : Nat) } (Value.int IntKind.i64 i82)).setCell
 {block := w81.heap.size, off := (1 : Nat) } (Value.string s83)).setCell
 {block := w81.heap.size, off := (2 : Nat) } (Value.int IntKind.i64 i84)).setCell
 {block := w81.heap.size, off := (3 : Nat) } (Value.int IntKind.i64 i85)).setCell
 {block := w81.heap.size, off := (4 : Nat) } (Value.int IntKind.u32 i86))
 [(w81.heap.size,
 [((0 : Nat), Value.int IntKind.i64 i82), ((1 : Nat), Value.string s83), ((2 : Nat), Value.int IntKind.i64 i84),
 ((3 : Nat), Value.int IntKind.i64 i85), ((4 : Nat), Value.int IntKind.u32 i86)])] →
 R (Ending.returned (Value.bool false))
 ((((((w81.alloc
 (Obj.cells
 #[Value.int IntKind.i64 (0 : Int), Value.string { data := #[] }, Value.int IntKind.i64 (0 : Int),
 Value.int IntKind.i64 (0 : Int), Value.int IntKind.u32 (0 : Int)]
 (54 : Nat))).setCell
 {block := w81.heap.size, off := (0 : Nat) } (Value.int IntKind.i64 i82)).setCell
 {block := w81.heap.size, off := (1 : Nat) } (Value.string s83)).setCell
 {block := w81.heap.size, off := (2 : Nat) } (Value.int IntKind.i64 i84)).setCell
 {block := w81.heap.size, off := (3 : Nat) } (Value.int IntKind.i64 i85)).setCell
 {block := w81.heap.size, off := (4 : Nat) } (Value.int IntKind.u32 i86))
theorem vcTryd12 (p0 : ByteArray) (p1 : Option Addr) (n1 c1 : Nat) (p2 : Option Addr) (n2 c2 : Nat) (w : World) (R : Ending → World → Prop) : SX.vcFn Tryd.prog [] Tryd.f12 [.v (.string p0), .v (.slice p1 n1 c1), .v (.slice p2 n2 c2)] [] w R = VCTryd12 p0 p1 n1 c1 p2 n2 c2 w R := by kernel_rfl
end Go.Proofs.YtbpknjldphckgaaDoor
