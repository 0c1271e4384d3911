/- The conditions of functions, as the executor computes them: each is equal to what 'vcFn' says. -/
import Derived.Test.YtlgkcbdpaffigaaSxLib
import Derived.Test.YtlgkcbdpaffigaaProg
namespace Go.Proofs.Ytlgkcbdpaffigaa
open Go Go.SX Go.Proofs
set_option maxRecDepth 100000
set_option linter.unusedVariables false
def VCTry10 (p0 : Option Addr) (n0 c0 : Nat) (p1 : ByteArray) (p2 : Int) (w : World) (R : Ending → World → Prop) : Prop :=
Rets Try.prog (35 : Nat) #[Value.slice p0 n0 c0] w fun (v0 : Value) (w1 : World) =>
 ∃ (t2 : Bool),
 v0 = Value.bool t2 ∧
 Keeps w w1 [] ∧
 bif t2 then Rets Try.prog (36 : Nat) #[] w1 fun (v3 : Value) (w4 : World) => ∃ (t5 : Bool), v3 = Value.bool t5 ∧ Keeps w1 w4 [] ∧ R (Ending.returned (Value.bool t5)) w4
 else
 bif decide ((↑p1.size : Int) > (300 : Int)) then Rets Try.prog (36 : Nat) #[] w1 fun (v6 : Value) (w7 : World) => ∃ (t8 : Bool), v6 = Value.bool t8 ∧ Keeps w1 w7 [] ∧ R (Ending.returned (Value.bool t8)) w7
 else
 ∃ (I9 : Int → Option Nat → Option Nat → Option Addr → Nat → Nat → Option Addr → Nat → Nat → Option Addr → Nat → Nat → World → Prop),
 ∃ (I10 : Int → Option Nat → Option Nat → Option Addr → Nat → Nat → Option Addr → Nat → Nat → Option Addr → Nat → Nat → World → Nat),
 I9 (0 : Int) none none none (0 : Nat) (0 : Nat) none (0 : Nat) (0 : Nat) none (0 : Nat) (0 : Nat)
 ((w1.alloc (Obj.cells #[Value.map none, Value.map none, Value.slice none (0 : Nat) (0 : Nat)] (79 : Nat))).alloc
 (Obj.cells #[Value.slice none (0 : Nat) (0 : Nat), Value.slice none (0 : Nat) (0 : Nat)] (83 : Nat))) ∧
 ∀ (i11 : Int) (q12 q13 : Option Nat) (q14 : Option Addr) (n15 n16 : Nat) (q17 : Option Addr) (n18 n19 : Nat) (q20 : Option Addr) (n21 n22 : Nat) (w23 : World),
 I9 i11 q12 q13 q14 n15 n16 q17 n18 n19 q20 n21 n22 w23 →
 Known w23
 [(w1.heap.size, [((0 : Nat), Value.map q12), ((1 : Nat), Value.map q13), ((2 : Nat), Value.slice q14 n15 n16)]),
 ((w1.alloc (Obj.cells #[Value.map none, Value.map none, Value.slice none (0 : Nat) (0 : Nat)] (79 : Nat))).heap.size,
 [((0 : Nat), Value.slice q17 n18 n19), ((1 : Nat), Value.slice q20 n21 n22)])] →
 bif decide (i11 < (↑n0 : Int)) then
 ((0 : Int) ≤ i11 ∧ i11 < (↑n0 : Int)) ∧
 SX.Ptr p0 fun (a24 : Addr) =>
 ∃ (i25 : Int),
 ∃ (s26 : ByteArray),
 ∃ (s27 : ByteArray),
 ∃ (i28 : Int),
 (w23.cell? ((a24.add (i11.toNat * (4 : Nat))).add (0 : Nat)) = some (Value.int IntKind.i64 i25) ∧
 w23.cell? ((a24.add (i11.toNat * (4 : Nat))).add (1 : Nat)) = some (Value.string s26) ∧
 w23.cell? ((a24.add (i11.toNat * (4 : Nat))).add (2 : Nat)) = some (Value.string s27) ∧
 w23.cell? ((a24.add (i11.toNat * (4 : Nat))).add (3 : Nat)) = some (Value.int IntKind.i64 i28) ∧ True) ∧
 (Known w23
 [(w1.heap.size, [((0 : Nat), Value.map q12), ((1 : Nat), Value.map q13), ((2 : Nat), Value.slice q14 n15 n16)]),
 ((w1.alloc (Obj.cells #[Value.map none, Value.map none, Value.slice none (0 : Nat) (0 : Nat)] (79 : Nat))).heap.size,
 [((0 : Nat), Value.slice q17 n18 n19), ((1 : Nat), Value.slice q20 n21 n22)])] →
 Rets Try.prog (37 : Nat)
 #[Value.pointer (some { block := w1.heap.size, off := (0 : Nat) }),
 Value.pointer (some { block := (w1.alloc (Obj.cells #[Value.map none, Value.map none, Value.slice none (0 : Nat) (0 : Nat)] (79 : Nat))).heap.size, off := (0 : Nat) }),
 Value.agg #[Value.int IntKind.i64 i25, Value.string s26, Value.string s27, Value.int IntKind.i64 i28]]
 w23 fun (v29 : Value) (w30 : World) =>
 ∃ (t31 : Bool),
 v29 = Value.bool t31 ∧
 Keeps w23 w30 [] ∧
 ∃ (q32 : Option Nat),
 w30.cell? { block := w1.heap.size, off := (0 : Nat) } = some (Value.map q32) ∧
 w30.frozen? { block := w1.heap.size, off := (0 : Nat) } = false ∧
 ∃ (q33 : Option Nat),
 w30.cell? { block := w1.heap.size, off := (1 : Nat) } = some (Value.map q33) ∧
 w30.frozen? { block := w1.heap.size, off := (1 : Nat) } = false ∧
 ∃ (q34 : Option Addr),
 ∃ (n35 : Nat),
 ∃ (n36 : Nat),
 w30.cell? { block := w1.heap.size, off := (2 : Nat) } = some (Value.slice q34 n35 n36) ∧
 w30.frozen? { block := w1.heap.size, off := (2 : Nat) } = false ∧
 ∃ (q37 : Option Addr),
 ∃ (n38 : Nat),
 ∃ (n39 : Nat),
 w30.cell?
 {block := (w1.alloc (Obj.cells #[Value.map none, Value.map none, Value.slice none (0 : Nat) (0 : Nat)] (79 : Nat))).heap.size, off := (0 : Nat) } =
 some (Value.slice q37 n38 n39) ∧
 w30.frozen?
 {block := (w1.alloc (Obj.cells #[Value.map none, Value.map none, Value.slice none (0 : Nat) (0 : Nat)] (79 : Nat))).heap.size, off := (0 : Nat) } =
 false ∧
 ∃ (q40 : Option Addr),
 ∃ (n41 : Nat),
 ∃ (n42 : Nat),
 w30.cell?
 { block := (w1.alloc (Obj.cells #[Value.map none, Value.map none, Value.slice none (0 : Nat) (0 : Nat)] (79 : Nat))).heap.size, off := (1 : Nat) } =
 some (Value.slice q40 n41 n42) ∧
 w30.frozen?
 { block := (w1.alloc (Obj.cells #[Value.map none, Value.map none, Value.slice none (0 : Nat) (0 : Nat)] (79 : Nat))).heap.size, off := (1 : Nat) } =
 false ∧
 Wr IntKind.i64 (i11 + (1 : Int)) fun (i43 : Int) =>
 I9 i43 q32 q33 q34 n35 n36 q37 n38 n39 q40 n41 n42 w30 ∧
 I10 i43 q32 q33 q34 n35 n36 q37 n38 n39 q40 n41 n42 w30 < I10 i11 q12 q13 q14 n15 n16 q17 n18 n19 q20 n21 n22 w23)
 else
 Known w23
 [(w1.heap.size, [((0 : Nat), Value.map q12), ((1 : Nat), Value.map q13), ((2 : Nat), Value.slice q14 n15 n16)]),
 ((w1.alloc (Obj.cells #[Value.map none, Value.map none, Value.slice none (0 : Nat) (0 : Nat)] (79 : Nat))).heap.size,
 [((0 : Nat), Value.slice q17 n18 n19), ((1 : Nat), Value.slice q20 n21 n22)])] →
 Rets Try.prog (38 : Nat) #[Value.pointer none] w23 fun (v44 : Value) (w45 : World) =>
 v44 = Value.tuple #[] ∧
 Keeps w23 w45 [w1.heap.size, (w1.alloc (Obj.cells #[Value.map none, Value.map none, Value.slice none (0 : Nat) (0 : Nat)] (79 : Nat))).heap.size] ∧
 (Known w45
 [(w1.heap.size, [((0 : Nat), Value.map q12), ((1 : Nat), Value.map q13), ((2 : Nat), Value.slice q14 n15 n16)]),
 ((w1.alloc (Obj.cells #[Value.map none, Value.map none, Value.slice none (0 : Nat) (0 : Nat)] (79 : Nat))).heap.size,
 [((0 : Nat), Value.slice q17 n18 n19), ((1 : Nat), Value.slice q20 n21 n22)])] →
 Rets Try.prog (40 : Nat) #[Value.pointer none, Value.int IntKind.i64 p2] w45 fun (v46 : Value) (w47 : World) =>
 v46 = Value.tuple #[] ∧
 Keeps w45 w47 [w1.heap.size, (w1.alloc (Obj.cells #[Value.map none, Value.map none, Value.slice none (0 : Nat) (0 : Nat)] (79 : Nat))).heap.size] ∧
 (Known w47
 [(w1.heap.size, [((0 : Nat), Value.map q12), ((1 : Nat), Value.map q13), ((2 : Nat), Value.slice q14 n15 n16)]),
 ((w1.alloc (Obj.cells #[Value.map none, Value.map none, Value.slice none (0 : Nat) (0 : Nat)] (79 : Nat))).heap.size,
 [((0 : Nat), Value.slice q17 n18 n19), ((1 : Nat), Value.slice q20 n21 n22)])] →
 Rets Try.prog (42 : Nat) #[Value.pointer none, Value.string p1] w47 fun (v48 : Value) (w49 : World) =>
 ∃ (i50 : Int),
 ∃ (t51 : Bool),
 v48 = Value.tuple #[Value.int IntKind.i64 i50, Value.bool t51] ∧
 Keeps w47 w49 [w1.heap.size, (w1.alloc (Obj.cells #[Value.map none, Value.map none, Value.slice none (0 : Nat) (0 : Nat)] (79 : Nat))).heap.size] ∧
 bif t51 then
 Known w49
 [(w1.heap.size, [((0 : Nat), Value.map q12), ((1 : Nat), Value.map q13), ((2 : Nat), Value.slice q14 n15 n16)]),
 ((w1.alloc (Obj.cells #[Value.map none, Value.map none, Value.slice none (0 : Nat) (0 : Nat)] (79 : Nat))).heap.size,
 [((0 : Nat), Value.slice q17 n18 n19), ((1 : Nat), Value.slice q20 n21 n22)])] →
 R (Ending.returned (Value.bool false)) w49
 else
 Known w49
 [(w1.heap.size, [((0 : Nat), Value.map q12), ((1 : Nat), Value.map q13), ((2 : Nat), Value.slice q14 n15 n16)]),
 ((w1.alloc (Obj.cells #[Value.map none, Value.map none, Value.slice none (0 : Nat) (0 : Nat)] (79 : Nat))).heap.size,
 [((0 : Nat), Value.slice q17 n18 n19), ((1 : Nat), Value.slice q20 n21 n22)])] →
 Rets Try.prog (39 : Nat) #[Value.pointer none] w49 fun (v52 : Value) (w53 : World) =>
 ∃ (q54 : Option Addr),
 ∃ (n55 : Nat),
 ∃ (n56 : Nat),
 v52 = Value.slice q54 n55 n56 ∧
 Keeps w49 w53 [w1.heap.size, (w1.alloc (Obj.cells #[Value.map none, Value.map none, Value.slice none (0 : Nat) (0 : Nat)] (79 : Nat))).heap.size] ∧
 bif (↑n55 : Int) != (0 : Int) then
 Known w53
 [(w1.heap.size, [((0 : Nat), Value.map q12), ((1 : Nat), Value.map q13), ((2 : Nat), Value.slice q14 n15 n16)]),
 ((w1.alloc (Obj.cells #[Value.map none, Value.map none, Value.slice none (0 : Nat) (0 : Nat)] (79 : Nat))).heap.size,
 [((0 : Nat), Value.slice q17 n18 n19), ((1 : Nat), Value.slice q20 n21 n22)])] →
 R (Ending.returned (Value.bool false)) w53
 else
 Known w53
 [(w1.heap.size, [((0 : Nat), Value.map q12), ((1 : Nat), Value.map q13), ((2 : Nat), Value.slice q14 n15 n16)]),
 ((w1.alloc (Obj.cells #[Value.map none, Value.map none, Value.slice none (0 : Nat) (0 : Nat)] (79 : Nat))).heap.size,
 [((0 : Nat), Value.slice q17 n18 n19), ((1 : Nat), Value.slice q20 n21 n22)])] →
 Rets Try.prog (46 : Nat) #[Value.pointer none, Value.int IntKind.i64 p2] w53 fun (v57 : Value) (w58 : World) =>
 ∃ (t59 : Bool),
 v57 = Value.bool t59 ∧
 Keeps w53 w58
 [w1.heap.size, (w1.alloc (Obj.cells #[Value.map none, Value.map none, Value.slice none (0 : Nat) (0 : Nat)] (79 : Nat))).heap.size] ∧
 bif t59 then
 Known w58
 [(w1.heap.size, [((0 : Nat), Value.map q12), ((1 : Nat), Value.map q13), ((2 : Nat), Value.slice q14 n15 n16)]),
 ((w1.alloc (Obj.cells #[Value.map none, Value.map none, Value.slice none (0 : Nat) (0 : Nat)] (79 : Nat))).heap.size,
 [((0 : Nat), Value.slice q17 n18 n19), ((1 : Nat), Value.slice q20 n21 n22)])] →
 R (Ending.returned (Value.bool false)) w58
 else
 Known w58
 [(w1.heap.size, [((0 : Nat), Value.map q12), ((1 : Nat), Value.map q13), ((2 : Nat), Value.slice q14 n15 n16)]),
 ((w1.alloc (Obj.cells #[Value.map none, Value.map none, Value.slice none (0 : Nat) (0 : Nat)] (79 : Nat))).heap.size,
 [((0 : Nat), Value.slice q17 n18 n19), ((1 : Nat), Value.slice q20 n21 n22)])] →
 Rets Try.prog (41 : Nat) #[Value.pointer none] w58 fun (v60 : Value) (w61 : World) =>
 ∃ (i62 : Int),
 v60 = Value.int IntKind.i64 i62 ∧
 Keeps w58 w61
 [w1.heap.size,
 (w1.alloc (Obj.cells #[Value.map none, Value.map none, Value.slice none (0 : Nat) (0 : Nat)] (79 : Nat))).heap.size] ∧
 bif i62 != (0 : Int) then
 Known w61
 [(w1.heap.size, [((0 : Nat), Value.map q12), ((1 : Nat), Value.map q13), ((2 : Nat), Value.slice q14 n15 n16)]),
 ((w1.alloc (Obj.cells #[Value.map none, Value.map none, Value.slice none (0 : Nat) (0 : Nat)] (79 : Nat))).heap.size,
 [((0 : Nat), Value.slice q17 n18 n19), ((1 : Nat), Value.slice q20 n21 n22)])] →
 R (Ending.returned (Value.bool false)) w61
 else
 Known w61
 [(w1.heap.size, [((0 : Nat), Value.map q12), ((1 : Nat), Value.map q13), ((2 : Nat), Value.slice q14 n15 n16)]),
 ((w1.alloc (Obj.cells #[Value.map none, Value.map none, Value.slice none (0 : Nat) (0 : Nat)] (79 : Nat))).heap.size,
 [((0 : Nat), Value.slice q17 n18 n19), ((1 : Nat), Value.slice q20 n21 n22)])] →
 Rets Try.prog (47 : Nat) #[Value.pointer none, Value.string p1, Value.int IntKind.i64 p2] w61
 fun (v63 : Value) (w64 : World) =>
 ∃ (i65 : Int),
 v63 = Value.int IntKind.i64 i65 ∧
 Keeps w61 w64
 [w1.heap.size,
 (w1.alloc
 (Obj.cells #[Value.map none, Value.map none, Value.slice none (0 : Nat) (0 : Nat)]
 (79 : Nat))).heap.size] ∧
 bif i65 != (1 : Int) then
 Known w64
 [(w1.heap.size,
 [((0 : Nat), Value.map q12), ((1 : Nat), Value.map q13), ((2 : Nat), Value.slice q14 n15 n16)]),
 ((w1.alloc
 (Obj.cells #[Value.map none, Value.map none, Value.slice none (0 : Nat) (0 : Nat)]
 (79 : Nat))).heap.size,
 [((0 : Nat), Value.slice q17 n18 n19), ((1 : Nat), Value.slice q20 n21 n22)])] →
 R (Ending.returned (Value.bool false)) w64
 else
 Known w64
 [(w1.heap.size,
 [((0 : Nat), Value.map q12), ((1 : Nat), Value.map q13), ((2 : Nat), Value.slice q14 n15 n16)]),
 ((w1.alloc
 (Obj.cells #[Value.map none, Value.map none, Value.slice none (0 : Nat) (0 : Nat)]
 (79 : Nat))).heap.size,
 [((0 : Nat), Value.slice q17 n18 n19), ((1 : Nat), Value.slice q20 n21 n22)])] →
 Rets Try.prog (43 : Nat) #[Value.pointer none, Value.string p1, Value.string p1] w64
 fun (v66 : Value) (w67 : World) =>
 ∃ (i68 : Int),
 v66 = Value.int IntKind.i64 i68 ∧
 Keeps w64 w67
 [w1.heap.size,
 (w1.alloc
 (Obj.cells #[Value.map none, Value.map none, Value.slice none (0 : Nat) (0 : Nat)]
 (79 : Nat))).heap.size] ∧
 bif i68 != (1 : Int) then
 Known w67
 [(w1.heap.size,
 [((0 : Nat), Value.map q12), ((1 : Nat), Value.map q13),
 ((2 : Nat), Value.slice q14 n15 n16)]),
 ((w1.alloc
 (Obj.cells #[Value.map none, Value.map none, Value.slice none (0 : Nat) (0 : Nat)]
 (79 : Nat))).heap.size,
 [((0 : Nat), Value.slice q17 n18 n19), ((1 : Nat), Value.slice q20 n21 n22)])] →
 R (Ending.returned (Value.bool false)) w67
 else
 Known w67
 [(w1.heap.size,
 [((0 : Nat), Value.map q12), ((1 : Nat), Value.map q13),
 ((2 : Nat), Value.slice q14 n15 n16)]),
 ((w1.alloc
 (Obj.cells #[Value.map none, Value.map none, Value.slice none (0 : Nat) (0 : Nat)]
 (79 : Nat))).heap.size,
 [((0 : Nat), Value.slice q17 n18 n19), ((1 : Nat), Value.slice q20 n21 n22)])] →
 Rets Try.prog (48 : Nat) #[Value.pointer none, Value.string p1] w67
 fun (v69 : Value) (w70 : World) =>
 ∃ (i71 : Int),
 v69 = Value.int IntKind.i64 i71 ∧
 Keeps w67 w70
 [w1.heap.size,
 (w1.alloc
 (Obj.cells
 #[Value.map none, Value.map none, Value.slice none (0 : Nat) (0 : Nat)]
 (79 : Nat))).heap.size] ∧
 bif i71 != (1 : Int) then
 Known w70
 [(w1.heap.size,
 [((0 : Nat), Value.map q12), ((1 : Nat), Value.map q13),
 ((2 : Nat), Value.slice q14 n15 n16)]),
 ((w1.alloc
 (Obj.cells
 #[Value.map none, Value.map none, Value.slice none (0 : Nat) (0 : Nat)]
 (79 : Nat))).heap.size,
 [((0 : Nat), Value.slice q17 n18 n19), ((1 : Nat), Value.slice q20 n21 n22)])] →
 R (Ending.returned (Value.bool false)) w70
 else
 Known w70
 [(w1.heap.size,
 [((0 : Nat), Value.map q12), ((1 : Nat), Value.map q13),
 ((2 : Nat), Value.slice q14 n15 n16)]),
 ((w1.alloc
 (Obj.cells
 #[Value.map none, Value.map none, Value.slice none (0 : Nat) (0 : Nat)]
 (79 : Nat))).heap.size,
 [((0 : Nat), Value.slice q17 n18 n19), ((1 : Nat), Value.slice q20 n21 n22)])] →
 Rets Try.prog (42 : Nat)
 #[Value.pointer (some { block := w1.heap.size, off := (0 : Nat) }), Value.string p1]
 w70 fun (v72 : Value) (w73 : World) =>
 ∃ (i74 : Int),
 ∃ (t75 : Bool),
 v72 = Value.tuple #[Value.int IntKind.i64 i74, Value.bool t75] ∧
 Keeps w70 w73
 [(w1.alloc
 (Obj.cells
 #[Value.map none, Value.map none,
 Value.slice none (0 : Nat) (0 : Nat)]
 (79 : Nat))).heap.size] ∧
 ∃ (q76 : Option Nat),
 w73.cell? { block := w1.heap.size, off := (0 : Nat) } =
 some (Value.map q76) ∧
 w73.frozen? { block := w1.heap.size, off := (0 : Nat) } = false ∧
 ∃ (q77 : Option Nat),
 w73.cell? { block := w1.heap.size, off := (1 : Nat) } =
 some (Value.map q77) ∧
 w73.frozen? { block := w1.heap.size, off := (1 : Nat) } = false ∧
 ∃ (q78 : Option Addr),
 ∃ (n79 : Nat),
 ∃ (n80 : Nat),
 w73.cell? { block := w1.heap.size, off := (2 : Nat) } =
 some (Value.slice q78 n79 n80) ∧
 w73.frozen?
 {block := w1.heap.size, off := (2 : Nat) } =
 false ∧
 (Known w73
 [(w1.heap.size,
 [((0 : Nat), Value.map q76),
 ((1 : Nat), Value.map q77),
 ((2 : Nat), Value.slice q78 n79 n80)]),
 ((w1.alloc
 (Obj.cells
 #[Value.map none, Value.map none,
 Value.slice none (0 : Nat)
 (0 : Nat)]
 (79 : Nat))).heap.size,
 [((0 : Nat), Value.slice q17 n18 n19),
 ((1 : Nat), Value.slice q20 n21 n22)])] →
 Rets Try.prog (49 : Nat)
 #[Value.slice q17 n18 n19, Value.string p1] w73
 fun (v81 : Value) (w82 : World) =>
 ∃ (i83 : Int),
 v81 = Value.int IntKind.i64 i83 ∧
 Keeps w73 w82
 [w1.heap.size,
 (w1.alloc
 (Obj.cells
 #[Value.map none,
 Value.map none,
 Value.slice none (0 : Nat)
 (0 : Nat)]
 (79 : Nat))).heap.size] ∧
 bif !t75 == decide (i83 ≥ (0 : Int)) then
 Known w82
 [(w1.heap.size,
 [((0 : Nat), Value.map q76),
 ((1 : Nat), Value.map q77),
 ((2 : Nat),
 Value.slice q78 n79 n80)]),
 ((w1.alloc
 (Obj.cells
 #[Value.map none,
 Value.map none,
 Value.slice none
 (0 : Nat) (0 : Nat)]
 (79 : Nat))).heap.size,
 [((0 : Nat),
 Value.slice q17 n18 n19),
 ((1 : Nat),
 Value.slice q20 n21 n22)])] →
 R (Ending.returned (Value.bool false))
 w82
 else
 bif t75 then
 ((0 : Int) ≤ i83 ∧ i83 < (↑n18 : Int)) ∧
 SX.Ptr q17 fun (a84 : Addr) =>
 ∃ (i85 : Int),
 w82.cell?
 ((a84.add
 (i83.toNat *
 (2 : Nat))).add
 (1 : Nat)) =
 some
 (Value.int IntKind.i64
 i85) ∧
 bif i74 != i85 then
 Known w82
 [(w1.heap.size,
 [((0 : Nat),
 Value.map q76),
 ((1 : Nat),
 Value.map q77),
 ((2 : Nat),
 Value.slice q78
 n79 n80)]),
 ((w1.alloc
 (Obj.cells
 #[Value.map
 none,
 Value.map
 none,
 Value.slice
 none
 (0 : Nat)
 (0 : Nat)]
 (79 :
 Nat))).heap.size,
 [((0 : Nat),
 Value.slice q17
 n18 n19),
 ((1 : Nat),
 Value.slice q20
 n21 n22)])] →
 R
 (Ending.returned
 (Value.bool false))
 w82
 else
 bif !t75 then
 bif i74 != (0 : Int) then
 Known w82
 [(w1.heap.size,
 [((0 : Nat),
 Value.map
 q76),
 ((1 : Nat),
 Value.map
 q77),
 ((2 : Nat),
 Value.slice
 q78 n79
 n80)]),
 ((w1.alloc
 (Obj.cells
 #[Value.map
 none,
 Value.map
 none,
 Value.slice
 none
 (0 :
 Nat)
 (0 :
 Nat)]
 (79 :
 Nat))).heap.size,
 [((0 : Nat),
 Value.slice
 q17 n18
 n19),
 ((1 : Nat),
 Value.slice
 q20 n21
 n22)])] →
 R
 (Ending.returned
 (Value.bool false))
 w82
 else
 Known w82
 [(w1.heap.size,
 [((0 : Nat),
 Value.map
 q76),
 ((1 : Nat),
 Value.map
 q77),
 ((2 : Nat),
 Value.slice
 q78 n79
 n80)]),
 ((w1.alloc
 (Obj.cells
 #[Value.map
 none,
 Value.map
 none,
 Value.slice
 none
 (0 :
 Nat)
 (0 :
 Nat)]
 (79 :
 Nat))).heap.size,
 [((0 : Nat),
 Value.slice
 q17 n18
 n19),
 ((1 : Nat),
 Value.slice
 q20 n21
 n22)])] →
 Rets Try.prog (46 : Nat)
 #[Value.pointer
 (some
 { block := w1.heap.size, off := (0 : Nat) }),
 Value.int
 IntKind.i64 p2]
 w82
 fun (v86 : Value)
 (w87 : World) =>
 ∃ (t88 : Bool),
 v86 =
 Value.bool t88 ∧
 Keeps w82 w87
 [(w1.alloc
 (Obj.cells
 #[Value.map
 none,
 Value.map
 none,
 Value.slice
 none
 (0 :
 Nat)
 (0 :
 Nat)]
 (79 :
 Nat))).heap.size] ∧
 ∃ (q89 :
 Option Nat),
 w87.cell?
 { block := w1.heap.size, off := (0 : Nat) } =
 some
 (Value.map
 q89) ∧
 w87.frozen?
 { block := w1.heap.size, off := (0 : Nat) } =
 false ∧
 ∃ (q90 :
 Option
 Nat),
 w87.cell?
 { block := w1.heap.size, off := (1 : Nat) } =
 some
 (Value.map
 q90) ∧
 w87.frozen?
 { block := w1.heap.size, off := (1 : Nat) } =
 false ∧
 ∃
 (q91
 :
 Option
 Addr),
 ∃
 (n92
 :
 Nat),
 ∃
 (n93
 :
 Nat),
 w87.cell?
 { block := w1.heap.size, off := (2 : Nat) } =
 some
 (Value.slice
 q91
 n92
 n93) ∧
 w87.frozen?
 { block := w1.heap.size, off := (2 : Nat) } =
 false ∧
 (Known
 w87
 [(w1.heap.size,
 [((0 :
 Nat),
 Value.map
 q89),
 ((1 :
 Nat),
 Value.map
 q90),
 ((2 :
 Nat),
 Value.slice
 q91
 n92
 n93)]),
 ((w1.alloc
 (Obj.cells
 #[Value.map
 none,
 Value.map
 none,
 Value.slice
 none
 (0 :
 Nat)
 (0 :
 Nat)]
 (79 :
 Nat))).heap.size,
 [((0 :
 Nat),
 Value.slice
 q17
 n18
 n19),
 ((1 :
 Nat),
 Value.slice
 q20
 n21
 n22)])] →
 Rets
 Try.prog
 (50 :
 Nat)
 #[Value.pointer
 (some
 { block := (w1.alloc (Obj.cells #[Value.map none, Value.map none, Value.slice none (0 : Nat) (0 : Nat)] (79 : Nat))).heap.size, off := (0 : Nat) }),
 Value.int
 IntKind.i64
 p2]
 w87
 fun
 (v94 :
 Value)
 (w95 :
 World) =>
 ∃
 (t96
 :
 Bool),
 v94 =
 Value.bool
 t96 ∧
 Keeps
 w87
 w95
 [w1.heap.size] ∧
 ∃
 (q97
 :
 Option
 Addr),
 ∃
 (n98
 :
 Nat),
 ∃
 (n99
 :
 Nat),
 w95.cell?
 { block := (w1.alloc (Obj.cells #[Value.map none, Value.map none, Value.slice none (0 : Nat) (0 : Nat)] (79 : Nat))).heap.size, off := (0 : Nat) } =
 some
 (Value.slice
 q97
 n98
 n99) ∧
 w95.frozen?
 { block := (w1.alloc (Obj.cells #[Value.map none, Value.map none, Value.slice none (0 : Nat) (0 : Nat)] (79 : Nat))).heap.size, off := (0 : Nat) } =
 false ∧
 ∃
 (q100
 :
 Option
 Addr),
 ∃
 (n101
 :
 Nat),
 ∃
 (n102
 :
 Nat),
 w95.cell?
 { block := (w1.alloc (Obj.cells #[Value.map none, Value.map none, Value.slice none (0 : Nat) (0 : Nat)] (79 : Nat))).heap.size, off := (1 : Nat) } =
 some
 (Value.slice
 q100
 n101
 n102) ∧
 w95.frozen?
 { block := (w1.alloc (Obj.cells #[Value.map none, Value.map none, Value.slice none (0 : Nat) (0 : Nat)] (79 : Nat))).heap.size, off := (1 : Nat) } =
 false ∧
 bif
 t88 ==
 t96 then
 Known
 w95
 [(w1.heap.size,
 [((0 :
 Nat),
 Value.map
 q89),
 ((1 :
 Nat),
 Value.map
 q90),
 ((2 :
 Nat),
 Value.slice
 q91
 n92
 n93)]),
 ((w1.alloc
 (Obj.cells
 #[Value.map
 none,
 Value.map
 none,
 Value.slice
 none
 (0 :
 Nat)
 (0 :
 Nat)]
 (79 :
 Nat))).heap.size,
 [((0 :
 Nat),
 Value.slice
 q97
 n98
 n99),
 ((1 :
 Nat),
 Value.slice
 q100
 n101
 n102)])] →
 Rets
 Try.prog
 (36 :
 Nat)
 #[]
 w95
 fun
 (v103 :
 Value)
 (w104 :
 World) =>
 ∃
 (t105
 :
 Bool),
 v103 =
 Value.bool
 t105 ∧
 Keeps
 w95
 w104
 [w1.heap.size,
 (w1.alloc
 (Obj.cells
 #[Value.map
 none,
 Value.map
 none,
 Value.slice
 none
 (0 :
 Nat)
 (0 :
 Nat)]
 (79 :
 Nat))).heap.size] ∧
 (Known
 w104
 [(w1.heap.size,
 [((0 :
 Nat),
 Value.map
 q89),
 ((1 :
 Nat),
 Value.map
 q90),
 ((2 :
 Nat),
 Value.slice
 q91
 n92
 n93)]),
 ((w1.alloc
 (Obj.cells
 #[Value.map
 none,
 Value.map
 none,
 Value.slice
 none
 (0 :
 Nat)
 (0 :
 Nat)]
 (79 :
 Nat))).heap.size,
 [((0 :
 Nat),
 Value.slice
 q97
 n98
 n99),
 ((1 :
 Nat),
 Value.slice
 q100
 n101
 n102)])] →
 R
 (Ending.returned
 (Value.bool
 t105))
 w104)
 else
 Known
 w95
 [(w1.heap.size,
 [((0 :
 Nat),
 Value.map
 q89),
 ((1 :
 Nat),
 Value.map
 q90),
 ((2 :
 Nat),
 Value.slice
 q91
 n92
 n93)]),
 ((w1.alloc
 (Obj.cells
 #[Value.map
 none,
 Value.map
 none,
 Value.slice
 none
 (0 :
 Nat)
 (0 :
 Nat)]
 (79 :
 Nat))).heap.size,
 [((0 :
 Nat),
 Value.slice
 q97
 n98
 n99),
 ((1 :
 Nat),
 Value.slice
 q100
 n101
 n102)])] →
 R
 (Ending.returned
 (Value.bool
 false))
 w95)
 else
 Known w82
 [(w1.heap.size,
 [((0 : Nat),
 Value.map q76),
 ((1 : Nat),
 Value.map q77),
 ((2 : Nat),
 Value.slice q78
 n79 n80)]),
 ((w1.alloc
 (Obj.cells
 #[Value.map
 none,
 Value.map
 none,
 Value.slice
 none
 (0 :
 Nat)
 (0 :
 Nat)]
 (79 :
 Nat))).heap.size,
 [((0 : Nat),
 Value.slice q17
 n18 n19),
 ((1 : Nat),
 Value.slice q20
 n21 n22)])] →
 Rets Try.prog (46 : Nat)
 #[Value.pointer
 (some
 { block := w1.heap.size, off := (0 : Nat) }),
 Value.int IntKind.i64
 p2]
 w82
 fun (v106 : Value)
 (w107 : World) =>
 ∃ (t108 : Bool),
 v106 =
 Value.bool t108 ∧
 Keeps w82 w107
 [(w1.alloc
 (Obj.cells
 #[Value.map
 none,
 Value.map
 none,
 Value.slice
 none
 (0 :
 Nat)
 (0 :
 Nat)]
 (79 :
 Nat))).heap.size] ∧
 ∃ (q109 :
 Option Nat),
 w107.cell?
 { block := w1.heap.size, off := (0 : Nat) } =
 some
 (Value.map
 q109) ∧
 w107.frozen?
 { block := w1.heap.size, off := (0 : Nat) } =
 false ∧
 ∃ (q110 :
 Option
 Nat),
 w107.cell?
 { block := w1.heap.size, off := (1 : Nat) } =
 some
 (Value.map
 q110) ∧
 w107.frozen?
 { block := w1.heap.size, off := (1 : Nat) } =
 false ∧
 ∃
 (q111
 :
 Option
 Addr),
 ∃
 (n112
 :
 Nat),
 ∃
 (n113
 :
 Nat),
 w107.cell?
 { block := w1.heap.size, off := (2 : Nat) } =
 some
 (Value.slice
 q111
 n112
 n113) ∧
 w107.frozen?
 { block := w1.heap.size, off := (2 : Nat) } =
 false ∧
 (Known
 w107
 [(w1.heap.size,
 [((0 :
 Nat),
 Value.map
 q109),
 ((1 :
 Nat),
 Value.map
 q110),
 ((2 :
 Nat),
 Value.slice
 q111
 n112
 n113)]),
 ((w1.alloc
 (Obj.cells
 #[Value.map
 none,
 Value.map
 none,
 Value.slice
 none
 (0 :
 Nat)
 (0 :
 Nat)]
 (79 :
 Nat))).heap.size,
 [((0 :
 Nat),
 Value.slice
 q17
 n18
 n19),
 ((1 :
 Nat),
 Value.slice
 q20
 n21
 n22)])] →
 Rets
 Try.prog
 (50 :
 Nat)
 #[Value.pointer
 (some
 { block := (w1.alloc (Obj.cells #[Value.map none, Value.map none, Value.slice none (0 : Nat) (0 : Nat)] (79 : Nat))).heap.size, off := (0 : Nat) }),
 Value.int
 IntKind.i64
 p2]
 w107
 fun
 (v114 :
 Value)
 (w115 :
 World) =>
 ∃
 (t116
 :
 Bool),
 v114 =
 Value.bool
 t116 ∧
 Keeps
 w107
 w115
 [w1.heap.size] ∧
 ∃
 (q117
 :
 Option
 Addr),
 ∃
 (n118
 :
 Nat),
 ∃
 (n119
 :
 Nat),
 w115.cell?
 { block := (w1.alloc (Obj.cells #[Value.map none, Value.map none, Value.slice none (0 : Nat) (0 : Nat)] (79 : Nat))).heap.size, off := (0 : Nat) } =
 some
 (Value.slice
 q117
 n118
 n119) ∧
 w115.frozen?
 { block := (w1.alloc (Obj.cells #[Value.map none, Value.map none, Value.slice none (0 : Nat) (0 : Nat)] (79 : Nat))).heap.size, off := (0 : Nat) } =
 false ∧
 ∃
 (q120
 :
 Option
 Addr),
 ∃
 (n121
 :
 Nat),
 ∃
 (n122
 :
 Nat),
 w115.cell?
 { block := (w1.alloc (Obj.cells #[Value.map none, Value.map none, Value.slice none (0 : Nat) (0 : Nat)] (79 : Nat))).heap.size, off := (1 : Nat) } =
 some
 (Value.slice
 q120
 n121
 n122) ∧
 w115.frozen?
 { block := (w1.alloc (Obj.cells #[Value.map none, Value.map none, Value.slice none (0 : Nat) (0 : Nat)] (79 : Nat))).heap.size, off := (1 : Nat) } =
 false ∧
 bif
 t108 ==
 t116 then
 Known
 w115
 [(w1.heap.size,
 [((0 :
 Nat),
 Value.map
 q109),
 ((1 :
 Nat),
 Value.map
 q110),
 ((2 :
 Nat),
 Value.slice
 q111
 n112
 n113)]),
 ((w1.alloc
 (Obj.cells
 #[Value.map
 none,
 Value.map
 none,
 Value.slice
 none
 (0 :
 Nat)
 (0 :
 Nat)]
 (79 :
 Nat))).heap.size,
 [((0 :
 Nat),
 Value.slice
 q117
 n118
 n119),
 ((1 :
 Nat),
 Value.slice
 q120
 n121
 n122)])] →
 Rets
 Try.prog
 (36 :
 Nat)
 #[]
 w115
 fun
 (v123 :
 Value)
 (w124 :
 World) =>
 ∃
 (t125
 :
 Bool),
 v123 =
 Value.bool
 t125 ∧
 Keeps
 w115
 w124
 [w1.heap.size,
 (w1.alloc
 (Obj.cells
 #[Value.map
 none,
 Value.map
 none,
 Value.slice
 none
 (0 :
 Nat)
 (0 :
 Nat)]
 (79 :
 Nat))).heap.size] ∧
 (Known
 w124
 [(w1.heap.size,
 [((0 :
 Nat),
 Value.map
 q109),
 ((1 :
 Nat),
 Value.map
 q110),
 ((2 :
 Nat),
 Value.slice
 q111
 n112
 n113)]),
 ((w1.alloc
 (Obj.cells
 #[Value.map
 none,
 Value.map
 none,
 Value.slice
 none
 (0 :
 Nat)
 (0 :
 Nat)]
 (79 :
 Nat))).heap.size,
 [((0 :
 Nat),
 Value.slice
 q117
 n118
 n119),
 ((1 :
 Nat),
 Value.slice
 q120
 n121
 n122)])] →
 R
 (Ending.returned
 (Value.bool
 t125))
 w124)
 else
 Known
 w115
 [(w1.heap.size,
 [((0 :
 Nat),
 Value.map
 q109),
 ((1 :
 Nat),
 Value.map
 q110),
 ((2 :
 Nat),
 Value.slice
 q111
 n112
 n113)]),
 ((w1.alloc
 (Obj.cells
 #[Value.map
 none,
 Value.map
 none,
 Value.slice
 none
 (0 :
 Nat)
 (0 :
 Nat)]
 (79 :
 Nat))).heap.size,
 [((0 :
 Nat),
 Value.slice
 q117
 n118
 n119),
 ((1 :
 Nat),
 Value.slice
 q120
 n121
 n122)])] →
 R
 (Ending.returned
 (Value.bool
 false))
 w115)
 else
 bif !t75 then
 bif i74 != (0 : Int) then
 Known w82
 [(w1.heap.size,
 [((0 : Nat), Value.map q76),
 ((1 : Nat),
 Value.map q77),
 ((2 : Nat),
 Value.slice q78 n79
 n80)]),
 ((w1.alloc
 (Obj.cells
 #[Value.map none,
 Value.map none,
 Value.slice none
 (0 : Nat)
 (0 : Nat)]
 (79 :
 Nat))).heap.size,
 [((0 : Nat),
 Value.slice q17 n18
 n19),
 ((1 : Nat),
 Value.slice q20 n21
 n22)])] →
 R
 (Ending.returned
 (Value.bool false))
 w82
 else
 Known w82
 [(w1.heap.size,
 [((0 : Nat), Value.map q76),
 ((1 : Nat),
 Value.map q77),
 ((2 : Nat),
 Value.slice q78 n79
 n80)]),
 ((w1.alloc
 (Obj.cells
 #[Value.map none,
 Value.map none,
 Value.slice none
 (0 : Nat)
 (0 : Nat)]
 (79 :
 Nat))).heap.size,
 [((0 : Nat),
 Value.slice q17 n18
 n19),
 ((1 : Nat),
 Value.slice q20 n21
 n22)])] →
 Rets Try.prog (46 : Nat)
 #[Value.pointer
 (some
 {block := w1.heap.size, off := (0 : Nat) }),
 Value.int IntKind.i64 p2]
 w82
 fun (v126 : Value)
 (w127 : World) =>
 ∃ (t128 : Bool),
 v126 = Value.bool t128 ∧
 Keeps w82 w127
 [(w1.alloc
 (Obj.cells
 #[Value.map
 none,
 Value.map
 none,
 Value.slice
 none
 (0 : Nat)
 (0 : Nat)]
 (79 :
 Nat))).heap.size] ∧
 ∃ (q129 : Option Nat),
 w127.cell?
 { block := w1.heap.size, off := (0 : Nat) } =
 some
 (Value.map q129) ∧
 w127.frozen?
 { block := w1.heap.size, off := (0 : Nat) } =
 false ∧
 ∃ (q130 :
 Option Nat),
 w127.cell?
 { block := w1.heap.size, off := (1 : Nat) } =
 some
 (Value.map
 q130) ∧
 w127.frozen?
 { block := w1.heap.size, off := (1 : Nat) } =
 false ∧
 ∃ (q131 :
 Option
 Addr),
 ∃ (n132 :
 Nat),
 ∃ (n133 :
 Nat),
 w127.cell?
 { block := w1.heap.size, off := (2 : Nat) } =
 some
 (Value.slice
 q131
 n132
 n133) ∧
 w127.frozen?
 { block := w1.heap.size, off := (2 : Nat) } =
 false ∧
 (Known
 w127
 [(w1.heap.size,
 [((0 :
 Nat),
 Value.map
 q129),
 ((1 :
 Nat),
 Value.map
 q130),
 ((2 :
 Nat),
 Value.slice
 q131
 n132
 n133)]),
 ((w1.alloc
 (Obj.cells
 #[Value.map
 none,
 Value.map
 none,
 Value.slice
 none
 (0 :
 Nat)
 (0 :
 Nat)]
 (79 :
 Nat))).heap.size,
 [((0 :
 Nat),
 Value.slice
 q17
 n18
 n19),
 ((1 :
 Nat),
 Value.slice
 q20
 n21
 n22)])] →
 Rets
 Try.prog
 (50 :
 Nat)
 #[Value.pointer
 (some
 { block := (w1.alloc (Obj.cells #[Value.map none, Value.map none, Value.slice none (0 : Nat) (0 : Nat)] (79 : Nat))).heap.size, off := (0 : Nat) }),
 Value.int
 IntKind.i64
 p2]
 w127
 fun
 (v134 :
 Value)
 (w135 :
 World) =>
 ∃
 (t136
 :
 Bool),
 v134 =
 Value.bool
 t136 ∧
 Keeps
 w127
 w135
 [w1.heap.size] ∧
 ∃
 (q137
 :
 Option
 Addr),
 ∃
 (n138
 :
 Nat),
 ∃
 (n139
 :
 Nat),
 w135.cell?
 { block := (w1.alloc (Obj.cells #[Value.map none, Value.map none, Value.slice none (0 : Nat) (0 : Nat)] (79 : Nat))).heap.size, off := (0 : Nat) } =
 some
 (Value.slice
 q137
 n138
 n139) ∧
 w135.frozen?
 { block := (w1.alloc (Obj.cells #[Value.map none, Value.map none, Value.slice none (0 : Nat) (0 : Nat)] (79 : Nat))).heap.size, off := (0 : Nat) } =
 false ∧
 ∃
 (q140
 :
 Option
 Addr),
 ∃
 (n141
 :
 Nat),
 ∃
 (n142
 :
 Nat),
 w135.cell?
 { block := (w1.alloc (Obj.cells #[Value.map none, Value.map none, Value.slice none (0 : Nat) (0 : Nat)] (79 : Nat))).heap.size, off := (1 : Nat) } =
 some
 (Value.slice
 q140
 n141
 n142) ∧
 w135.frozen?
 { block := (w1.alloc (Obj.cells #[Value.map none, Value.map none, Value.slice none (0 : Nat) (0 : Nat)] (79 : Nat))).heap.size, off := (1 : Nat) } =
 false ∧
 bif
 t128 ==
 t136 then
 Known
 w135
 [(w1.heap.size,
 [((0 :
 Nat),
 Value.map
 q129),
 ((1 :
 Nat),
 Value.map
 q130),
 ((2 :
 Nat),
 Value.slice
 q131
 n132
 n133)]),
 ((w1.alloc
 (Obj.cells
 #[Value.map
 none,
 Value.map
 none,
 Value.slice
 none
 (0 :
 Nat)
 (0 :
 Nat)]
 (79 :
 Nat))).heap.size,
 [((0 :
 Nat),
 Value.slice
 q137
 n138
 n139),
 ((1 :
 Nat),
 Value.slice
 q140
 n141
 n142)])] →
 Rets
 Try.prog
 (36 :
 Nat)
 #[]
 w135
 fun
 (v143 :
 Value)
 (w144 :
 World) =>
 ∃
 (t145
 :
 Bool),
 v143 =
 Value.bool
 t145 ∧
 Keeps
 w135
 w144
 [w1.heap.size,
 (w1.alloc
 (Obj.cells
 #[Value.map
 none,
 Value.map
 none,
 Value.slice
 none
 (0 :
 Nat)
 (0 :
 Nat)]
 (79 :
 Nat))).heap.size] ∧
 (Known
 w144
 [(w1.heap.size,
 [((0 :
 Nat),
 Value.map
 q129),
 ((1 :
 Nat),
 Value.map
 q130),
 ((2 :
 Nat),
 Value.slice
 q131
 n132
 n133)]),
 ((w1.alloc
 (Obj.cells
 #[Value.map
 none,
 Value.map
 none,
 Value.slice
 none
 (0 :
 Nat)
 (0 :
 Nat)]
 (79 :
 Nat))).heap.size,
 [((0 :
 Nat),
 Value.slice
 q137
 n138
 n139),
 ((1 :
 Nat),
 Value.slice
 q140
 n141
 n142)])] →
 R
 (Ending.returned
 (Value.bool
 t145))
 w144)
 else
 Known
 w135
 [(w1.heap.size,
 [((0 :
 Nat),
 Value.map
 q129),
 ((1 :
 Nat),
 Value.map
 q130),
 ((2 :
 Nat),
 Value.slice
 q131
 n132
 n133)]),
 ((w1.alloc
 (Obj.cells
 #[Value.map
 none,
 Value.map
 none,
 Value.slice
 none
 (0 :
 Nat)
 (0 :
 Nat)]
 (79 :
 Nat))).heap.size,
 [((0 :
 Nat),
 Value.slice
 q137
 n138
 n139),
 ((1 :
 Nat),
 Value.slice
 q140
 n141
 n142)])] →
 R
 (Ending.returned
 (Value.bool
 false))
 w135)
 else
 Known w82
 [(w1.heap.size,
 [((0 : Nat), Value.map q76),
 ((1 : Nat), Value.map q77),
 ((2 : Nat),
 Value.slice q78 n79
 n80)]),
 ((w1.alloc
 (Obj.cells
 #[Value.map none,
 Value.map none,
 Value.slice none
 (0 : Nat)
 (0 : Nat)]
 (79 :
 Nat))).heap.size,
 [((0 : Nat),
 Value.slice q17 n18 n19),
 ((1 : Nat),
 Value.slice q20 n21
 n22)])] →
 Rets Try.prog (46 : Nat)
 #[Value.pointer
 (some
 {block := w1.heap.size, off := (0 : Nat) }),
 Value.int IntKind.i64 p2]
 w82
 fun (v146 : Value)
 (w147 : World) =>
 ∃ (t148 : Bool),
 v146 = Value.bool t148 ∧
 Keeps w82 w147
 [(w1.alloc
 (Obj.cells
 #[Value.map
 none,
 Value.map
 none,
 Value.slice
 none
 (0 : Nat)
 (0 : Nat)]
 (79 :
 Nat))).heap.size] ∧
 ∃ (q149 : Option Nat),
 w147.cell?
 { block := w1.heap.size, off := (0 : Nat) } =
 some
 (Value.map q149) ∧
 w147.frozen?
 { block := w1.heap.size, off := (0 : Nat) } =
 false ∧
 ∃ (q150 : Option Nat),
 w147.cell?
 { block := w1.heap.size, off := (1 : Nat) } =
 some
 (Value.map
 q150) ∧
 w147.frozen?
 { block := w1.heap.size, off := (1 : Nat) } =
 false ∧
 ∃ (q151 :
 Option Addr),
 ∃ (n152 :
 Nat),
 ∃ (n153 :
 Nat),
 w147.cell?
 { block := w1.heap.size, off := (2 : Nat) } =
 some
 (Value.slice
 q151
 n152
 n153) ∧
 w147.frozen?
 { block := w1.heap.size, off := (2 : Nat) } =
 false ∧
 (Known
 w147
 [(w1.heap.size,
 [((0 :
 Nat),
 Value.map
 q149),
 ((1 :
 Nat),
 Value.map
 q150),
 ((2 :
 Nat),
 Value.slice
 q151
 n152
 n153)]),
 ((w1.alloc
 (Obj.cells
 #[Value.map
 none,
 Value.map
 none,
 Value.slice
 none
 (0 :
 Nat)
 (0 :
 Nat)]
 (79 :
 Nat))).heap.size,
 [((0 :
 Nat),
 Value.slice
 q17
 n18
 n19),
 ((1 :
 Nat),
 Value.slice
 q20
 n21
 n22)])] →
 Rets
 Try.prog
 (50 :
 Nat)
 #[Value.pointer
 (some
 { block := (w1.alloc (Obj.cells #[Value.map none, Value.map none, Value.slice none (0 : Nat) (0 : Nat)] (79 : Nat))).heap.size, off := (0 : Nat) }),
 Value.int
 IntKind.i64
 p2]
 w147
 fun
 (v154 :
 Value)
 (w155 :
 World) =>
 ∃
 (t156
 :
 Bool),
 v154 =
 Value.bool
 t156 ∧
 Keeps
 w147
 w155
 [w1.heap.size] ∧
 ∃
 (q157
 :
 Option
 Addr),
 ∃
 (n158
 :
 Nat),
 ∃
 (n159
 :
 Nat),
 w155.cell?
 { block := (w1.alloc (Obj.cells #[Value.map none, Value.map none, Value.slice none (0 : Nat) (0 : Nat)] (79 : Nat))).heap.size, off := (0 : Nat) } =
 some
 (Value.slice
 q157
 n158
 n159) ∧
 w155.frozen?
 { block := (w1.alloc (Obj.cells #[Value.map none, Value.map none, Value.slice none (0 : Nat) (0 : Nat)] (79 : Nat))).heap.size, off := (0 : Nat) } =
 false ∧
 ∃
 (q160
 :
 Option
 Addr),
 ∃
 (n161
 :
 Nat),
 ∃
 (n162
 :
 Nat),
 w155.cell?
 { block := (w1.alloc (Obj.cells #[Value.map none, Value.map none, Value.slice none (0 : Nat) (0 : Nat)] (79 : Nat))).heap.size, off := (1 : Nat) } =
 some
 (Value.slice
 q160
 n161
 n162) ∧
 w155.frozen?
 { block := (w1.alloc (Obj.cells #[Value.map none, Value.map none, Value.slice none (0 : Nat) (0 : Nat)] (79 : Nat))).heap.size, off := (1 : Nat) } =
 false ∧
 bif
 t148 ==
 t156 then
 Known
 w155
 [(w1.heap.size,
 [((0 :
 Nat),
 Value.map
 q149),
 ((1 :
 Nat),
 Value.map
 q150),
 ((2 :
 Nat),
 Value.slice
 q151
 n152
 n153)]),
 ((w1.alloc
 (Obj.cells
 #[Value.map
 none,
 Value.map
 none,
 Value.slice
 none
 (0 :
 Nat)
 (0 :
 Nat)]
 (79 :
 Nat))).heap.size,
 [((0 :
 Nat),
 Value.slice
 q157
 n158
 n159),
 ((1 :
 Nat),
 Value.slice
 q160
 n161
 n162)])] →
 Rets
 Try.prog
 (36 :
 Nat)
 #[]
 w155
 fun
 (v163 :
 Value)
 (w164 :
 World) =>
 ∃
 (t165
 :
 Bool),
 v163 =
 Value.bool
 t165 ∧
 Keeps
 w155
 w164
 [w1.heap.size,
 (w1.alloc
 (Obj.cells
 #[Value.map
 none,
 Value.map
 none,
 Value.slice
 none
 (0 :
 Nat)
 (0 :
 Nat)]
 (79 :
 Nat))).heap.size] ∧
 (Known
 w164
 [(w1.heap.size,
 [((0 :
 Nat),
 Value.map
 q149),
 ((1 :
 Nat),
 Value.map
 q150),
 ((2 :
 Nat),
 Value.slice
 q151
 n152
 n153)]),
 ((w1.alloc
 (Obj.cells
 #[Value.map
 none,
 Value.map
 none,
 Value.slice
 none
 (0 :
 Nat)
 (0 :
 Nat)]
 (79 :
 Nat))).heap.size,
 [((0 :
 Nat),
 Value.slice
 q157
 n158
 n159),
 ((1 :
 Nat),
 Value.slice
 q160
 n161
 n162)])] →
 R
 (Ending.returned
 (Value.bool
 t165))
 w164)
 else
 Known
 w155
 [(w1.heap.size,
 [((0 :
 Nat),
 Value.map
 q149),
 ((1 :
 Nat),
 Value.map
 q150),
 ((2 :
 Nat),
 Value.slice
 q151
 n152
 n153)]),
 ((w1.alloc
 (Obj.cells
 #[Value.map
 none,
 Value.map
 none,
 Value.slice
 none
 (0 :
 Nat)
 (0 :
 Nat)]
 (79 :
 Nat))).heap.size,
 [((0 :
 Nat),
 Value.slice
 q157
 n158
 n159),
 ((1 :
 Nat),
 Value.slice
 q160
 n161
 n162)])] →
 R
 (Ending.returned
 (Value.bool
 false))
 w155))))
theorem vcTry10 (p0 : Option Addr) (n0 c0 : Nat) (p1 : ByteArray) (p2 : Int) (w : World) (R : Ending → World → Prop) : SX.vcFn Try.prog [(7, ⟨[(10, .int .i64)], [7, 8, 0, 9, 2, 1], [(0, 0, .map), (0, 1, .map), (0, 2, .slice), (1, 0, .slice), (1, 1, .slice)]⟩)] Try.f10 [.v (.slice p0 n0 c0), .v (.string p1), .v (.int .i64 p2)] [] w R = VCTry10 p0 n0 c0 p1 p2 w R := by kernel_rfl
end Go.Proofs.Ytlgkcbdpaffigaa
