/- The conditions of functions, as the executor computes them: each is equal to what 'vcFn' says. -/
import Derived.Test.YtlgkcbdpaffigaaSxLib
import Derived.Test.YtlgkcbdpaffigaaProg
namespace Go.Proofs.Ytlgkcbdpaffigaa
open Go Go.SX Go.Proofs
set_option maxRecDepth 100000
set_option linter.unusedVariables false
def VCTry8 (q : Option Addr) (m c : Nat) (a b : ByteArray) (n : Int) (w : World) (R : Ending → World → Prop) : Prop :=
Known (w.alloc (Obj.cells #[Value.string a, Value.string b, Value.int IntKind.i64 n] (93 : Nat))) [(w.heap.size, [((0 : Nat), Value.string a), ((1 : Nat), Value.string b), ((2 : Nat), Value.int IntKind.i64 n)])] →
 Rets Try.prog (35 : Nat) #[Value.slice q m c] (w.alloc (Obj.cells #[Value.string a, Value.string b, Value.int IntKind.i64 n] (93 : Nat))) fun (v0 : Value) (w1 : World) =>
 ∃ (t2 : Bool),
 v0 = Value.bool t2 ∧
 Keeps (w.alloc (Obj.cells #[Value.string a, Value.string b, Value.int IntKind.i64 n] (93 : Nat))) w1 [w.heap.size] ∧
 bif t2 then
 Known w1 [(w.heap.size, [((0 : Nat), Value.string a), ((1 : Nat), Value.string b), ((2 : Nat), Value.int IntKind.i64 n)])] →
 Rets Try.prog (36 : Nat) #[] w1 fun (v3 : Value) (w4 : World) =>
 ∃ (t5 : Bool),
 v3 = Value.bool t5 ∧
 Keeps w1 w4 [w.heap.size] ∧ (Known w4 [(w.heap.size, [((0 : Nat), Value.string a), ((1 : Nat), Value.string b), ((2 : Nat), Value.int IntKind.i64 n)])] → R (Ending.returned (Value.bool t5)) w4)
 else
 bif decide ((↑a.size : Int) > (300 : Int)) then
 Known w1 [(w.heap.size, [((0 : Nat), Value.string a), ((1 : Nat), Value.string b), ((2 : Nat), Value.int IntKind.i64 n)])] →
 Rets Try.prog (36 : Nat) #[] w1 fun (v6 : Value) (w7 : World) =>
 ∃ (t8 : Bool),
 v6 = Value.bool t8 ∧
 Keeps w1 w7 [w.heap.size] ∧ (Known w7 [(w.heap.size, [((0 : Nat), Value.string a), ((1 : Nat), Value.string b), ((2 : Nat), Value.int IntKind.i64 n)])] → R (Ending.returned (Value.bool t8)) w7)
 else
 bif decide ((↑b.size : Int) > (300 : Int)) then
 Known w1 [(w.heap.size, [((0 : Nat), Value.string a), ((1 : Nat), Value.string b), ((2 : Nat), Value.int IntKind.i64 n)])] →
 Rets Try.prog (36 : Nat) #[] w1 fun (v9 : Value) (w10 : World) =>
 ∃ (t11 : Bool),
 v9 = Value.bool t11 ∧
 Keeps w1 w10 [w.heap.size] ∧
 (Known w10 [(w.heap.size, [((0 : Nat), Value.string a), ((1 : Nat), Value.string b), ((2 : Nat), Value.int IntKind.i64 n)])] → R (Ending.returned (Value.bool t11)) w10)
 else
 ∃ (I12 : Int → Option Nat → Option Nat → Option Addr → Nat → Nat → Option Addr → Nat → Nat → Option Addr → Nat → Nat → World → Prop),
 ∃ (I13 : Int → Option Nat → Option Nat → Option Addr → Nat → Nat → Option Addr → Nat → Nat → Option Addr → Nat → Nat → World → Nat),
 I12 (0 : Int) none none none (0 : Nat) (0 : Nat) none (0 : Nat) (0 : Nat) none (0 : Nat) (0 : Nat)
 ((w1.alloc (Obj.cells #[Value.map none, Value.map none, Value.slice none (0 : Nat) (0 : Nat)] (79 : Nat))).alloc
 (Obj.cells #[Value.slice none (0 : Nat) (0 : Nat), Value.slice none (0 : Nat) (0 : Nat)] (83 : Nat))) ∧
 ∀ (i14 : Int) (q15 q16 : Option Nat) (q17 : Option Addr) (n18 n19 : Nat) (q20 : Option Addr) (n21 n22 : Nat) (q23 : Option Addr) (n24 n25 : Nat) (w26 : World),
 I12 i14 q15 q16 q17 n18 n19 q20 n21 n22 q23 n24 n25 w26 →
 Known w26
 [(w.heap.size, [((0 : Nat), Value.string a), ((1 : Nat), Value.string b), ((2 : Nat), Value.int IntKind.i64 n)]),
 (w1.heap.size, [((0 : Nat), Value.map q15), ((1 : Nat), Value.map q16), ((2 : Nat), Value.slice q17 n18 n19)]),
 ((w1.alloc (Obj.cells #[Value.map none, Value.map none, Value.slice none (0 : Nat) (0 : Nat)] (79 : Nat))).heap.size,
 [((0 : Nat), Value.slice q20 n21 n22), ((1 : Nat), Value.slice q23 n24 n25)])] →
 bif decide (i14 < (↑m : Int)) then
 ((0 : Int) ≤ i14 ∧ i14 < (↑m : Int)) ∧
 SX.Ptr q fun (a27 : Addr) =>
 ∃ (i28 : Int),
 ∃ (s29 : ByteArray),
 ∃ (s30 : ByteArray),
 ∃ (i31 : Int),
 (w26.cell? ((a27.add (i14.toNat * (4 : Nat))).add (0 : Nat)) = some (Value.int IntKind.i64 i28) ∧
 w26.cell? ((a27.add (i14.toNat * (4 : Nat))).add (1 : Nat)) = some (Value.string s29) ∧
 w26.cell? ((a27.add (i14.toNat * (4 : Nat))).add (2 : Nat)) = some (Value.string s30) ∧
 w26.cell? ((a27.add (i14.toNat * (4 : Nat))).add (3 : Nat)) = some (Value.int IntKind.i64 i31) ∧ True) ∧
 (Known w26
 [(w.heap.size, [((0 : Nat), Value.string a), ((1 : Nat), Value.string b), ((2 : Nat), Value.int IntKind.i64 n)]),
 (w1.heap.size, [((0 : Nat), Value.map q15), ((1 : Nat), Value.map q16), ((2 : Nat), Value.slice q17 n18 n19)]),
 ((w1.alloc (Obj.cells #[Value.map none, Value.map none, Value.slice none (0 : Nat) (0 : Nat)] (79 : Nat))).heap.size,
 [((0 : Nat), Value.slice q20 n21 n22), ((1 : Nat), Value.slice q23 n24 n25)])] →
 Rets Try.prog (37 : Nat)
 #[Value.pointer (some { block := w1.heap.size, off := (0 : Nat) }),
 Value.pointer (some { block := (w1.alloc (Obj.cells #[Value.map none, Value.map none, Value.slice none (0 : Nat) (0 : Nat)] (79 : Nat))).heap.size, off := (0 : Nat) }),
 Value.agg #[Value.int IntKind.i64 i28, Value.string s29, Value.string s30, Value.int IntKind.i64 i31]]
 w26 fun (v32 : Value) (w33 : World) =>
 ∃ (t34 : Bool),
 v32 = Value.bool t34 ∧
 Keeps w26 w33 [w.heap.size] ∧
 ∃ (q35 : Option Nat),
 w33.cell? { block := w1.heap.size, off := (0 : Nat) } = some (Value.map q35) ∧
 w33.frozen? { block := w1.heap.size, off := (0 : Nat) } = false ∧
 ∃ (q36 : Option Nat),
 w33.cell? { block := w1.heap.size, off := (1 : Nat) } = some (Value.map q36) ∧
 w33.frozen? { block := w1.heap.size, off := (1 : Nat) } = false ∧
 ∃ (q37 : Option Addr),
 ∃ (n38 : Nat),
 ∃ (n39 : Nat),
 w33.cell? { block := w1.heap.size, off := (2 : Nat) } = some (Value.slice q37 n38 n39) ∧
 w33.frozen? { block := w1.heap.size, off := (2 : Nat) } = false ∧
 ∃ (q40 : Option Addr),
 ∃ (n41 : Nat),
 ∃ (n42 : Nat),
 w33.cell?
 {block := (w1.alloc (Obj.cells #[Value.map none, Value.map none, Value.slice none (0 : Nat) (0 : Nat)] (79 : Nat))).heap.size, off := (0 : Nat) } =
 some (Value.slice q40 n41 n42) ∧
 w33.frozen?
 {block := (w1.alloc (Obj.cells #[Value.map none, Value.map none, Value.slice none (0 : Nat) (0 : Nat)] (79 : Nat))).heap.size, off := (0 : Nat) } =
 false ∧
 ∃ (q43 : Option Addr),
 ∃ (n44 : Nat),
 ∃ (n45 : Nat),
 w33.cell?
 { block := (w1.alloc (Obj.cells #[Value.map none, Value.map none, Value.slice none (0 : Nat) (0 : Nat)] (79 : Nat))).heap.size, off := (1 : Nat) } =
 some (Value.slice q43 n44 n45) ∧
 w33.frozen?
 { block := (w1.alloc (Obj.cells #[Value.map none, Value.map none, Value.slice none (0 : Nat) (0 : Nat)] (79 : Nat))).heap.size, off := (1 : Nat) } =
 false ∧
 Wr IntKind.i64 (i14 + (1 : Int)) fun (i46 : Int) =>
 SameVals [Value.string a, Value.string b, Value.int IntKind.i64 n]
 [Value.string a, Value.string b, Value.int IntKind.i64 n] ∧
 I12 i46 q35 q36 q37 n38 n39 q40 n41 n42 q43 n44 n45 w33 ∧
 I13 i46 q35 q36 q37 n38 n39 q40 n41 n42 q43 n44 n45 w33 < I13 i14 q15 q16 q17 n18 n19 q20 n21 n22 q23 n24 n25 w26)
 else
 Known w26
 [(w.heap.size, [((0 : Nat), Value.string a), ((1 : Nat), Value.string b), ((2 : Nat), Value.int IntKind.i64 n)]),
 (w1.heap.size, [((0 : Nat), Value.map q15), ((1 : Nat), Value.map q16), ((2 : Nat), Value.slice q17 n18 n19)]),
 ((w1.alloc (Obj.cells #[Value.map none, Value.map none, Value.slice none (0 : Nat) (0 : Nat)] (79 : Nat))).heap.size,
 [((0 : Nat), Value.slice q20 n21 n22), ((1 : Nat), Value.slice q23 n24 n25)])] →
 Rets Try.prog (38 : Nat) #[Value.pointer (some { block := w1.heap.size, off := (0 : Nat) })] w26 fun (v47 : Value) (w48 : World) =>
 v47 = Value.tuple #[] ∧
 Keeps w26 w48 [w.heap.size, (w1.alloc (Obj.cells #[Value.map none, Value.map none, Value.slice none (0 : Nat) (0 : Nat)] (79 : Nat))).heap.size] ∧
 ∃ (q49 : Option Nat),
 w48.cell? { block := w1.heap.size, off := (0 : Nat) } = some (Value.map q49) ∧
 w48.frozen? { block := w1.heap.size, off := (0 : Nat) } = false ∧
 ∃ (q50 : Option Nat),
 w48.cell? { block := w1.heap.size, off := (1 : Nat) } = some (Value.map q50) ∧
 w48.frozen? { block := w1.heap.size, off := (1 : Nat) } = false ∧
 ∃ (q51 : Option Addr),
 ∃ (n52 : Nat),
 ∃ (n53 : Nat),
 w48.cell? { block := w1.heap.size, off := (2 : Nat) } = some (Value.slice q51 n52 n53) ∧
 w48.frozen? { block := w1.heap.size, off := (2 : Nat) } = false ∧
 (Known w48
 [(w.heap.size, [((0 : Nat), Value.string a), ((1 : Nat), Value.string b), ((2 : Nat), Value.int IntKind.i64 n)]),
 (w1.heap.size, [((0 : Nat), Value.map q49), ((1 : Nat), Value.map q50), ((2 : Nat), Value.slice q51 n52 n53)]),
 ((w1.alloc (Obj.cells #[Value.map none, Value.map none, Value.slice none (0 : Nat) (0 : Nat)] (79 : Nat))).heap.size,
 [((0 : Nat), Value.slice q20 n21 n22), ((1 : Nat), Value.slice q23 n24 n25)])] →
 Rets Try.prog (42 : Nat) #[Value.pointer (some { block := w1.heap.size, off := (0 : Nat) }), Value.string a] w48 fun (v54 : Value) (w55 : World) =>
 ∃ (i56 : Int),
 ∃ (t57 : Bool),
 v54 = Value.tuple #[Value.int IntKind.i64 i56, Value.bool t57] ∧
 Keeps w48 w55 [w.heap.size, (w1.alloc (Obj.cells #[Value.map none, Value.map none, Value.slice none (0 : Nat) (0 : Nat)] (79 : Nat))).heap.size] ∧
 ∃ (q58 : Option Nat),
 w55.cell? { block := w1.heap.size, off := (0 : Nat) } = some (Value.map q58) ∧
 w55.frozen? { block := w1.heap.size, off := (0 : Nat) } = false ∧
 ∃ (q59 : Option Nat),
 w55.cell? { block := w1.heap.size, off := (1 : Nat) } = some (Value.map q59) ∧
 w55.frozen? { block := w1.heap.size, off := (1 : Nat) } = false ∧
 ∃ (q60 : Option Addr),
 ∃ (n61 : Nat),
 ∃ (n62 : Nat),
 w55.cell? { block := w1.heap.size, off := (2 : Nat) } = some (Value.slice q60 n61 n62) ∧
 w55.frozen? { block := w1.heap.size, off := (2 : Nat) } = false ∧
 (Known w55
 [(w.heap.size, [((0 : Nat), Value.string a), ((1 : Nat), Value.string b), ((2 : Nat), Value.int IntKind.i64 n)]),
 (w1.heap.size, [((0 : Nat), Value.map q58), ((1 : Nat), Value.map q59), ((2 : Nat), Value.slice q60 n61 n62)]),
 ((w1.alloc (Obj.cells #[Value.map none, Value.map none, Value.slice none (0 : Nat) (0 : Nat)] (79 : Nat))).heap.size,
 [((0 : Nat), Value.slice q20 n21 n22), ((1 : Nat), Value.slice q23 n24 n25)])] →
 Rets Try.prog (43 : Nat) #[Value.pointer (some { block := w1.heap.size, off := (0 : Nat) }), Value.string a, Value.string b]
 w55 fun (v63 : Value) (w64 : World) =>
 ∃ (i65 : Int),
 v63 = Value.int IntKind.i64 i65 ∧
 Keeps w55 w64
 [w.heap.size,
 (w1.alloc
 (Obj.cells #[Value.map none, Value.map none, Value.slice none (0 : Nat) (0 : Nat)]
 (79 : Nat))).heap.size] ∧
 ∃ (q66 : Option Nat),
 w64.cell? { block := w1.heap.size, off := (0 : Nat) } = some (Value.map q66) ∧
 w64.frozen? { block := w1.heap.size, off := (0 : Nat) } = false ∧
 ∃ (q67 : Option Nat),
 w64.cell? { block := w1.heap.size, off := (1 : Nat) } = some (Value.map q67) ∧
 w64.frozen? { block := w1.heap.size, off := (1 : Nat) } = false ∧
 ∃ (q68 : Option Addr),
 ∃ (n69 : Nat),
 ∃ (n70 : Nat),
 w64.cell? { block := w1.heap.size, off := (2 : Nat) } = some (Value.slice q68 n69 n70) ∧
 w64.frozen? { block := w1.heap.size, off := (2 : Nat) } = false ∧
 bif i65 != (0 : Int) then
 bif !t57 then
 Known w64
 [(w.heap.size,
 [((0 : Nat), Value.string a), ((1 : Nat), Value.string b),
 ((2 : Nat), Value.int IntKind.i64 n)]),
 (w1.heap.size,
 [((0 : Nat), Value.map q66), ((1 : Nat), Value.map q67),
 ((2 : Nat), Value.slice q68 n69 n70)]),
 ((w1.alloc
 (Obj.cells
 #[Value.map none, Value.map none, Value.slice none (0 : Nat) (0 : Nat)]
 (79 : Nat))).heap.size,
 [((0 : Nat), Value.slice q20 n21 n22), ((1 : Nat), Value.slice q23 n24 n25)])] →
 Rets Try.prog (36 : Nat) #[] w64 fun (v71 : Value) (w72 : World) =>
 ∃ (t73 : Bool),
 v71 = Value.bool t73 ∧
 Keeps w64 w72
 [w.heap.size, w1.heap.size,
 (w1.alloc
 (Obj.cells
 #[Value.map none, Value.map none,
 Value.slice none (0 : Nat) (0 : Nat)]
 (79 : Nat))).heap.size] ∧
 (Known w72
 [(w.heap.size,
 [((0 : Nat), Value.string a), ((1 : Nat), Value.string b),
 ((2 : Nat), Value.int IntKind.i64 n)]),
 (w1.heap.size,
 [((0 : Nat), Value.map q66), ((1 : Nat), Value.map q67),
 ((2 : Nat), Value.slice q68 n69 n70)]),
 ((w1.alloc
 (Obj.cells
 #[Value.map none, Value.map none,
 Value.slice none (0 : Nat) (0 : Nat)]
 (79 : Nat))).heap.size,
 [((0 : Nat), Value.slice q20 n21 n22),
 ((1 : Nat), Value.slice q23 n24 n25)])] →
 R (Ending.returned (Value.bool t73)) w72)
 else
 Known w64
 [(w.heap.size,
 [((0 : Nat), Value.string a), ((1 : Nat), Value.string b),
 ((2 : Nat), Value.int IntKind.i64 n)]),
 (w1.heap.size,
 [((0 : Nat), Value.map q66), ((1 : Nat), Value.map q67),
 ((2 : Nat), Value.slice q68 n69 n70)]),
 ((w1.alloc
 (Obj.cells
 #[Value.map none, Value.map none, Value.slice none (0 : Nat) (0 : Nat)]
 (79 : Nat))).heap.size,
 [((0 : Nat), Value.slice q20 n21 n22), ((1 : Nat), Value.slice q23 n24 n25)])] →
 Rets Try.prog (44 : Nat) #[Value.string b] w64 fun (v74 : Value) (w75 : World) =>
 ∃ (t76 : Bool),
 v74 = Value.bool t76 ∧
 Keeps w64 w75
 [w.heap.size, w1.heap.size,
 (w1.alloc
 (Obj.cells
 #[Value.map none, Value.map none,
 Value.slice none (0 : Nat) (0 : Nat)]
 (79 : Nat))).heap.size] ∧
 bif !t76 then
 Known w75
 [(w.heap.size,
 [((0 : Nat), Value.string a), ((1 : Nat), Value.string b),
 ((2 : Nat), Value.int IntKind.i64 n)]),
 (w1.heap.size,
 [((0 : Nat), Value.map q66), ((1 : Nat), Value.map q67),
 ((2 : Nat), Value.slice q68 n69 n70)]),
 ((w1.alloc
 (Obj.cells
 #[Value.map none, Value.map none,
 Value.slice none (0 : Nat) (0 : Nat)]
 (79 : Nat))).heap.size,
 [((0 : Nat), Value.slice q20 n21 n22),
 ((1 : Nat), Value.slice q23 n24 n25)])] →
 Rets Try.prog (36 : Nat) #[] w75 fun (v77 : Value) (w78 : World) =>
 ∃ (t79 : Bool),
 v77 = Value.bool t79 ∧
 Keeps w75 w78
 [w.heap.size, w1.heap.size,
 (w1.alloc
 (Obj.cells
 #[Value.map none, Value.map none,
 Value.slice none (0 : Nat) (0 : Nat)]
 (79 : Nat))).heap.size] ∧
 (Known w78
 [(w.heap.size,
 [((0 : Nat), Value.string a), ((1 : Nat), Value.string b),
 ((2 : Nat), Value.int IntKind.i64 n)]),
 (w1.heap.size,
 [((0 : Nat), Value.map q66), ((1 : Nat), Value.map q67),
 ((2 : Nat), Value.slice q68 n69 n70)]),
 ((w1.alloc
 (Obj.cells
 #[Value.map none, Value.map none,
 Value.slice none (0 : Nat) (0 : Nat)]
 (79 : Nat))).heap.size,
 [((0 : Nat), Value.slice q20 n21 n22),
 ((1 : Nat), Value.slice q23 n24 n25)])] →
 R (Ending.returned (Value.bool t79)) w78)
 else
 Known w75
 [(w.heap.size,
 [((0 : Nat), Value.string a), ((1 : Nat), Value.string b),
 ((2 : Nat), Value.int IntKind.i64 n)]),
 (w1.heap.size,
 [((0 : Nat), Value.map q66), ((1 : Nat), Value.map q67),
 ((2 : Nat), Value.slice q68 n69 n70)]),
 ((w1.alloc
 (Obj.cells
 #[Value.map none, Value.map none,
 Value.slice none (0 : Nat) (0 : Nat)]
 (79 : Nat))).heap.size,
 [((0 : Nat), Value.slice q20 n21 n22),
 ((1 : Nat), Value.slice q23 n24 n25)])] →
 R (Ending.returned (Value.bool false)) w75
 else
 Known w64
 [(w.heap.size,
 [((0 : Nat), Value.string a), ((1 : Nat), Value.string b),
 ((2 : Nat), Value.int IntKind.i64 n)]),
 (w1.heap.size,
 [((0 : Nat), Value.map q66), ((1 : Nat), Value.map q67),
 ((2 : Nat), Value.slice q68 n69 n70)]),
 ((w1.alloc
 (Obj.cells
 #[Value.map none, Value.map none, Value.slice none (0 : Nat) (0 : Nat)]
 (79 : Nat))).heap.size,
 [((0 : Nat), Value.slice q20 n21 n22), ((1 : Nat), Value.slice q23 n24 n25)])] →
 Rets Try.prog (40 : Nat)
 #[Value.pointer (some { block := w1.heap.size, off := (0 : Nat) }),
 Value.int IntKind.i64 n]
 w64 fun (v80 : Value) (w81 : World) =>
 v80 = Value.tuple #[] ∧
 Keeps w64 w81
 [w.heap.size,
 (w1.alloc
 (Obj.cells
 #[Value.map none, Value.map none, Value.slice none (0 : Nat) (0 : Nat)]
 (79 : Nat))).heap.size] ∧
 ∃ (q82 : Option Nat),
 w81.cell? { block := w1.heap.size, off := (0 : Nat) } = some (Value.map q82) ∧
 w81.frozen? { block := w1.heap.size, off := (0 : Nat) } = false ∧
 ∃ (q83 : Option Nat),
 w81.cell? { block := w1.heap.size, off := (1 : Nat) } =
 some (Value.map q83) ∧
 w81.frozen? { block := w1.heap.size, off := (1 : Nat) } = false ∧
 ∃ (q84 : Option Addr),
 ∃ (n85 : Nat),
 ∃ (n86 : Nat),
 w81.cell? { block := w1.heap.size, off := (2 : Nat) } =
 some (Value.slice q84 n85 n86) ∧
 w81.frozen? { block := w1.heap.size, off := (2 : Nat) } =
 false ∧
 (Known w81
 [(w.heap.size,
 [((0 : Nat), Value.string a),
 ((1 : Nat), Value.string b),
 ((2 : Nat), Value.int IntKind.i64 n)]),
 (w1.heap.size,
 [((0 : Nat), Value.map q82),
 ((1 : Nat), Value.map q83),
 ((2 : Nat), Value.slice q84 n85 n86)]),
 ((w1.alloc
 (Obj.cells
 #[Value.map none, Value.map none,
 Value.slice none (0 : Nat) (0 : Nat)]
 (79 : Nat))).heap.size,
 [((0 : Nat), Value.slice q20 n21 n22),
 ((1 : Nat), Value.slice q23 n24 n25)])] →
 Rets Try.prog (42 : Nat)
 #[Value.pointer
 (some { block := w1.heap.size, off := (0 : Nat) }),
 Value.string a]
 w81 fun (v87 : Value) (w88 : World) =>
 ∃ (i89 : Int),
 ∃ (t90 : Bool),
 v87 =
 Value.tuple
 #[Value.int IntKind.i64 i89, Value.bool t90] ∧
 Keeps w81 w88
 [w.heap.size,
 (w1.alloc
 (Obj.cells
 #[Value.map none, Value.map none,
 Value.slice none (0 : Nat)
 (0 : Nat)]
 (79 : Nat))).heap.size] ∧
 ∃ (q91 : Option Nat),
 w88.cell?
 {block := w1.heap.size, off := (0 : Nat) } =
 some (Value.map q91) ∧
 w88.frozen?
 {block := w1.heap.size, off := (0 : Nat) } =
 false ∧
 ∃ (q92 : Option Nat),
 w88.cell?
 {block := w1.heap.size, off := (1 : Nat) } =
 some (Value.map q92) ∧
 w88.frozen?
 {block := w1.heap.size, off := (1 : Nat) } =
 false ∧
 ∃ (q93 : Option Addr),
 ∃ (n94 : Nat),
 ∃ (n95 : Nat),
 w88.cell?
 {block := w1.heap.size, off := (2 : Nat) } =
 some
 (Value.slice q93 n94
 n95) ∧
 w88.frozen?
 {block := w1.heap.size, off := (2 : Nat) } =
 false ∧
 (Known w88
 [(w.heap.size,
 [((0 : Nat),
 Value.string a),
 ((1 : Nat),
 Value.string b),
 ((2 : Nat),
 Value.int
 IntKind.i64
 n)]),
 (w1.heap.size,
 [((0 : Nat),
 Value.map q91),
 ((1 : Nat),
 Value.map q92),
 ((2 : Nat),
 Value.slice q93
 n94 n95)]),
 ((w1.alloc
 (Obj.cells
 #[Value.map
 none,
 Value.map
 none,
 Value.slice
 none
 (0 :
 Nat)
 (0 :
 Nat)]
 (79 :
 Nat))).heap.size,
 [((0 : Nat),
 Value.slice q20
 n21 n22),
 ((1 : Nat),
 Value.slice q23
 n24 n25)])] →
 Rets Try.prog (42 : Nat)
 #[Value.pointer
 (some
 { block := w1.heap.size, off := (0 : Nat) }),
 Value.string b]
 w88
 fun (v96 : Value)
 (w97 : World) =>
 ∃ (i98 : Int),
 ∃ (t99 : Bool),
 v96 =
 Value.tuple
 #[Value.int
 IntKind.i64
 i98,
 Value.bool
 t99] ∧
 Keeps w88 w97
 [w.heap.size,
 (w1.alloc
 (Obj.cells
 #[Value.map
 none,
 Value.map
 none,
 Value.slice
 none
 (0 :
 Nat)
 (0 :
 Nat)]
 (79 :
 Nat))).heap.size] ∧
 ∃ (q100 :
 Option Nat),
 w97.cell?
 { block := w1.heap.size, off := (0 : Nat) } =
 some
 (Value.map
 q100) ∧
 w97.frozen?
 { block := w1.heap.size, off := (0 : Nat) } =
 false ∧
 ∃ (q101 :
 Option
 Nat),
 w97.cell?
 { block := w1.heap.size, off := (1 : Nat) } =
 some
 (Value.map
 q101) ∧
 w97.frozen?
 { block := w1.heap.size, off := (1 : Nat) } =
 false ∧
 ∃
 (q102
 :
 Option
 Addr),
 ∃
 (n103
 :
 Nat),
 ∃
 (n104
 :
 Nat),
 w97.cell?
 { block := w1.heap.size, off := (2 : Nat) } =
 some
 (Value.slice
 q102
 n103
 n104) ∧
 w97.frozen?
 { block := w1.heap.size, off := (2 : Nat) } =
 false ∧
 bif
 decide
 (n >
 (0 :
 Int)) then
 bif
 t57 then
 bif
 t99 then
 bif
 i98 ==
 i56 then
 bif
 !t90 then
 Known
 w97
 [(w.heap.size,
 [((0 :
 Nat),
 Value.string
 a),
 ((1 :
 Nat),
 Value.string
 b),
 ((2 :
 Nat),
 Value.int
 IntKind.i64
 n)]),
 (w1.heap.size,
 [((0 :
 Nat),
 Value.map
 q100),
 ((1 :
 Nat),
 Value.map
 q101),
 ((2 :
 Nat),
 Value.slice
 q102
 n103
 n104)]),
 ((w1.alloc
 (Obj.cells
 #[Value.map
 none,
 Value.map
 none,
 Value.slice
 none
 (0 :
 Nat)
 (0 :
 Nat)]
 (79 :
 Nat))).heap.size,
 [((0 :
 Nat),
 Value.slice
 q20
 n21
 n22),
 ((1 :
 Nat),
 Value.slice
 q23
 n24
 n25)])] →
 Rets
 Try.prog
 (36 :
 Nat)
 #[]
 w97
 fun
 (v105 :
 Value)
 (w106 :
 World) =>
 ∃
 (t107
 :
 Bool),
 v105 =
 Value.bool
 t107 ∧
 Keeps
 w97
 w106
 [w.heap.size,
 w1.heap.size,
 (w1.alloc
 (Obj.cells
 #[Value.map
 none,
 Value.map
 none,
 Value.slice
 none
 (0 :
 Nat)
 (0 :
 Nat)]
 (79 :
 Nat))).heap.size] ∧
 (Known
 w106
 [(w.heap.size,
 [((0 :
 Nat),
 Value.string
 a),
 ((1 :
 Nat),
 Value.string
 b),
 ((2 :
 Nat),
 Value.int
 IntKind.i64
 n)]),
 (w1.heap.size,
 [((0 :
 Nat),
 Value.map
 q100),
 ((1 :
 Nat),
 Value.map
 q101),
 ((2 :
 Nat),
 Value.slice
 q102
 n103
 n104)]),
 ((w1.alloc
 (Obj.cells
 #[Value.map
 none,
 Value.map
 none,
 Value.slice
 none
 (0 :
 Nat)
 (0 :
 Nat)]
 (79 :
 Nat))).heap.size,
 [((0 :
 Nat),
 Value.slice
 q20
 n21
 n22),
 ((1 :
 Nat),
 Value.slice
 q23
 n24
 n25)])] →
 R
 (Ending.returned
 (Value.bool
 t107))
 w106)
 else
 bif
 a.toList ==
 b.toList then
 Known
 w97
 [(w.heap.size,
 [((0 :
 Nat),
 Value.string
 a),
 ((1 :
 Nat),
 Value.string
 b),
 ((2 :
 Nat),
 Value.int
 IntKind.i64
 n)]),
 (w1.heap.size,
 [((0 :
 Nat),
 Value.map
 q100),
 ((1 :
 Nat),
 Value.map
 q101),
 ((2 :
 Nat),
 Value.slice
 q102
 n103
 n104)]),
 ((w1.alloc
 (Obj.cells
 #[Value.map
 none,
 Value.map
 none,
 Value.slice
 none
 (0 :
 Nat)
 (0 :
 Nat)]
 (79 :
 Nat))).heap.size,
 [((0 :
 Nat),
 Value.slice
 q20
 n21
 n22),
 ((1 :
 Nat),
 Value.slice
 q23
 n24
 n25)])] →
 Rets
 Try.prog
 (36 :
 Nat)
 #[]
 w97
 fun
 (v108 :
 Value)
 (w109 :
 World) =>
 ∃
 (t110
 :
 Bool),
 v108 =
 Value.bool
 t110 ∧
 Keeps
 w97
 w109
 [w.heap.size,
 w1.heap.size,
 (w1.alloc
 (Obj.cells
 #[Value.map
 none,
 Value.map
 none,
 Value.slice
 none
 (0 :
 Nat)
 (0 :
 Nat)]
 (79 :
 Nat))).heap.size] ∧
 (Known
 w109
 [(w.heap.size,
 [((0 :
 Nat),
 Value.string
 a),
 ((1 :
 Nat),
 Value.string
 b),
 ((2 :
 Nat),
 Value.int
 IntKind.i64
 n)]),
 (w1.heap.size,
 [((0 :
 Nat),
 Value.map
 q100),
 ((1 :
 Nat),
 Value.map
 q101),
 ((2 :
 Nat),
 Value.slice
 q102
 n103
 n104)]),
 ((w1.alloc
 (Obj.cells
 #[Value.map
 none,
 Value.map
 none,
 Value.slice
 none
 (0 :
 Nat)
 (0 :
 Nat)]
 (79 :
 Nat))).heap.size,
 [((0 :
 Nat),
 Value.slice
 q20
 n21
 n22),
 ((1 :
 Nat),
 Value.slice
 q23
 n24
 n25)])] →
 R
 (Ending.returned
 (Value.bool
 t110))
 w109)
 else
 Known
 w97
 [(w.heap.size,
 [((0 :
 Nat),
 Value.string
 a),
 ((1 :
 Nat),
 Value.string
 b),
 ((2 :
 Nat),
 Value.int
 IntKind.i64
 n)]),
 (w1.heap.size,
 [((0 :
 Nat),
 Value.map
 q100),
 ((1 :
 Nat),
 Value.map
 q101),
 ((2 :
 Nat),
 Value.slice
 q102
 n103
 n104)]),
 ((w1.alloc
 (Obj.cells
 #[Value.map
 none,
 Value.map
 none,
 Value.slice
 none
 (0 :
 Nat)
 (0 :
 Nat)]
 (79 :
 Nat))).heap.size,
 [((0 :
 Nat),
 Value.slice
 q20
 n21
 n22),
 ((1 :
 Nat),
 Value.slice
 q23
 n24
 n25)])] →
 R
 (Ending.returned
 (Value.bool
 false))
 w97
 else
 Known
 w97
 [(w.heap.size,
 [((0 :
 Nat),
 Value.string
 a),
 ((1 :
 Nat),
 Value.string
 b),
 ((2 :
 Nat),
 Value.int
 IntKind.i64
 n)]),
 (w1.heap.size,
 [((0 :
 Nat),
 Value.map
 q100),
 ((1 :
 Nat),
 Value.map
 q101),
 ((2 :
 Nat),
 Value.slice
 q102
 n103
 n104)]),
 ((w1.alloc
 (Obj.cells
 #[Value.map
 none,
 Value.map
 none,
 Value.slice
 none
 (0 :
 Nat)
 (0 :
 Nat)]
 (79 :
 Nat))).heap.size,
 [((0 :
 Nat),
 Value.slice
 q20
 n21
 n22),
 ((1 :
 Nat),
 Value.slice
 q23
 n24
 n25)])] →
 R
 (Ending.returned
 (Value.bool
 false))
 w97
 else
 Known
 w97
 [(w.heap.size,
 [((0 :
 Nat),
 Value.string
 a),
 ((1 :
 Nat),
 Value.string
 b),
 ((2 :
 Nat),
 Value.int
 IntKind.i64
 n)]),
 (w1.heap.size,
 [((0 :
 Nat),
 Value.map
 q100),
 ((1 :
 Nat),
 Value.map
 q101),
 ((2 :
 Nat),
 Value.slice
 q102
 n103
 n104)]),
 ((w1.alloc
 (Obj.cells
 #[Value.map
 none,
 Value.map
 none,
 Value.slice
 none
 (0 :
 Nat)
 (0 :
 Nat)]
 (79 :
 Nat))).heap.size,
 [((0 :
 Nat),
 Value.slice
 q20
 n21
 n22),
 ((1 :
 Nat),
 Value.slice
 q23
 n24
 n25)])] →
 R
 (Ending.returned
 (Value.bool
 false))
 w97
 else
 Known
 w97
 [(w.heap.size,
 [((0 :
 Nat),
 Value.string
 a),
 ((1 :
 Nat),
 Value.string
 b),
 ((2 :
 Nat),
 Value.int
 IntKind.i64
 n)]),
 (w1.heap.size,
 [((0 :
 Nat),
 Value.map
 q100),
 ((1 :
 Nat),
 Value.map
 q101),
 ((2 :
 Nat),
 Value.slice
 q102
 n103
 n104)]),
 ((w1.alloc
 (Obj.cells
 #[Value.map
 none,
 Value.map
 none,
 Value.slice
 none
 (0 :
 Nat)
 (0 :
 Nat)]
 (79 :
 Nat))).heap.size,
 [((0 :
 Nat),
 Value.slice
 q20
 n21
 n22),
 ((1 :
 Nat),
 Value.slice
 q23
 n24
 n25)])] →
 R
 (Ending.returned
 (Value.bool
 false))
 w97
 else
 bif
 t57 then
 bif
 t90 then
 bif
 i89 ==
 i56 then
 Known
 w97
 [(w.heap.size,
 [((0 :
 Nat),
 Value.string
 a),
 ((1 :
 Nat),
 Value.string
 b),
 ((2 :
 Nat),
 Value.int
 IntKind.i64
 n)]),
 (w1.heap.size,
 [((0 :
 Nat),
 Value.map
 q100),
 ((1 :
 Nat),
 Value.map
 q101),
 ((2 :
 Nat),
 Value.slice
 q102
 n103
 n104)]),
 ((w1.alloc
 (Obj.cells
 #[Value.map
 none,
 Value.map
 none,
 Value.slice
 none
 (0 :
 Nat)
 (0 :
 Nat)]
 (79 :
 Nat))).heap.size,
 [((0 :
 Nat),
 Value.slice
 q20
 n21
 n22),
 ((1 :
 Nat),
 Value.slice
 q23
 n24
 n25)])] →
 Rets
 Try.prog
 (36 :
 Nat)
 #[]
 w97
 fun
 (v111 :
 Value)
 (w112 :
 World) =>
 ∃
 (t113
 :
 Bool),
 v111 =
 Value.bool
 t113 ∧
 Keeps
 w97
 w112
 [w.heap.size,
 w1.heap.size,
 (w1.alloc
 (Obj.cells
 #[Value.map
 none,
 Value.map
 none,
 Value.slice
 none
 (0 :
 Nat)
 (0 :
 Nat)]
 (79 :
 Nat))).heap.size] ∧
 (Known
 w112
 [(w.heap.size,
 [((0 :
 Nat),
 Value.string
 a),
 ((1 :
 Nat),
 Value.string
 b),
 ((2 :
 Nat),
 Value.int
 IntKind.i64
 n)]),
 (w1.heap.size,
 [((0 :
 Nat),
 Value.map
 q100),
 ((1 :
 Nat),
 Value.map
 q101),
 ((2 :
 Nat),
 Value.slice
 q102
 n103
 n104)]),
 ((w1.alloc
 (Obj.cells
 #[Value.map
 none,
 Value.map
 none,
 Value.slice
 none
 (0 :
 Nat)
 (0 :
 Nat)]
 (79 :
 Nat))).heap.size,
 [((0 :
 Nat),
 Value.slice
 q20
 n21
 n22),
 ((1 :
 Nat),
 Value.slice
 q23
 n24
 n25)])] →
 R
 (Ending.returned
 (Value.bool
 t113))
 w112)
 else
 Known
 w97
 [(w.heap.size,
 [((0 :
 Nat),
 Value.string
 a),
 ((1 :
 Nat),
 Value.string
 b),
 ((2 :
 Nat),
 Value.int
 IntKind.i64
 n)]),
 (w1.heap.size,
 [((0 :
 Nat),
 Value.map
 q100),
 ((1 :
 Nat),
 Value.map
 q101),
 ((2 :
 Nat),
 Value.slice
 q102
 n103
 n104)]),
 ((w1.alloc
 (Obj.cells
 #[Value.map
 none,
 Value.map
 none,
 Value.slice
 none
 (0 :
 Nat)
 (0 :
 Nat)]
 (79 :
 Nat))).heap.size,
 [((0 :
 Nat),
 Value.slice
 q20
 n21
 n22),
 ((1 :
 Nat),
 Value.slice
 q23
 n24
 n25)])] →
 R
 (Ending.returned
 (Value.bool
 false))
 w97
 else
 Known
 w97
 [(w.heap.size,
 [((0 :
 Nat),
 Value.string
 a),
 ((1 :
 Nat),
 Value.string
 b),
 ((2 :
 Nat),
 Value.int
 IntKind.i64
 n)]),
 (w1.heap.size,
 [((0 :
 Nat),
 Value.map
 q100),
 ((1 :
 Nat),
 Value.map
 q101),
 ((2 :
 Nat),
 Value.slice
 q102
 n103
 n104)]),
 ((w1.alloc
 (Obj.cells
 #[Value.map
 none,
 Value.map
 none,
 Value.slice
 none
 (0 :
 Nat)
 (0 :
 Nat)]
 (79 :
 Nat))).heap.size,
 [((0 :
 Nat),
 Value.slice
 q20
 n21
 n22),
 ((1 :
 Nat),
 Value.slice
 q23
 n24
 n25)])] →
 R
 (Ending.returned
 (Value.bool
 false))
 w97
 else
 Known
 w97
 [(w.heap.size,
 [((0 :
 Nat),
 Value.string
 a),
 ((1 :
 Nat),
 Value.string
 b),
 ((2 :
 Nat),
 Value.int
 IntKind.i64
 n)]),
 (w1.heap.size,
 [((0 :
 Nat),
 Value.map
 q100),
 ((1 :
 Nat),
 Value.map
 q101),
 ((2 :
 Nat),
 Value.slice
 q102
 n103
 n104)]),
 ((w1.alloc
 (Obj.cells
 #[Value.map
 none,
 Value.map
 none,
 Value.slice
 none
 (0 :
 Nat)
 (0 :
 Nat)]
 (79 :
 Nat))).heap.size,
 [((0 :
 Nat),
 Value.slice
 q20
 n21
 n22),
 ((1 :
 Nat),
 Value.slice
 q23
 n24
 n25)])] →
 R
 (Ending.returned
 (Value.bool
 false))
 w97))))
theorem vcTry8 (q : Option Addr) (m c : Nat) (a b : ByteArray) (n : Int) (w : World) (R : Ending → World → Prop) : SX.vcFn Try.prog [(6, ⟨[(7, .int .i64)], [5, 6, 0, 3], [(1, 0, .map), (1, 1, .map), (1, 2, .slice), (2, 0, .slice), (2, 1, .slice)]⟩)] Try.f8 [.v (.slice q m c), .v (.agg #[.string a, .string b, .int .i64 n])] [] w R = VCTry8 q m c a b n w R := by kernel_rfl
end Go.Proofs.Ytlgkcbdpaffigaa
