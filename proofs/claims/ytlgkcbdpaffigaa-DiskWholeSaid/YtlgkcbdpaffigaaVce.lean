/- The conditions of functions, as the executor computes them: each is equal to what 'vcFn' says. -/
import Derived.Test.YtlgkcbdpaffigaaSxLib
import Derived.Test.YtlgkcbdpaffigaaProg
namespace Go.Proofs.Ytlgkcbdpaffigaa
open Go Go.SX Go.Proofs
set_option maxRecDepth 100000
set_option linter.unusedVariables false
def VCTry5 (qa : Option Addr) (na ca : Nat) (qb : Option Addr) (nb cb : Nat) (x : Int) (qk : Option Addr) (nk ck : Nat) (w : World) (R : Ending → World → Prop) : Prop :=
bif decide ((↑na : Int) > (5000 : Int)) then
 Known (w.alloc (Obj.cells #[Value.slice qa na ca, Value.slice qb nb cb, Value.int IntKind.i64 x, Value.slice qk nk ck] (49 : Nat))).drew
 [(w.heap.size, [((0 : Nat), Value.slice qa na ca), ((1 : Nat), Value.slice qb nb cb), ((2 : Nat), Value.int IntKind.i64 x), ((3 : Nat), Value.slice qk nk ck)])] →
 Rets Try.prog (13 : Nat) #[] (w.alloc (Obj.cells #[Value.slice qa na ca, Value.slice qb nb cb, Value.int IntKind.i64 x, Value.slice qk nk ck] (49 : Nat))).drew fun (v0 : Value) (w1 : World) =>
 ∃ (t2 : Bool),
 v0 = Value.bool t2 ∧
 Keeps (w.alloc (Obj.cells #[Value.slice qa na ca, Value.slice qb nb cb, Value.int IntKind.i64 x, Value.slice qk nk ck] (49 : Nat))).drew w1 [w.heap.size] ∧
 (Known w1 [(w.heap.size, [((0 : Nat), Value.slice qa na ca), ((1 : Nat), Value.slice qb nb cb), ((2 : Nat), Value.int IntKind.i64 x), ((3 : Nat), Value.slice qk nk ck)])] →
 R (Ending.returned (Value.bool t2)) w1)
else
 bif decide ((↑nb : Int) > (3000 : Int)) then
 Known (w.alloc (Obj.cells #[Value.slice qa na ca, Value.slice qb nb cb, Value.int IntKind.i64 x, Value.slice qk nk ck] (49 : Nat))).drew
 [(w.heap.size, [((0 : Nat), Value.slice qa na ca), ((1 : Nat), Value.slice qb nb cb), ((2 : Nat), Value.int IntKind.i64 x), ((3 : Nat), Value.slice qk nk ck)])] →
 Rets Try.prog (13 : Nat) #[] (w.alloc (Obj.cells #[Value.slice qa na ca, Value.slice qb nb cb, Value.int IntKind.i64 x, Value.slice qk nk ck] (49 : Nat))).drew fun (v3 : Value) (w4 : World) =>
 ∃ (t5 : Bool),
 v3 = Value.bool t5 ∧
 Keeps (w.alloc (Obj.cells #[Value.slice qa na ca, Value.slice qb nb cb, Value.int IntKind.i64 x, Value.slice qk nk ck] (49 : Nat))).drew w4 [w.heap.size] ∧
 (Known w4 [(w.heap.size, [((0 : Nat), Value.slice qa na ca), ((1 : Nat), Value.slice qb nb cb), ((2 : Nat), Value.int IntKind.i64 x), ((3 : Nat), Value.slice qk nk ck)])] →
 R (Ending.returned (Value.bool t5)) w4)
 else
 bif decide (x < (0 : Int)) then
 Known (w.alloc (Obj.cells #[Value.slice qa na ca, Value.slice qb nb cb, Value.int IntKind.i64 x, Value.slice qk nk ck] (49 : Nat))).drew
 [(w.heap.size, [((0 : Nat), Value.slice qa na ca), ((1 : Nat), Value.slice qb nb cb), ((2 : Nat), Value.int IntKind.i64 x), ((3 : Nat), Value.slice qk nk ck)])] →
 Rets Try.prog (13 : Nat) #[] (w.alloc (Obj.cells #[Value.slice qa na ca, Value.slice qb nb cb, Value.int IntKind.i64 x, Value.slice qk nk ck] (49 : Nat))).drew fun (v6 : Value) (w7 : World) =>
 ∃ (t8 : Bool),
 v6 = Value.bool t8 ∧
 Keeps (w.alloc (Obj.cells #[Value.slice qa na ca, Value.slice qb nb cb, Value.int IntKind.i64 x, Value.slice qk nk ck] (49 : Nat))).drew w7 [w.heap.size] ∧
 (Known w7 [(w.heap.size, [((0 : Nat), Value.slice qa na ca), ((1 : Nat), Value.slice qb nb cb), ((2 : Nat), Value.int IntKind.i64 x), ((3 : Nat), Value.slice qk nk ck)])] →
 R (Ending.returned (Value.bool t8)) w7)
 else
 bif decide (x > (3000 : Int)) then
 Known (w.alloc (Obj.cells #[Value.slice qa na ca, Value.slice qb nb cb, Value.int IntKind.i64 x, Value.slice qk nk ck] (49 : Nat))).drew
 [(w.heap.size, [((0 : Nat), Value.slice qa na ca), ((1 : Nat), Value.slice qb nb cb), ((2 : Nat), Value.int IntKind.i64 x), ((3 : Nat), Value.slice qk nk ck)])] →
 Rets Try.prog (13 : Nat) #[] (w.alloc (Obj.cells #[Value.slice qa na ca, Value.slice qb nb cb, Value.int IntKind.i64 x, Value.slice qk nk ck] (49 : Nat))).drew fun (v9 : Value) (w10 : World) =>
 ∃ (t11 : Bool),
 v9 = Value.bool t11 ∧
 Keeps (w.alloc (Obj.cells #[Value.slice qa na ca, Value.slice qb nb cb, Value.int IntKind.i64 x, Value.slice qk nk ck] (49 : Nat))).drew w10 [w.heap.size] ∧
 (Known w10 [(w.heap.size, [((0 : Nat), Value.slice qa na ca), ((1 : Nat), Value.slice qb nb cb), ((2 : Nat), Value.int IntKind.i64 x), ((3 : Nat), Value.slice qk nk ck)])] →
 R (Ending.returned (Value.bool t11)) w10)
 else
 bif decide ((↑nk : Int) > (100 : Int)) then
 Known (w.alloc (Obj.cells #[Value.slice qa na ca, Value.slice qb nb cb, Value.int IntKind.i64 x, Value.slice qk nk ck] (49 : Nat))).drew
 [(w.heap.size, [((0 : Nat), Value.slice qa na ca), ((1 : Nat), Value.slice qb nb cb), ((2 : Nat), Value.int IntKind.i64 x), ((3 : Nat), Value.slice qk nk ck)])] →
 Rets Try.prog (13 : Nat) #[] (w.alloc (Obj.cells #[Value.slice qa na ca, Value.slice qb nb cb, Value.int IntKind.i64 x, Value.slice qk nk ck] (49 : Nat))).drew fun (v12 : Value) (w13 : World) =>
 ∃ (t14 : Bool),
 v12 = Value.bool t14 ∧
 Keeps (w.alloc (Obj.cells #[Value.slice qa na ca, Value.slice qb nb cb, Value.int IntKind.i64 x, Value.slice qk nk ck] (49 : Nat))).drew w13 [w.heap.size] ∧
 (Known w13 [(w.heap.size, [((0 : Nat), Value.slice qa na ca), ((1 : Nat), Value.slice qb nb cb), ((2 : Nat), Value.int IntKind.i64 x), ((3 : Nat), Value.slice qk nk ck)])] →
 R (Ending.returned (Value.bool t14)) w13)
 else
 Runs Try.prog (Instr.buildSlice (25 : Nat) (0 : Nat) #[])
 ((w.alloc (Obj.cells #[Value.slice qa na ca, Value.slice qb nb cb, Value.int IntKind.i64 x, Value.slice qk nk ck] (49 : Nat))).drew.alloc
 (Obj.cells #[Value.slice none (0 : Nat) (0 : Nat), Value.slice none (0 : Nat) (0 : Nat), Value.slice none (0 : Nat) (0 : Nat)] (29 : Nat)))
 fun (v15 : Value) (w16 : World) =>
 ∃ (q17 : Option Addr),
 ∃ (n18 : Nat),
 ∃ (n19 : Nat),
 v15 = Value.slice q17 n18 n19 ∧
 Keeps
 ((w.alloc (Obj.cells #[Value.slice qa na ca, Value.slice qb nb cb, Value.int IntKind.i64 x, Value.slice qk nk ck] (49 : Nat))).drew.alloc
 (Obj.cells #[Value.slice none (0 : Nat) (0 : Nat), Value.slice none (0 : Nat) (0 : Nat), Value.slice none (0 : Nat) (0 : Nat)] (29 : Nat)))
 w16 [w.heap.size, (w.alloc (Obj.cells #[Value.slice qa na ca, Value.slice qb nb cb, Value.int IntKind.i64 x, Value.slice qk nk ck] (49 : Nat))).drew.heap.size] ∧
 Runs Try.prog (Builtin.append_ #[(25 : Nat), (25 : Nat)] (25 : Nat) #[Value.slice q17 n18 n19, Value.slice qa na ca]) w16 fun (v20 : Value) (w21 : World) =>
 ∃ (q22 : Option Addr),
 ∃ (n23 : Nat),
 ∃ (n24 : Nat),
 v20 = Value.slice q22 n23 n24 ∧
 Keeps w16 w21 [w.heap.size, (w.alloc (Obj.cells #[Value.slice qa na ca, Value.slice qb nb cb, Value.int IntKind.i64 x, Value.slice qk nk ck] (49 : Nat))).drew.heap.size] ∧
 Wr IntKind.i64 ((8192 : Int) - (↑na : Int)) fun (i25 : Int) =>
 Runs Try.prog (Builtin.append_ #[(25 : Nat), (3 : Nat)] (25 : Nat) #[Value.slice q22 n23 n24, Value.int IntKind.i64 i25]) w21 fun (v26 : Value) (w27 : World) =>
 ∃ (q28 : Option Addr),
 ∃ (n29 : Nat),
 ∃ (n30 : Nat),
 v26 = Value.slice q28 n29 n30 ∧
 Keeps w21 w27 [w.heap.size, (w.alloc (Obj.cells #[Value.slice qa na ca, Value.slice qb nb cb, Value.int IntKind.i64 x, Value.slice qk nk ck] (49 : Nat))).drew.heap.size] ∧
 (Known w27
 [(w.heap.size, [((0 : Nat), Value.slice qa na ca), ((1 : Nat), Value.slice qb nb cb), ((2 : Nat), Value.int IntKind.i64 x), ((3 : Nat), Value.slice qk nk ck)]),
 ((w.alloc (Obj.cells #[Value.slice qa na ca, Value.slice qb nb cb, Value.int IntKind.i64 x, Value.slice qk nk ck] (49 : Nat))).drew.heap.size,
 [((0 : Nat), Value.slice none (0 : Nat) (0 : Nat)), ((1 : Nat), Value.slice none (0 : Nat) (0 : Nat)), ((2 : Nat), Value.slice none (0 : Nat) (0 : Nat))])] →
 Rets Try.prog (20 : Nat)
 #[Value.pointer
 (some
 {block := (w.alloc (Obj.cells #[Value.slice qa na ca, Value.slice qb nb cb, Value.int IntKind.i64 x, Value.slice qk nk ck] (49 : Nat))).drew.heap.size, off := (0 : Nat) }),
 Value.int IntKind.i64 (0 : Int), Value.slice q28 n29 n30]
 w27 fun (v31 : Value) (w32 : World) =>
 ∃ (i33 : Int),
 v31 = Value.int IntKind.i64 i33 ∧
 Keeps w27 w32 [w.heap.size] ∧
 ∃ (q34 : Option Addr),
 ∃ (n35 : Nat),
 ∃ (n36 : Nat),
 w32.cell?
 { block := (w.alloc (Obj.cells #[Value.slice qa na ca, Value.slice qb nb cb, Value.int IntKind.i64 x, Value.slice qk nk ck] (49 : Nat))).drew.heap.size, off := (0 : Nat) } =
 some (Value.slice q34 n35 n36) ∧
 w32.frozen?
 { block := (w.alloc (Obj.cells #[Value.slice qa na ca, Value.slice qb nb cb, Value.int IntKind.i64 x, Value.slice qk nk ck] (49 : Nat))).drew.heap.size, off := (0 : Nat) } =
 false ∧
 ∃ (q37 : Option Addr),
 ∃ (n38 : Nat),
 ∃ (n39 : Nat),
 w32.cell?
 { block := (w.alloc (Obj.cells #[Value.slice qa na ca, Value.slice qb nb cb, Value.int IntKind.i64 x, Value.slice qk nk ck] (49 : Nat))).drew.heap.size, off := (1 : Nat) } =
 some (Value.slice q37 n38 n39) ∧
 w32.frozen?
 { block := (w.alloc (Obj.cells #[Value.slice qa na ca, Value.slice qb nb cb, Value.int IntKind.i64 x, Value.slice qk nk ck] (49 : Nat))).drew.heap.size, off := (1 : Nat) } =
 false ∧
 ∃ (q40 : Option Addr),
 ∃ (n41 : Nat),
 ∃ (n42 : Nat),
 w32.cell?
 { block := (w.alloc (Obj.cells #[Value.slice qa na ca, Value.slice qb nb cb, Value.int IntKind.i64 x, Value.slice qk nk ck] (49 : Nat))).drew.heap.size, off := (2 : Nat) } =
 some (Value.slice q40 n41 n42) ∧
 w32.frozen?
 { block := (w.alloc (Obj.cells #[Value.slice qa na ca, Value.slice qb nb cb, Value.int IntKind.i64 x, Value.slice qk nk ck] (49 : Nat))).drew.heap.size, off := (2 : Nat) } =
 false ∧
 (Known w32
 [(w.heap.size,
 [((0 : Nat), Value.slice qa na ca), ((1 : Nat), Value.slice qb nb cb), ((2 : Nat), Value.int IntKind.i64 x),
 ((3 : Nat), Value.slice qk nk ck)]),
 ((w.alloc
 (Obj.cells #[Value.slice qa na ca, Value.slice qb nb cb, Value.int IntKind.i64 x, Value.slice qk nk ck]
 (49 : Nat))).drew.heap.size,
 [((0 : Nat), Value.slice q34 n35 n36), ((1 : Nat), Value.slice q37 n38 n39), ((2 : Nat), Value.slice q40 n41 n42)])] →
 Rets Try.prog (16 : Nat)
 #[Value.pointer
 (some
 { block := (w.alloc (Obj.cells #[Value.slice qa na ca, Value.slice qb nb cb, Value.int IntKind.i64 x, Value.slice qk nk ck] (49 : Nat))).drew.heap.size, off := (0 : Nat) })]
 w32 fun (v43 : Value) (w44 : World) =>
 v43 = Value.tuple #[] ∧
 Keeps w32 w44 [w.heap.size] ∧
 ∃ (q45 : Option Addr),
 ∃ (n46 : Nat),
 ∃ (n47 : Nat),
 w44.cell?
 { block := (w.alloc (Obj.cells #[Value.slice qa na ca, Value.slice qb nb cb, Value.int IntKind.i64 x, Value.slice qk nk ck] (49 : Nat))).drew.heap.size, off := (0 : Nat) } =
 some (Value.slice q45 n46 n47) ∧
 w44.frozen?
 { block := (w.alloc (Obj.cells #[Value.slice qa na ca, Value.slice qb nb cb, Value.int IntKind.i64 x, Value.slice qk nk ck] (49 : Nat))).drew.heap.size, off := (0 : Nat) } =
 false ∧
 ∃ (q48 : Option Addr),
 ∃ (n49 : Nat),
 ∃ (n50 : Nat),
 w44.cell?
 { block := (w.alloc (Obj.cells #[Value.slice qa na ca, Value.slice qb nb cb, Value.int IntKind.i64 x, Value.slice qk nk ck] (49 : Nat))).drew.heap.size, off := (1 : Nat) } =
 some (Value.slice q48 n49 n50) ∧
 w44.frozen?
 { block := (w.alloc (Obj.cells #[Value.slice qa na ca, Value.slice qb nb cb, Value.int IntKind.i64 x, Value.slice qk nk ck] (49 : Nat))).drew.heap.size, off := (1 : Nat) } =
 false ∧
 ∃ (q51 : Option Addr),
 ∃ (n52 : Nat),
 ∃ (n53 : Nat),
 w44.cell?
 { block := (w.alloc (Obj.cells #[Value.slice qa na ca, Value.slice qb nb cb, Value.int IntKind.i64 x, Value.slice qk nk ck] (49 : Nat))).drew.heap.size, off := (2 : Nat) } =
 some (Value.slice q51 n52 n53) ∧
 w44.frozen?
 { block := (w.alloc (Obj.cells #[Value.slice qa na ca, Value.slice qb nb cb, Value.int IntKind.i64 x, Value.slice qk nk ck] (49 : Nat))).drew.heap.size, off := (2 : Nat) } =
 false ∧
 (Known w44
 [(w.heap.size,
 [((0 : Nat), Value.slice qa na ca), ((1 : Nat), Value.slice qb nb cb),
 ((2 : Nat), Value.int IntKind.i64 x), ((3 : Nat), Value.slice qk nk ck)]),
 ((w.alloc
 (Obj.cells
 #[Value.slice qa na ca, Value.slice qb nb cb, Value.int IntKind.i64 x,
 Value.slice qk nk ck]
 (49 : Nat))).drew.heap.size,
 [((0 : Nat), Value.slice q45 n46 n47), ((1 : Nat), Value.slice q48 n49 n50),
 ((2 : Nat), Value.slice q51 n52 n53)])] →
 Rets Try.prog (17 : Nat)
 #[Value.pointer
 (some
 { block := (w.alloc (Obj.cells #[Value.slice qa na ca, Value.slice qb nb cb, Value.int IntKind.i64 x, Value.slice qk nk ck] (49 : Nat))).drew.heap.size, off := (0 : Nat) }),
 Value.int IntKind.i64 (0 : Int), Value.int IntKind.i64 (8192 : Int)]
 w44 fun (v54 : Value) (w55 : World) =>
 ∃ (q56 : Option Addr),
 ∃ (n57 : Nat),
 ∃ (n58 : Nat),
 ∃ (i59 : Int),
 v54 = Value.tuple #[Value.slice q56 n57 n58, Value.int IntKind.i64 i59] ∧
 Keeps w44 w55 [w.heap.size] ∧
 ∃ (q60 : Option Addr),
 ∃ (n61 : Nat),
 ∃ (n62 : Nat),
 w55.cell?
 { block := (w.alloc (Obj.cells #[Value.slice qa na ca, Value.slice qb nb cb, Value.int IntKind.i64 x, Value.slice qk nk ck] (49 : Nat))).drew.heap.size, off := (0 : Nat) } =
 some (Value.slice q60 n61 n62) ∧
 w55.frozen?
 { block := (w.alloc (Obj.cells #[Value.slice qa na ca, Value.slice qb nb cb, Value.int IntKind.i64 x, Value.slice qk nk ck] (49 : Nat))).drew.heap.size, off := (0 : Nat) } =
 false ∧
 ∃ (q63 : Option Addr),
 ∃ (n64 : Nat),
 ∃ (n65 : Nat),
 w55.cell?
 { block := (w.alloc (Obj.cells #[Value.slice qa na ca, Value.slice qb nb cb, Value.int IntKind.i64 x, Value.slice qk nk ck] (49 : Nat))).drew.heap.size, off := (1 : Nat) } =
 some (Value.slice q63 n64 n65) ∧
 w55.frozen?
 { block := (w.alloc (Obj.cells #[Value.slice qa na ca, Value.slice qb nb cb, Value.int IntKind.i64 x, Value.slice qk nk ck] (49 : Nat))).drew.heap.size, off := (1 : Nat) } =
 false ∧
 ∃ (q66 : Option Addr),
 ∃ (n67 : Nat),
 ∃ (n68 : Nat),
 w55.cell?
 { block := (w.alloc (Obj.cells #[Value.slice qa na ca, Value.slice qb nb cb, Value.int IntKind.i64 x, Value.slice qk nk ck] (49 : Nat))).drew.heap.size, off := (2 : Nat) } =
 some (Value.slice q66 n67 n68) ∧
 w55.frozen?
 { block := (w.alloc (Obj.cells #[Value.slice qa na ca, Value.slice qb nb cb, Value.int IntKind.i64 x, Value.slice qk nk ck] (49 : Nat))).drew.heap.size, off := (2 : Nat) } =
 false ∧
 (Known w55
 [(w.heap.size,
 [((0 : Nat), Value.slice qa na ca),
 ((1 : Nat), Value.slice qb nb cb),
 ((2 : Nat), Value.int IntKind.i64 x),
 ((3 : Nat), Value.slice qk nk ck)]),
 ((w.alloc
 (Obj.cells
 #[Value.slice qa na ca,
 Value.slice qb nb cb,
 Value.int IntKind.i64 x,
 Value.slice qk nk ck]
 (49 : Nat))).drew.heap.size,
 [((0 : Nat), Value.slice q60 n61 n62),
 ((1 : Nat), Value.slice q63 n64 n65),
 ((2 : Nat),
 Value.slice q66 n67 n68)])] →
 Rets Try.prog (20 : Nat)
 #[Value.pointer
 (some
 { block := (w.alloc (Obj.cells #[Value.slice qa na ca, Value.slice qb nb cb, Value.int IntKind.i64 x, Value.slice qk nk ck] (49 : Nat))).drew.heap.size, off := (0 : Nat) }),
 Value.int IntKind.i64 x,
 Value.slice qb nb cb]
 w55 fun (v69 : Value) (w70 : World) =>
 ∃ (i71 : Int),
 v69 = Value.int IntKind.i64 i71 ∧
 Keeps w55 w70 [w.heap.size] ∧
 ∃ (q72 : Option Addr),
 ∃ (n73 : Nat),
 ∃ (n74 : Nat),
 w70.cell?
 { block := (w.alloc (Obj.cells #[Value.slice qa na ca, Value.slice qb nb cb, Value.int IntKind.i64 x, Value.slice qk nk ck] (49 : Nat))).drew.heap.size, off := (0 : Nat) } =
 some
 (Value.slice q72 n73
 n74) ∧
 w70.frozen?
 { block := (w.alloc (Obj.cells #[Value.slice qa na ca, Value.slice qb nb cb, Value.int IntKind.i64 x, Value.slice qk nk ck] (49 : Nat))).drew.heap.size, off := (0 : Nat) } =
 false ∧
 ∃ (q75 : Option Addr),
 ∃ (n76 : Nat),
 ∃ (n77 : Nat),
 w70.cell?
 { block := (w.alloc (Obj.cells #[Value.slice qa na ca, Value.slice qb nb cb, Value.int IntKind.i64 x, Value.slice qk nk ck] (49 : Nat))).drew.heap.size, off := (1 : Nat) } =
 some
 (Value.slice q75
 n76 n77) ∧
 w70.frozen?
 { block := (w.alloc (Obj.cells #[Value.slice qa na ca, Value.slice qb nb cb, Value.int IntKind.i64 x, Value.slice qk nk ck] (49 : Nat))).drew.heap.size, off := (1 : Nat) } =
 false ∧
 ∃ (q78 :
 Option Addr),
 ∃ (n79 : Nat),
 ∃ (n80 : Nat),
 w70.cell?
 { block := (w.alloc (Obj.cells #[Value.slice qa na ca, Value.slice qb nb cb, Value.int IntKind.i64 x, Value.slice qk nk ck] (49 : Nat))).drew.heap.size, off := (2 : Nat) } =
 some
 (Value.slice
 q78
 n79
 n80) ∧
 w70.frozen?
 { block := (w.alloc (Obj.cells #[Value.slice qa na ca, Value.slice qb nb cb, Value.int IntKind.i64 x, Value.slice qk nk ck] (49 : Nat))).drew.heap.size, off := (2 : Nat) } =
 false ∧
 (Known
 w70
 [(w.heap.size,
 [((0 :
 Nat),
 Value.slice
 qa
 na
 ca),
 ((1 :
 Nat),
 Value.slice
 qb
 nb
 cb),
 ((2 :
 Nat),
 Value.int
 IntKind.i64
 x),
 ((3 :
 Nat),
 Value.slice
 qk
 nk
 ck)]),
 ((w.alloc
 (Obj.cells
 #[Value.slice
 qa
 na
 ca,
 Value.slice
 qb
 nb
 cb,
 Value.int
 IntKind.i64
 x,
 Value.slice
 qk
 nk
 ck]
 (49 :
 Nat))).drew.heap.size,
 [((0 :
 Nat),
 Value.slice
 q72
 n73
 n74),
 ((1 :
 Nat),
 Value.slice
 q75
 n76
 n77),
 ((2 :
 Nat),
 Value.slice
 q78
 n79
 n80)])] →
 Rets
 Try.prog
 (17 :
 Nat)
 #[Value.pointer
 (some
 { block := (w.alloc (Obj.cells #[Value.slice qa na ca, Value.slice qb nb cb, Value.int IntKind.i64 x, Value.slice qk nk ck] (49 : Nat))).drew.heap.size, off := (0 : Nat) }),
 Value.int
 IntKind.i64
 (0 :
 Int),
 Value.int
 IntKind.i64
 (8192 :
 Int)]
 w70
 fun
 (v81 :
 Value)
 (w82 :
 World) =>
 ∃
 (q83
 :
 Option
 Addr),
 ∃
 (n84
 :
 Nat),
 ∃
 (n85
 :
 Nat),
 ∃
 (i86
 :
 Int),
 v81 =
 Value.tuple
 #[Value.slice
 q83
 n84
 n85,
 Value.int
 IntKind.i64
 i86] ∧
 Keeps
 w70
 w82
 [w.heap.size] ∧
 ∃
 (q87
 :
 Option
 Addr),
 ∃
 (n88
 :
 Nat),
 ∃
 (n89
 :
 Nat),
 w82.cell?
 { block := (w.alloc (Obj.cells #[Value.slice qa na ca, Value.slice qb nb cb, Value.int IntKind.i64 x, Value.slice qk nk ck] (49 : Nat))).drew.heap.size, off := (0 : Nat) } =
 some
 (Value.slice
 q87
 n88
 n89) ∧
 w82.frozen?
 { block := (w.alloc (Obj.cells #[Value.slice qa na ca, Value.slice qb nb cb, Value.int IntKind.i64 x, Value.slice qk nk ck] (49 : Nat))).drew.heap.size, off := (0 : Nat) } =
 false ∧
 ∃
 (q90
 :
 Option
 Addr),
 ∃
 (n91
 :
 Nat),
 ∃
 (n92
 :
 Nat),
 w82.cell?
 { block := (w.alloc (Obj.cells #[Value.slice qa na ca, Value.slice qb nb cb, Value.int IntKind.i64 x, Value.slice qk nk ck] (49 : Nat))).drew.heap.size, off := (1 : Nat) } =
 some
 (Value.slice
 q90
 n91
 n92) ∧
 w82.frozen?
 { block := (w.alloc (Obj.cells #[Value.slice qa na ca, Value.slice qb nb cb, Value.int IntKind.i64 x, Value.slice qk nk ck] (49 : Nat))).drew.heap.size, off := (1 : Nat) } =
 false ∧
 ∃
 (q93
 :
 Option
 Addr),
 ∃
 (n94
 :
 Nat),
 ∃
 (n95
 :
 Nat),
 w82.cell?
 { block := (w.alloc (Obj.cells #[Value.slice qa na ca, Value.slice qb nb cb, Value.int IntKind.i64 x, Value.slice qk nk ck] (49 : Nat))).drew.heap.size, off := (2 : Nat) } =
 some
 (Value.slice
 q93
 n94
 n95) ∧
 w82.frozen?
 { block := (w.alloc (Obj.cells #[Value.slice qa na ca, Value.slice qb nb cb, Value.int IntKind.i64 x, Value.slice qk nk ck] (49 : Nat))).drew.heap.size, off := (2 : Nat) } =
 false ∧
 (Known
 w82
 [(w.heap.size,
 [((0 :
 Nat),
 Value.slice
 qa
 na
 ca),
 ((1 :
 Nat),
 Value.slice
 qb
 nb
 cb),
 ((2 :
 Nat),
 Value.int
 IntKind.i64
 x),
 ((3 :
 Nat),
 Value.slice
 qk
 nk
 ck)]),
 ((w.alloc
 (Obj.cells
 #[Value.slice
 qa
 na
 ca,
 Value.slice
 qb
 nb
 cb,
 Value.int
 IntKind.i64
 x,
 Value.slice
 qk
 nk
 ck]
 (49 :
 Nat))).drew.heap.size,
 [((0 :
 Nat),
 Value.slice
 q87
 n88
 n89),
 ((1 :
 Nat),
 Value.slice
 q90
 n91
 n92),
 ((2 :
 Nat),
 Value.slice
 q93
 n94
 n95)])] →
 Rets
 Try.prog
 (19 :
 Nat)
 #[Value.pointer
 (some
 { block := (w.alloc (Obj.cells #[Value.slice qa na ca, Value.slice qb nb cb, Value.int IntKind.i64 x, Value.slice qk nk ck] (49 : Nat))).drew.heap.size, off := (0 : Nat) }),
 Value.slice
 qk
 nk
 ck,
 Value.int
 IntKind.u8
 (9 :
 Int)]
 w82
 fun
 (v96 :
 Value)
 (w97 :
 World) =>
 v96 =
 Value.tuple
 #[] ∧
 Keeps
 w82
 w97
 [w.heap.size] ∧
 ∃
 (q98
 :
 Option
 Addr),
 ∃
 (n99
 :
 Nat),
 ∃
 (n100
 :
 Nat),
 w97.cell?
 { block := (w.alloc (Obj.cells #[Value.slice qa na ca, Value.slice qb nb cb, Value.int IntKind.i64 x, Value.slice qk nk ck] (49 : Nat))).drew.heap.size, off := (0 : Nat) } =
 some
 (Value.slice
 q98
 n99
 n100) ∧
 w97.frozen?
 { block := (w.alloc (Obj.cells #[Value.slice qa na ca, Value.slice qb nb cb, Value.int IntKind.i64 x, Value.slice qk nk ck] (49 : Nat))).drew.heap.size, off := (0 : Nat) } =
 false ∧
 ∃
 (q101
 :
 Option
 Addr),
 ∃
 (n102
 :
 Nat),
 ∃
 (n103
 :
 Nat),
 w97.cell?
 { block := (w.alloc (Obj.cells #[Value.slice qa na ca, Value.slice qb nb cb, Value.int IntKind.i64 x, Value.slice qk nk ck] (49 : Nat))).drew.heap.size, off := (1 : Nat) } =
 some
 (Value.slice
 q101
 n102
 n103) ∧
 w97.frozen?
 { block := (w.alloc (Obj.cells #[Value.slice qa na ca, Value.slice qb nb cb, Value.int IntKind.i64 x, Value.slice qk nk ck] (49 : Nat))).drew.heap.size, off := (1 : Nat) } =
 false ∧
 ∃
 (q104
 :
 Option
 Addr),
 ∃
 (n105
 :
 Nat),
 ∃
 (n106
 :
 Nat),
 w97.cell?
 { block := (w.alloc (Obj.cells #[Value.slice qa na ca, Value.slice qb nb cb, Value.int IntKind.i64 x, Value.slice qk nk ck] (49 : Nat))).drew.heap.size, off := (2 : Nat) } =
 some
 (Value.slice
 q104
 n105
 n106) ∧
 w97.frozen?
 { block := (w.alloc (Obj.cells #[Value.slice qa na ca, Value.slice qb nb cb, Value.int IntKind.i64 x, Value.slice qk nk ck] (49 : Nat))).drew.heap.size, off := (2 : Nat) } =
 false ∧
 (Known
 w97
 [(w.heap.size,
 [((0 :
 Nat),
 Value.slice
 qa
 na
 ca),
 ((1 :
 Nat),
 Value.slice
 qb
 nb
 cb),
 ((2 :
 Nat),
 Value.int
 IntKind.i64
 x),
 ((3 :
 Nat),
 Value.slice
 qk
 nk
 ck)]),
 ((w.alloc
 (Obj.cells
 #[Value.slice
 qa
 na
 ca,
 Value.slice
 qb
 nb
 cb,
 Value.int
 IntKind.i64
 x,
 Value.slice
 qk
 nk
 ck]
 (49 :
 Nat))).drew.heap.size,
 [((0 :
 Nat),
 Value.slice
 q98
 n99
 n100),
 ((1 :
 Nat),
 Value.slice
 q101
 n102
 n103),
 ((2 :
 Nat),
 Value.slice
 q104
 n105
 n106)])] →
 Rets
 Try.prog
 (17 :
 Nat)
 #[Value.pointer
 (some
 { block := (w.alloc (Obj.cells #[Value.slice qa na ca, Value.slice qb nb cb, Value.int IntKind.i64 x, Value.slice qk nk ck] (49 : Nat))).drew.heap.size, off := (0 : Nat) }),
 Value.int
 IntKind.i64
 (0 :
 Int),
 Value.int
 IntKind.i64
 (8192 :
 Int)]
 w97
 fun
 (v107 :
 Value)
 (w108 :
 World) =>
 ∃
 (q109
 :
 Option
 Addr),
 ∃
 (n110
 :
 Nat),
 ∃
 (n111
 :
 Nat),
 ∃
 (i112
 :
 Int),
 v107 =
 Value.tuple
 #[Value.slice
 q109
 n110
 n111,
 Value.int
 IntKind.i64
 i112] ∧
 Keeps
 w97
 w108
 [w.heap.size] ∧
 ∃
 (q113
 :
 Option
 Addr),
 ∃
 (n114
 :
 Nat),
 ∃
 (n115
 :
 Nat),
 w108.cell?
 { block := (w.alloc (Obj.cells #[Value.slice qa na ca, Value.slice qb nb cb, Value.int IntKind.i64 x, Value.slice qk nk ck] (49 : Nat))).drew.heap.size, off := (0 : Nat) } =
 some
 (Value.slice
 q113
 n114
 n115) ∧
 w108.frozen?
 { block := (w.alloc (Obj.cells #[Value.slice qa na ca, Value.slice qb nb cb, Value.int IntKind.i64 x, Value.slice qk nk ck] (49 : Nat))).drew.heap.size, off := (0 : Nat) } =
 false ∧
 ∃
 (q116
 :
 Option
 Addr),
 ∃
 (n117
 :
 Nat),
 ∃
 (n118
 :
 Nat),
 w108.cell?
 { block := (w.alloc (Obj.cells #[Value.slice qa na ca, Value.slice qb nb cb, Value.int IntKind.i64 x, Value.slice qk nk ck] (49 : Nat))).drew.heap.size, off := (1 : Nat) } =
 some
 (Value.slice
 q116
 n117
 n118) ∧
 w108.frozen?
 { block := (w.alloc (Obj.cells #[Value.slice qa na ca, Value.slice qb nb cb, Value.int IntKind.i64 x, Value.slice qk nk ck] (49 : Nat))).drew.heap.size, off := (1 : Nat) } =
 false ∧
 ∃
 (q119
 :
 Option
 Addr),
 ∃
 (n120
 :
 Nat),
 ∃
 (n121
 :
 Nat),
 w108.cell?
 { block := (w.alloc (Obj.cells #[Value.slice qa na ca, Value.slice qb nb cb, Value.int IntKind.i64 x, Value.slice qk nk ck] (49 : Nat))).drew.heap.size, off := (2 : Nat) } =
 some
 (Value.slice
 q119
 n120
 n121) ∧
 w108.frozen?
 { block := (w.alloc (Obj.cells #[Value.slice qa na ca, Value.slice qb nb cb, Value.int IntKind.i64 x, Value.slice qk nk ck] (49 : Nat))).drew.heap.size, off := (2 : Nat) } =
 false ∧
 bif
 (↑n57 :
 Int) !=
 (8192 :
 Int) then
 Known
 w108
 [(w.heap.size,
 [((0 :
 Nat),
 Value.slice
 qa
 na
 ca),
 ((1 :
 Nat),
 Value.slice
 qb
 nb
 cb),
 ((2 :
 Nat),
 Value.int
 IntKind.i64
 x),
 ((3 :
 Nat),
 Value.slice
 qk
 nk
 ck)]),
 ((w.alloc
 (Obj.cells
 #[Value.slice
 qa
 na
 ca,
 Value.slice
 qb
 nb
 cb,
 Value.int
 IntKind.i64
 x,
 Value.slice
 qk
 nk
 ck]
 (49 :
 Nat))).drew.heap.size,
 [((0 :
 Nat),
 Value.slice
 q113
 n114
 n115),
 ((1 :
 Nat),
 Value.slice
 q116
 n117
 n118),
 ((2 :
 Nat),
 Value.slice
 q119
 n120
 n121)])] →
 R
 (Ending.returned
 (Value.bool
 false))
 w108
 else
 bif
 (↑n84 :
 Int) !=
 (8192 :
 Int) then
 Known
 w108
 [(w.heap.size,
 [((0 :
 Nat),
 Value.slice
 qa
 na
 ca),
 ((1 :
 Nat),
 Value.slice
 qb
 nb
 cb),
 ((2 :
 Nat),
 Value.int
 IntKind.i64
 x),
 ((3 :
 Nat),
 Value.slice
 qk
 nk
 ck)]),
 ((w.alloc
 (Obj.cells
 #[Value.slice
 qa
 na
 ca,
 Value.slice
 qb
 nb
 cb,
 Value.int
 IntKind.i64
 x,
 Value.slice
 qk
 nk
 ck]
 (49 :
 Nat))).drew.heap.size,
 [((0 :
 Nat),
 Value.slice
 q113
 n114
 n115),
 ((1 :
 Nat),
 Value.slice
 q116
 n117
 n118),
 ((2 :
 Nat),
 Value.slice
 q119
 n120
 n121)])] →
 R
 (Ending.returned
 (Value.bool
 false))
 w108
 else
 bif
 (↑n110 :
 Int) !=
 (8192 :
 Int) then
 Known
 w108
 [(w.heap.size,
 [((0 :
 Nat),
 Value.slice
 qa
 na
 ca),
 ((1 :
 Nat),
 Value.slice
 qb
 nb
 cb),
 ((2 :
 Nat),
 Value.int
 IntKind.i64
 x),
 ((3 :
 Nat),
 Value.slice
 qk
 nk
 ck)]),
 ((w.alloc
 (Obj.cells
 #[Value.slice
 qa
 na
 ca,
 Value.slice
 qb
 nb
 cb,
 Value.int
 IntKind.i64
 x,
 Value.slice
 qk
 nk
 ck]
 (49 :
 Nat))).drew.heap.size,
 [((0 :
 Nat),
 Value.slice
 q113
 n114
 n115),
 ((1 :
 Nat),
 Value.slice
 q116
 n117
 n118),
 ((2 :
 Nat),
 Value.slice
 q119
 n120
 n121)])] →
 R
 (Ending.returned
 (Value.bool
 false))
 w108
 else
 ∃
 (I122
 :
 Int →
 Int →
 World →
 Prop),
 ∃
 (I123
 :
 Int →
 Int →
 World →
 Nat),
 I122
 (0 :
 Int)
 (0 :
 Int)
 w108 ∧
 ∀
 (i124
 i125 :
 Int)
 (w126 :
 World),
 I122
 i124
 i125
 w126 →
 Known
 w126
 [(w.heap.size,
 [((0 :
 Nat),
 Value.slice
 qa
 na
 ca),
 ((1 :
 Nat),
 Value.slice
 qb
 nb
 cb),
 ((2 :
 Nat),
 Value.int
 IntKind.i64
 x),
 ((3 :
 Nat),
 Value.slice
 qk
 nk
 ck)]),
 ((w.alloc
 (Obj.cells
 #[Value.slice
 qa
 na
 ca,
 Value.slice
 qb
 nb
 cb,
 Value.int
 IntKind.i64
 x,
 Value.slice
 qk
 nk
 ck]
 (49 :
 Nat))).drew.heap.size,
 [((0 :
 Nat),
 Value.slice
 q113
 n114
 n115),
 ((1 :
 Nat),
 Value.slice
 q116
 n117
 n118),
 ((2 :
 Nat),
 Value.slice
 q119
 n120
 n121)])] →
 bif
 decide
 (i124 <
 (16 :
 Int)) then
 Wr
 IntKind.i64
 ((512 :
 Int) *
 i124)
 fun
 (i127 :
 Int) =>
 Wr
 IntKind.i64
 ((512 :
 Int) *
 i124)
 fun
 (i128 :
 Int) =>
 Wr
 IntKind.i64
 (i128 +
 (512 :
 Int))
 fun
 (i129 :
 Int) =>
 ((0 :
 Int) ≤
 i129 ∧
 i129 ≤
 (↑n58 :
 Int)) ∧
 ((0 :
 Int) ≤
 i127 ∧
 i127 ≤
 (↑i129.toNat :
 Int)) ∧
 ∃
 (s130
 :
 ByteArray),
 s130.size =
 i129.toNat -
 i127.toNat ∧
 BytesAt
 w126.drew
 (cutA
 q56
 n58
 i127.toNat
 (1 :
 Nat))
 s130 ∧
 Wr
 IntKind.i64
 ((512 :
 Int) *
 i124)
 fun
 (i131 :
 Int) =>
 Wr
 IntKind.i64
 ((512 :
 Int) *
 i124)
 fun
 (i132 :
 Int) =>
 Wr
 IntKind.i64
 (i132 +
 (512 :
 Int))
 fun
 (i133 :
 Int) =>
 ((0 :
 Int) ≤
 i133 ∧
 i133 ≤
 (↑n85 :
 Int)) ∧
 ((0 :
 Int) ≤
 i131 ∧
 i131 ≤
 (↑i133.toNat :
 Int)) ∧
 ∃
 (s134
 :
 ByteArray),
 s134.size =
 i133.toNat -
 i131.toNat ∧
 BytesAt
 w126.drew
 (cutA
 q83
 n85
 i131.toNat
 (1 :
 Nat))
 s134 ∧
 Wr
 IntKind.i64
 ((512 :
 Int) *
 i124)
 fun
 (i135 :
 Int) =>
 Wr
 IntKind.i64
 ((512 :
 Int) *
 i124)
 fun
 (i136 :
 Int) =>
 Wr
 IntKind.i64
 (i136 +
 (512 :
 Int))
 fun
 (i137 :
 Int) =>
 ((0 :
 Int) ≤
 i137 ∧
 i137 ≤
 (↑n111 :
 Int)) ∧
 ((0 :
 Int) ≤
 i135 ∧
 i135 ≤
 (↑i137.toNat :
 Int)) ∧
 ∃
 (s138
 :
 ByteArray),
 s138.size =
 i137.toNat -
 i135.toNat ∧
 BytesAt
 w126.drew
 (cutA
 q109
 n111
 i135.toNat
 (1 :
 Nat))
 s138 ∧
 bif
 decide
 ((↑nb :
 Int) >
 (0 :
 Int)) then
 Wr
 IntKind.i64
 ((512 :
 Int) *
 i124)
 fun
 (i139 :
 Int) =>
 Wr
 IntKind.i64
 (x +
 (↑nb :
 Int))
 fun
 (i140 :
 Int) =>
 bif
 decide
 (i139 <
 i140) then
 Wr
 IntKind.i64
 ((512 :
 Int) *
 i124)
 fun
 (i141 :
 Int) =>
 Wr
 IntKind.i64
 (i141 +
 (512 :
 Int))
 fun
 (i142 :
 Int) =>
 bif
 decide
 (i142 >
 x) then
 bif
 decide
 (i125 <
 (↑nk :
 Int)) then
 ((0 :
 Int) ≤
 i125 ∧
 i125 <
 (↑nk :
 Int)) ∧
 SX.Ptr
 qk
 fun
 (a143 :
 Addr) =>
 ∃
 (t144
 :
 Bool),
 w126.drew.cell?
 (a143.add
 (i125.toNat *
 (1 :
 Nat))) =
 some
 (Value.bool
 t144) ∧
 bif
 decide
 (i142 >
 x) then
 Wr
 IntKind.i64
 (i125 +
 (1 :
 Int))
 fun
 (i145 :
 Int) =>
 bif
 t144 then
 bif
 !s138.toList ==
 s134.toList then
 Known
 w126.drew
 [(w.heap.size,
 [((0 :
 Nat),
 Value.slice
 qa
 na
 ca),
 ((1 :
 Nat),
 Value.slice
 qb
 nb
 cb),
 ((2 :
 Nat),
 Value.int
 IntKind.i64
 x),
 ((3 :
 Nat),
 Value.slice
 qk
 nk
 ck)]),
 ((w.alloc
 (Obj.cells
 #[Value.slice
 qa
 na
 ca,
 Value.slice
 qb
 nb
 cb,
 Value.int
 IntKind.i64
 x,
 Value.slice
 qk
 nk
 ck]
 (49 :
 Nat))).drew.heap.size,
 [((0 :
 Nat),
 Value.slice
 q113
 n114
 n115),
 ((1 :
 Nat),
 Value.slice
 q116
 n117
 n118),
 ((2 :
 Nat),
 Value.slice
 q119
 n120
 n121)])] →
 R
 (Ending.returned
 (Value.bool
 false))
 w126.drew
 else
 bif
 !t144 then
 bif
 !s138.toList ==
 s130.toList then
 Known
 w126.drew
 [(w.heap.size,
 [((0 :
 Nat),
 Value.slice
 qa
 na
 ca),
 ((1 :
 Nat),
 Value.slice
 qb
 nb
 cb),
 ((2 :
 Nat),
 Value.int
 IntKind.i64
 x),
 ((3 :
 Nat),
 Value.slice
 qk
 nk
 ck)]),
 ((w.alloc
 (Obj.cells
 #[Value.slice
 qa
 na
 ca,
 Value.slice
 qb
 nb
 cb,
 Value.int
 IntKind.i64
 x,
 Value.slice
 qk
 nk
 ck]
 (49 :
 Nat))).drew.heap.size,
 [((0 :
 Nat),
 Value.slice
 q113
 n114
 n115),
 ((1 :
 Nat),
 Value.slice
 q116
 n117
 n118),
 ((2 :
 Nat),
 Value.slice
 q119
 n120
 n121)])] →
 R
 (Ending.returned
 (Value.bool
 false))
 w126.drew
 else
 Wr
 IntKind.i64
 (i124 +
 (1 :
 Int))
 fun
 (i146 :
 Int) =>
 SameVals
 [Value.slice
 qa
 na
 ca,
 Value.slice
 qb
 nb
 cb,
 Value.int
 IntKind.i64
 x,
 Value.slice
 qk
 nk
 ck,
 Value.slice
 q113
 n114
 n115,
 Value.slice
 q116
 n117
 n118,
 Value.slice
 q119
 n120
 n121]
 [Value.slice
 qa
 na
 ca,
 Value.slice
 qb
 nb
 cb,
 Value.int
 IntKind.i64
 x,
 Value.slice
 qk
 nk
 ck,
 Value.slice
 q113
 n114
 n115,
 Value.slice
 q116
 n117
 n118,
 Value.slice
 q119
 n120
 n121] ∧
 I122
 i146
 i145
 w126.drew ∧
 I123
 i146
 i145
 w126.drew <
 I123
 i124
 i125
 w126
 else
 Wr
 IntKind.i64
 (i124 +
 (1 :
 Int))
 fun
 (i147 :
 Int) =>
 SameVals
 [Value.slice
 qa
 na
 ca,
 Value.slice
 qb
 nb
 cb,
 Value.int
 IntKind.i64
 x,
 Value.slice
 qk
 nk
 ck,
 Value.slice
 q113
 n114
 n115,
 Value.slice
 q116
 n117
 n118,
 Value.slice
 q119
 n120
 n121]
 [Value.slice
 qa
 na
 ca,
 Value.slice
 qb
 nb
 cb,
 Value.int
 IntKind.i64
 x,
 Value.slice
 qk
 nk
 ck,
 Value.slice
 q113
 n114
 n115,
 Value.slice
 q116
 n117
 n118,
 Value.slice
 q119
 n120
 n121] ∧
 I122
 i147
 i145
 w126.drew ∧
 I123
 i147
 i145
 w126.drew <
 I123
 i124
 i125
 w126
 else
 bif
 !t144 then
 bif
 !s138.toList ==
 s130.toList then
 Known
 w126.drew
 [(w.heap.size,
 [((0 :
 Nat),
 Value.slice
 qa
 na
 ca),
 ((1 :
 Nat),
 Value.slice
 qb
 nb
 cb),
 ((2 :
 Nat),
 Value.int
 IntKind.i64
 x),
 ((3 :
 Nat),
 Value.slice
 qk
 nk
 ck)]),
 ((w.alloc
 (Obj.cells
 #[Value.slice
 qa
 na
 ca,
 Value.slice
 qb
 nb
 cb,
 Value.int
 IntKind.i64
 x,
 Value.slice
 qk
 nk
 ck]
 (49 :
 Nat))).drew.heap.size,
 [((0 :
 Nat),
 Value.slice
 q113
 n114
 n115),
 ((1 :
 Nat),
 Value.slice
 q116
 n117
 n118),
 ((2 :
 Nat),
 Value.slice
 q119
 n120
 n121)])] →
 R
 (Ending.returned
 (Value.bool
 false))
 w126.drew
 else
 Wr
 IntKind.i64
 (i124 +
 (1 :
 Int))
 fun
 (i148 :
 Int) =>
 SameVals
 [Value.slice
 qa
 na
 ca,
 Value.slice
 qb
 nb
 cb,
 Value.int
 IntKind.i64
 x,
 Value.slice
 qk
 nk
 ck,
 Value.slice
 q113
 n114
 n115,
 Value.slice
 q116
 n117
 n118,
 Value.slice
 q119
 n120
 n121]
 [Value.slice
 qa
 na
 ca,
 Value.slice
 qb
 nb
 cb,
 Value.int
 IntKind.i64
 x,
 Value.slice
 qk
 nk
 ck,
 Value.slice
 q113
 n114
 n115,
 Value.slice
 q116
 n117
 n118,
 Value.slice
 q119
 n120
 n121] ∧
 I122
 i148
 i145
 w126.drew ∧
 I123
 i148
 i145
 w126.drew <
 I123
 i124
 i125
 w126
 else
 Wr
 IntKind.i64
 (i124 +
 (1 :
 Int))
 fun
 (i149 :
 Int) =>
 SameVals
 [Value.slice
 qa
 na
 ca,
 Value.slice
 qb
 nb
 cb,
 Value.int
 IntKind.i64
 x,
 Value.slice
 qk
 nk
 ck,
 Value.slice
 q113
 n114
 n115,
 Value.slice
 q116
 n117
 n118,
 Value.slice
 q119
 n120
 n121]
 [Value.slice
 qa
 na
 ca,
 Value.slice
 qb
 nb
 cb,
 Value.int
 IntKind.i64
 x,
 Value.slice
 qk
 nk
 ck,
 Value.slice
 q113
 n114
 n115,
 Value.slice
 q116
 n117
 n118,
 Value.slice
 q119
 n120
 n121] ∧
 I122
 i149
 i145
 w126.drew ∧
 I123
 i149
 i145
 w126.drew <
 I123
 i124
 i125
 w126
 else
 bif
 t144 then
 bif
 !s138.toList ==
 s134.toList then
 Known
 w126.drew
 [(w.heap.size,
 [((0 :
 Nat),
 Value.slice
 qa
 na
 ca),
 ((1 :
 Nat),
 Value.slice
 qb
 nb
 cb),
 ((2 :
 Nat),
 Value.int
 IntKind.i64
 x),
 ((3 :
 Nat),
 Value.slice
 qk
 nk
 ck)]),
 ((w.alloc
 (Obj.cells
 #[Value.slice
 qa
 na
 ca,
 Value.slice
 qb
 nb
 cb,
 Value.int
 IntKind.i64
 x,
 Value.slice
 qk
 nk
 ck]
 (49 :
 Nat))).drew.heap.size,
 [((0 :
 Nat),
 Value.slice
 q113
 n114
 n115),
 ((1 :
 Nat),
 Value.slice
 q116
 n117
 n118),
 ((2 :
 Nat),
 Value.slice
 q119
 n120
 n121)])] →
 R
 (Ending.returned
 (Value.bool
 false))
 w126.drew
 else
 bif
 !t144 then
 bif
 !s138.toList ==
 s130.toList then
 Known
 w126.drew
 [(w.heap.size,
 [((0 :
 Nat),
 Value.slice
 qa
 na
 ca),
 ((1 :
 Nat),
 Value.slice
 qb
 nb
 cb),
 ((2 :
 Nat),
 Value.int
 IntKind.i64
 x),
 ((3 :
 Nat),
 Value.slice
 qk
 nk
 ck)]),
 ((w.alloc
 (Obj.cells
 #[Value.slice
 qa
 na
 ca,
 Value.slice
 qb
 nb
 cb,
 Value.int
 IntKind.i64
 x,
 Value.slice
 qk
 nk
 ck]
 (49 :
 Nat))).drew.heap.size,
 [((0 :
 Nat),
 Value.slice
 q113
 n114
 n115),
 ((1 :
 Nat),
 Value.slice
 q116
 n117
 n118),
 ((2 :
 Nat),
 Value.slice
 q119
 n120
 n121)])] →
 R
 (Ending.returned
 (Value.bool
 false))
 w126.drew
 else
 Wr
 IntKind.i64
 (i124 +
 (1 :
 Int))
 fun
 (i150 :
 Int) =>
 SameVals
 [Value.slice
 qa
 na
 ca,
 Value.slice
 qb
 nb
 cb,
 Value.int
 IntKind.i64
 x,
 Value.slice
 qk
 nk
 ck,
 Value.slice
 q113
 n114
 n115,
 Value.slice
 q116
 n117
 n118,
 Value.slice
 q119
 n120
 n121]
 [Value.slice
 qa
 na
 ca,
 Value.slice
 qb
 nb
 cb,
 Value.int
 IntKind.i64
 x,
 Value.slice
 qk
 nk
 ck,
 Value.slice
 q113
 n114
 n115,
 Value.slice
 q116
 n117
 n118,
 Value.slice
 q119
 n120
 n121] ∧
 I122
 i150
 i125
 w126.drew ∧
 I123
 i150
 i125
 w126.drew <
 I123
 i124
 i125
 w126
 else
 Wr
 IntKind.i64
 (i124 +
 (1 :
 Int))
 fun
 (i151 :
 Int) =>
 SameVals
 [Value.slice
 qa
 na
 ca,
 Value.slice
 qb
 nb
 cb,
 Value.int
 IntKind.i64
 x,
 Value.slice
 qk
 nk
 ck,
 Value.slice
 q113
 n114
 n115,
 Value.slice
 q116
 n117
 n118,
 Value.slice
 q119
 n120
 n121]
 [Value.slice
 qa
 na
 ca,
 Value.slice
 qb
 nb
 cb,
 Value.int
 IntKind.i64
 x,
 Value.slice
 qk
 nk
 ck,
 Value.slice
 q113
 n114
 n115,
 Value.slice
 q116
 n117
 n118,
 Value.slice
 q119
 n120
 n121] ∧
 I122
 i151
 i125
 w126.drew ∧
 I123
 i151
 i125
 w126.drew <
 I123
 i124
 i125
 w126
 else
 bif
 !t144 then
 bif
 !s138.toList ==
 s130.toList then
 Known
 w126.drew
 [(w.heap.size,
 [((0 :
 Nat),
 Value.slice
 qa
 na
 ca),
 ((1 :
 Nat),
 Value.slice
 qb
 nb
 cb),
 ((2 :
 Nat),
 Value.int
 IntKind.i64
 x),
 ((3 :
 Nat),
 Value.slice
 qk
 nk
 ck)]),
 ((w.alloc
 (Obj.cells
 #[Value.slice
 qa
 na
 ca,
 Value.slice
 qb
 nb
 cb,
 Value.int
 IntKind.i64
 x,
 Value.slice
 qk
 nk
 ck]
 (49 :
 Nat))).drew.heap.size,
 [((0 :
 Nat),
 Value.slice
 q113
 n114
 n115),
 ((1 :
 Nat),
 Value.slice
 q116
 n117
 n118),
 ((2 :
 Nat),
 Value.slice
 q119
 n120
 n121)])] →
 R
 (Ending.returned
 (Value.bool
 false))
 w126.drew
 else
 Wr
 IntKind.i64
 (i124 +
 (1 :
 Int))
 fun
 (i152 :
 Int) =>
 SameVals
 [Value.slice
 qa
 na
 ca,
 Value.slice
 qb
 nb
 cb,
 Value.int
 IntKind.i64
 x,
 Value.slice
 qk
 nk
 ck,
 Value.slice
 q113
 n114
 n115,
 Value.slice
 q116
 n117
 n118,
 Value.slice
 q119
 n120
 n121]
 [Value.slice
 qa
 na
 ca,
 Value.slice
 qb
 nb
 cb,
 Value.int
 IntKind.i64
 x,
 Value.slice
 qk
 nk
 ck,
 Value.slice
 q113
 n114
 n115,
 Value.slice
 q116
 n117
 n118,
 Value.slice
 q119
 n120
 n121] ∧
 I122
 i152
 i125
 w126.drew ∧
 I123
 i152
 i125
 w126.drew <
 I123
 i124
 i125
 w126
 else
 Wr
 IntKind.i64
 (i124 +
 (1 :
 Int))
 fun
 (i153 :
 Int) =>
 SameVals
 [Value.slice
 qa
 na
 ca,
 Value.slice
 qb
 nb
 cb,
 Value.int
 IntKind.i64
 x,
 Value.slice
 qk
 nk
 ck,
 Value.slice
 q113
 n114
 n115,
 Value.slice
 q116
 n117
 n118,
 Value.slice
 q119
 n120
 n121]
 [Value.slice
 qa
 na
 ca,
 Value.slice
 qb
 nb
 cb,
 Value.int
 IntKind.i64
 x,
 Value.slice
 qk
 nk
 ck,
 Value.slice
 q113
 n114
 n115,
 Value.slice
 q116
 n117
 n118,
 Value.slice
 q119
 n120
 n121] ∧
 I122
 i153
 i125
 w126.drew ∧
 I123
 i153
 i125
 w126.drew <
 I123
 i124
 i125
 w126
 else
 bif
 decide
 (i142 >
 x) then
 Wr
 IntKind.i64
 (i125 +
 (1 :
 Int))
 fun
 (i154 :
 Int) =>
 bif
 !s138.toList ==
 s130.toList then
 Known
 w126.drew
 [(w.heap.size,
 [((0 :
 Nat),
 Value.slice
 qa
 na
 ca),
 ((1 :
 Nat),
 Value.slice
 qb
 nb
 cb),
 ((2 :
 Nat),
 Value.int
 IntKind.i64
 x),
 ((3 :
 Nat),
 Value.slice
 qk
 nk
 ck)]),
 ((w.alloc
 (Obj.cells
 #[Value.slice
 qa
 na
 ca,
 Value.slice
 qb
 nb
 cb,
 Value.int
 IntKind.i64
 x,
 Value.slice
 qk
 nk
 ck]
 (49 :
 Nat))).drew.heap.size,
 [((0 :
 Nat),
 Value.slice
 q113
 n114
 n115),
 ((1 :
 Nat),
 Value.slice
 q116
 n117
 n118),
 ((2 :
 Nat),
 Value.slice
 q119
 n120
 n121)])] →
 R
 (Ending.returned
 (Value.bool
 false))
 w126.drew
 else
 Wr
 IntKind.i64
 (i124 +
 (1 :
 Int))
 fun
 (i155 :
 Int) =>
 SameVals
 [Value.slice
 qa
 na
 ca,
 Value.slice
 qb
 nb
 cb,
 Value.int
 IntKind.i64
 x,
 Value.slice
 qk
 nk
 ck,
 Value.slice
 q113
 n114
 n115,
 Value.slice
 q116
 n117
 n118,
 Value.slice
 q119
 n120
 n121]
 [Value.slice
 qa
 na
 ca,
 Value.slice
 qb
 nb
 cb,
 Value.int
 IntKind.i64
 x,
 Value.slice
 qk
 nk
 ck,
 Value.slice
 q113
 n114
 n115,
 Value.slice
 q116
 n117
 n118,
 Value.slice
 q119
 n120
 n121] ∧
 I122
 i155
 i154
 w126.drew ∧
 I123
 i155
 i154
 w126.drew <
 I123
 i124
 i125
 w126
 else
 bif
 !s138.toList ==
 s130.toList then
 Known
 w126.drew
 [(w.heap.size,
 [((0 :
 Nat),
 Value.slice
 qa
 na
 ca),
 ((1 :
 Nat),
 Value.slice
 qb
 nb
 cb),
 ((2 :
 Nat),
 Value.int
 IntKind.i64
 x),
 ((3 :
 Nat),
 Value.slice
 qk
 nk
 ck)]),
 ((w.alloc
 (Obj.cells
 #[Value.slice
 qa
 na
 ca,
 Value.slice
 qb
 nb
 cb,
 Value.int
 IntKind.i64
 x,
 Value.slice
 qk
 nk
 ck]
 (49 :
 Nat))).drew.heap.size,
 [((0 :
 Nat),
 Value.slice
 q113
 n114
 n115),
 ((1 :
 Nat),
 Value.slice
 q116
 n117
 n118),
 ((2 :
 Nat),
 Value.slice
 q119
 n120
 n121)])] →
 R
 (Ending.returned
 (Value.bool
 false))
 w126.drew
 else
 Wr
 IntKind.i64
 (i124 +
 (1 :
 Int))
 fun
 (i156 :
 Int) =>
 SameVals
 [Value.slice
 qa
 na
 ca,
 Value.slice
 qb
 nb
 cb,
 Value.int
 IntKind.i64
 x,
 Value.slice
 qk
 nk
 ck,
 Value.slice
 q113
 n114
 n115,
 Value.slice
 q116
 n117
 n118,
 Value.slice
 q119
 n120
 n121]
 [Value.slice
 qa
 na
 ca,
 Value.slice
 qb
 nb
 cb,
 Value.int
 IntKind.i64
 x,
 Value.slice
 qk
 nk
 ck,
 Value.slice
 q113
 n114
 n115,
 Value.slice
 q116
 n117
 n118,
 Value.slice
 q119
 n120
 n121] ∧
 I122
 i156
 i125
 w126.drew ∧
 I123
 i156
 i125
 w126.drew <
 I123
 i124
 i125
 w126
 else
 bif
 decide
 (i142 >
 x) then
 Wr
 IntKind.i64
 (i125 +
 (1 :
 Int))
 fun
 (i157 :
 Int) =>
 bif
 !s138.toList ==
 s130.toList then
 Known
 w126.drew
 [(w.heap.size,
 [((0 :
 Nat),
 Value.slice
 qa
 na
 ca),
 ((1 :
 Nat),
 Value.slice
 qb
 nb
 cb),
 ((2 :
 Nat),
 Value.int
 IntKind.i64
 x),
 ((3 :
 Nat),
 Value.slice
 qk
 nk
 ck)]),
 ((w.alloc
 (Obj.cells
 #[Value.slice
 qa
 na
 ca,
 Value.slice
 qb
 nb
 cb,
 Value.int
 IntKind.i64
 x,
 Value.slice
 qk
 nk
 ck]
 (49 :
 Nat))).drew.heap.size,
 [((0 :
 Nat),
 Value.slice
 q113
 n114
 n115),
 ((1 :
 Nat),
 Value.slice
 q116
 n117
 n118),
 ((2 :
 Nat),
 Value.slice
 q119
 n120
 n121)])] →
 R
 (Ending.returned
 (Value.bool
 false))
 w126.drew
 else
 Wr
 IntKind.i64
 (i124 +
 (1 :
 Int))
 fun
 (i158 :
 Int) =>
 SameVals
 [Value.slice
 qa
 na
 ca,
 Value.slice
 qb
 nb
 cb,
 Value.int
 IntKind.i64
 x,
 Value.slice
 qk
 nk
 ck,
 Value.slice
 q113
 n114
 n115,
 Value.slice
 q116
 n117
 n118,
 Value.slice
 q119
 n120
 n121]
 [Value.slice
 qa
 na
 ca,
 Value.slice
 qb
 nb
 cb,
 Value.int
 IntKind.i64
 x,
 Value.slice
 qk
 nk
 ck,
 Value.slice
 q113
 n114
 n115,
 Value.slice
 q116
 n117
 n118,
 Value.slice
 q119
 n120
 n121] ∧
 I122
 i158
 i157
 w126.drew ∧
 I123
 i158
 i157
 w126.drew <
 I123
 i124
 i125
 w126
 else
 bif
 !s138.toList ==
 s130.toList then
 Known
 w126.drew
 [(w.heap.size,
 [((0 :
 Nat),
 Value.slice
 qa
 na
 ca),
 ((1 :
 Nat),
 Value.slice
 qb
 nb
 cb),
 ((2 :
 Nat),
 Value.int
 IntKind.i64
 x),
 ((3 :
 Nat),
 Value.slice
 qk
 nk
 ck)]),
 ((w.alloc
 (Obj.cells
 #[Value.slice
 qa
 na
 ca,
 Value.slice
 qb
 nb
 cb,
 Value.int
 IntKind.i64
 x,
 Value.slice
 qk
 nk
 ck]
 (49 :
 Nat))).drew.heap.size,
 [((0 :
 Nat),
 Value.slice
 q113
 n114
 n115),
 ((1 :
 Nat),
 Value.slice
 q116
 n117
 n118),
 ((2 :
 Nat),
 Value.slice
 q119
 n120
 n121)])] →
 R
 (Ending.returned
 (Value.bool
 false))
 w126.drew
 else
 Wr
 IntKind.i64
 (i124 +
 (1 :
 Int))
 fun
 (i159 :
 Int) =>
 SameVals
 [Value.slice
 qa
 na
 ca,
 Value.slice
 qb
 nb
 cb,
 Value.int
 IntKind.i64
 x,
 Value.slice
 qk
 nk
 ck,
 Value.slice
 q113
 n114
 n115,
 Value.slice
 q116
 n117
 n118,
 Value.slice
 q119
 n120
 n121]
 [Value.slice
 qa
 na
 ca,
 Value.slice
 qb
 nb
 cb,
 Value.int
 IntKind.i64
 x,
 Value.slice
 qk
 nk
 ck,
 Value.slice
 q113
 n114
 n115,
 Value.slice
 q116
 n117
 n118,
 Value.slice
 q119
 n120
 n121] ∧
 I122
 i159
 i125
 w126.drew ∧
 I123
 i159
 i125
 w126.drew <
 I123
 i124
 i125
 w126
 else
 bif
 !s138.toList ==
 s130.toList then
 Known
 w126.drew
 [(w.heap.size,
 [((0 :
 Nat),
 Value.slice
 qa
 na
 ca),
 ((1 :
 Nat),
 Value.slice
 qb
 nb
 cb),
 ((2 :
 Nat),
 Value.int
 IntKind.i64
 x),
 ((3 :
 Nat),
 Value.slice
 qk
 nk
 ck)]),
 ((w.alloc
 (Obj.cells
 #[Value.slice
 qa
 na
 ca,
 Value.slice
 qb
 nb
 cb,
 Value.int
 IntKind.i64
 x,
 Value.slice
 qk
 nk
 ck]
 (49 :
 Nat))).drew.heap.size,
 [((0 :
 Nat),
 Value.slice
 q113
 n114
 n115),
 ((1 :
 Nat),
 Value.slice
 q116
 n117
 n118),
 ((2 :
 Nat),
 Value.slice
 q119
 n120
 n121)])] →
 R
 (Ending.returned
 (Value.bool
 false))
 w126.drew
 else
 Wr
 IntKind.i64
 (i124 +
 (1 :
 Int))
 fun
 (i160 :
 Int) =>
 SameVals
 [Value.slice
 qa
 na
 ca,
 Value.slice
 qb
 nb
 cb,
 Value.int
 IntKind.i64
 x,
 Value.slice
 qk
 nk
 ck,
 Value.slice
 q113
 n114
 n115,
 Value.slice
 q116
 n117
 n118,
 Value.slice
 q119
 n120
 n121]
 [Value.slice
 qa
 na
 ca,
 Value.slice
 qb
 nb
 cb,
 Value.int
 IntKind.i64
 x,
 Value.slice
 qk
 nk
 ck,
 Value.slice
 q113
 n114
 n115,
 Value.slice
 q116
 n117
 n118,
 Value.slice
 q119
 n120
 n121] ∧
 I122
 i160
 i125
 w126.drew ∧
 I123
 i160
 i125
 w126.drew <
 I123
 i124
 i125
 w126
 else
 bif
 !s138.toList ==
 s130.toList then
 Known
 w126.drew
 [(w.heap.size,
 [((0 :
 Nat),
 Value.slice
 qa
 na
 ca),
 ((1 :
 Nat),
 Value.slice
 qb
 nb
 cb),
 ((2 :
 Nat),
 Value.int
 IntKind.i64
 x),
 ((3 :
 Nat),
 Value.slice
 qk
 nk
 ck)]),
 ((w.alloc
 (Obj.cells
 #[Value.slice
 qa
 na
 ca,
 Value.slice
 qb
 nb
 cb,
 Value.int
 IntKind.i64
 x,
 Value.slice
 qk
 nk
 ck]
 (49 :
 Nat))).drew.heap.size,
 [((0 :
 Nat),
 Value.slice
 q113
 n114
 n115),
 ((1 :
 Nat),
 Value.slice
 q116
 n117
 n118),
 ((2 :
 Nat),
 Value.slice
 q119
 n120
 n121)])] →
 R
 (Ending.returned
 (Value.bool
 false))
 w126.drew
 else
 Wr
 IntKind.i64
 (i124 +
 (1 :
 Int))
 fun
 (i161 :
 Int) =>
 SameVals
 [Value.slice
 qa
 na
 ca,
 Value.slice
 qb
 nb
 cb,
 Value.int
 IntKind.i64
 x,
 Value.slice
 qk
 nk
 ck,
 Value.slice
 q113
 n114
 n115,
 Value.slice
 q116
 n117
 n118,
 Value.slice
 q119
 n120
 n121]
 [Value.slice
 qa
 na
 ca,
 Value.slice
 qb
 nb
 cb,
 Value.int
 IntKind.i64
 x,
 Value.slice
 qk
 nk
 ck,
 Value.slice
 q113
 n114
 n115,
 Value.slice
 q116
 n117
 n118,
 Value.slice
 q119
 n120
 n121] ∧
 I122
 i161
 i125
 w126.drew ∧
 I123
 i161
 i125
 w126.drew <
 I123
 i124
 i125
 w126
 else
 Known
 w126
 [(w.heap.size,
 [((0 :
 Nat),
 Value.slice
 qa
 na
 ca),
 ((1 :
 Nat),
 Value.slice
 qb
 nb
 cb),
 ((2 :
 Nat),
 Value.int
 IntKind.i64
 x),
 ((3 :
 Nat),
 Value.slice
 qk
 nk
 ck)]),
 ((w.alloc
 (Obj.cells
 #[Value.slice
 qa
 na
 ca,
 Value.slice
 qb
 nb
 cb,
 Value.int
 IntKind.i64
 x,
 Value.slice
 qk
 nk
 ck]
 (49 :
 Nat))).drew.heap.size,
 [((0 :
 Nat),
 Value.slice
 q113
 n114
 n115),
 ((1 :
 Nat),
 Value.slice
 q116
 n117
 n118),
 ((2 :
 Nat),
 Value.slice
 q119
 n120
 n121)])] →
 Rets
 Try.prog
 (13 :
 Nat)
 #[]
 w126
 fun
 (v162 :
 Value)
 (w163 :
 World) =>
 ∃
 (t164
 :
 Bool),
 v162 =
 Value.bool
 t164 ∧
 Keeps
 w126
 w163
 [w.heap.size,
 (w.alloc
 (Obj.cells
 #[Value.slice
 qa
 na
 ca,
 Value.slice
 qb
 nb
 cb,
 Value.int
 IntKind.i64
 x,
 Value.slice
 qk
 nk
 ck]
 (49 :
 Nat))).drew.heap.size] ∧
 (Known
 w163
 [(w.heap.size,
 [((0 :
 Nat),
 Value.slice
 qa
 na
 ca),
 ((1 :
 Nat),
 Value.slice
 qb
 nb
 cb),
 ((2 :
 Nat),
 Value.int
 IntKind.i64
 x),
 ((3 :
 Nat),
 Value.slice
 qk
 nk
 ck)]),
 ((w.alloc
 (Obj.cells
 #[Value.slice
 qa
 na
 ca,
 Value.slice
 qb
 nb
 cb,
 Value.int
 IntKind.i64
 x,
 Value.slice
 qk
 nk
 ck]
 (49 :
 Nat))).drew.heap.size,
 [((0 :
 Nat),
 Value.slice
 q113
 n114
 n115),
 ((1 :
 Nat),
 Value.slice
 q116
 n117
 n118),
 ((2 :
 Nat),
 Value.slice
 q119
 n120
 n121)])] →
 R
 (Ending.returned
 (Value.bool
 t164))
 w163))))))))
theorem vcTry5 (qa : Option Addr) (na ca : Nat) (qb : Option Addr) (nb cb : Nat) (x : Int) (qk : Option Addr) (nk ck : Nat) (w : World) (R : Ending → World → Prop) : SX.vcFn Try.prog [(16, ⟨[(15, .int .i64), (14, .int .i64)], [6, 5, 4, 12, 10, 8], []⟩)] Try.f5 [.v (.agg #[.slice qa na ca, .slice qb nb cb, .int .i64 x, .slice qk nk ck])] [] w R = VCTry5 qa na ca qb nb cb x qk nk ck w R := by kernel_rfl
end Go.Proofs.Ytlgkcbdpaffigaa
