/- The conditions of functions, as the executor computes them: each is equal to what 'vcFn' says. -/
import Derived.Test.YtlgkcbdpaffigaaSxLib
import Derived.Test.YtlgkcbdpaffigaaProg
namespace Go.Proofs.Ytlgkcbdpaffigaa
open Go Go.SX Go.Proofs
set_option maxRecDepth 100000
set_option linter.unusedVariables false
def VCTry7 (p0 : Option Addr) (n0 c0 : Nat) (p1 : Option Addr) (n1 c1 : Nat) (w : World) (R : Ending → World → Prop) : Prop :=
Rets Try.prog (35 : Nat) #[Value.slice p0 n0 c0] w fun (v0 : Value) (w1 : World) =>
 ∃ (t2 : Bool),
 v0 = Value.bool t2 ∧
 Keeps w w1 [] ∧
 bif t2 then Rets Try.prog (36 : Nat) #[] w1 fun (v3 : Value) (w4 : World) => ∃ (t5 : Bool), v3 = Value.bool t5 ∧ Keeps w1 w4 [] ∧ R (Ending.returned (Value.bool t5)) w4
 else
 Rets Try.prog (35 : Nat) #[Value.slice p1 n1 c1] w1 fun (v6 : Value) (w7 : World) =>
 ∃ (t8 : Bool),
 v6 = Value.bool t8 ∧
 Keeps w1 w7 [] ∧
 bif t8 then Rets Try.prog (36 : Nat) #[] w7 fun (v9 : Value) (w10 : World) => ∃ (t11 : Bool), v9 = Value.bool t11 ∧ Keeps w7 w10 [] ∧ R (Ending.returned (Value.bool t11)) w10
 else
 ∃ (I12 :
 Int →
 Option Nat →
 Option Nat →
 Option Addr →
 Nat → Nat → Option Nat → Option Nat → Option Addr → Nat → Nat → Option Addr → Nat → Nat → Option Addr → Nat → Nat → Option Addr → Nat → Nat → Option Addr → Nat → Nat → World → Prop),
 ∃ (I13 :
 Int →
 Option Nat →
 Option Nat →
 Option Addr →
 Nat → Nat → Option Nat → Option Nat → Option Addr → Nat → Nat → Option Addr → Nat → Nat → Option Addr → Nat → Nat → Option Addr → Nat → Nat → Option Addr → Nat → Nat → World → Nat),
 I12 (0 : Int) none none none (0 : Nat) (0 : Nat) none none none (0 : Nat) (0 : Nat) none (0 : Nat) (0 : Nat) none (0 : Nat) (0 : Nat) none (0 : Nat) (0 : Nat) none (0 : Nat) (0 : Nat)
 ((((w7.alloc (Obj.cells #[Value.map none, Value.map none, Value.slice none (0 : Nat) (0 : Nat)] (79 : Nat))).alloc
 (Obj.cells #[Value.map none, Value.map none, Value.slice none (0 : Nat) (0 : Nat)] (79 : Nat))).alloc
 (Obj.cells #[Value.slice none (0 : Nat) (0 : Nat), Value.slice none (0 : Nat) (0 : Nat)] (83 : Nat))).alloc
 (Obj.cells #[Value.slice none (0 : Nat) (0 : Nat), Value.slice none (0 : Nat) (0 : Nat)] (83 : Nat))) ∧
 ∀ (i14 : Int) (q15 q16 : Option Nat) (q17 : Option Addr) (n18 n19 : Nat) (q20 q21 : Option Nat) (q22 : Option Addr) (n23 n24 : Nat) (q25 : Option Addr) (n26 n27 : Nat) (q28 : Option Addr)
 (n29 n30 : Nat) (q31 : Option Addr) (n32 n33 : Nat) (q34 : Option Addr) (n35 n36 : Nat) (w37 : World),
 I12 i14 q15 q16 q17 n18 n19 q20 q21 q22 n23 n24 q25 n26 n27 q28 n29 n30 q31 n32 n33 q34 n35 n36 w37 →
 Known w37
 [(w7.heap.size, [((0 : Nat), Value.map q15), ((1 : Nat), Value.map q16), ((2 : Nat), Value.slice q17 n18 n19)]),
 ((w7.alloc (Obj.cells #[Value.map none, Value.map none, Value.slice none (0 : Nat) (0 : Nat)] (79 : Nat))).heap.size,
 [((0 : Nat), Value.map q20), ((1 : Nat), Value.map q21), ((2 : Nat), Value.slice q22 n23 n24)]),
 (((w7.alloc (Obj.cells #[Value.map none, Value.map none, Value.slice none (0 : Nat) (0 : Nat)] (79 : Nat))).alloc
 (Obj.cells #[Value.map none, Value.map none, Value.slice none (0 : Nat) (0 : Nat)] (79 : Nat))).heap.size,
 [((0 : Nat), Value.slice q25 n26 n27), ((1 : Nat), Value.slice q28 n29 n30)]),
 ((((w7.alloc (Obj.cells #[Value.map none, Value.map none, Value.slice none (0 : Nat) (0 : Nat)] (79 : Nat))).alloc
 (Obj.cells #[Value.map none, Value.map none, Value.slice none (0 : Nat) (0 : Nat)] (79 : Nat))).alloc
 (Obj.cells #[Value.slice none (0 : Nat) (0 : Nat), Value.slice none (0 : Nat) (0 : Nat)] (83 : Nat))).heap.size,
 [((0 : Nat), Value.slice q31 n32 n33), ((1 : Nat), Value.slice q34 n35 n36)])] →
 bif decide (i14 < (↑n0 : Int)) then
 ((0 : Int) ≤ i14 ∧ i14 < (↑n0 : Int)) ∧
 SX.Ptr p0 fun (a38 : Addr) =>
 ∃ (i39 : Int),
 ∃ (s40 : ByteArray),
 ∃ (s41 : ByteArray),
 ∃ (i42 : Int),
 (w37.cell? ((a38.add (i14.toNat * (4 : Nat))).add (0 : Nat)) = some (Value.int IntKind.i64 i39) ∧
 w37.cell? ((a38.add (i14.toNat * (4 : Nat))).add (1 : Nat)) = some (Value.string s40) ∧
 w37.cell? ((a38.add (i14.toNat * (4 : Nat))).add (2 : Nat)) = some (Value.string s41) ∧
 w37.cell? ((a38.add (i14.toNat * (4 : Nat))).add (3 : Nat)) = some (Value.int IntKind.i64 i42) ∧ True) ∧
 (Known w37
 [(w7.heap.size, [((0 : Nat), Value.map q15), ((1 : Nat), Value.map q16), ((2 : Nat), Value.slice q17 n18 n19)]),
 ((w7.alloc (Obj.cells #[Value.map none, Value.map none, Value.slice none (0 : Nat) (0 : Nat)] (79 : Nat))).heap.size,
 [((0 : Nat), Value.map q20), ((1 : Nat), Value.map q21), ((2 : Nat), Value.slice q22 n23 n24)]),
 (((w7.alloc (Obj.cells #[Value.map none, Value.map none, Value.slice none (0 : Nat) (0 : Nat)] (79 : Nat))).alloc
 (Obj.cells #[Value.map none, Value.map none, Value.slice none (0 : Nat) (0 : Nat)] (79 : Nat))).heap.size,
 [((0 : Nat), Value.slice q25 n26 n27), ((1 : Nat), Value.slice q28 n29 n30)]),
 ((((w7.alloc (Obj.cells #[Value.map none, Value.map none, Value.slice none (0 : Nat) (0 : Nat)] (79 : Nat))).alloc
 (Obj.cells #[Value.map none, Value.map none, Value.slice none (0 : Nat) (0 : Nat)] (79 : Nat))).alloc
 (Obj.cells #[Value.slice none (0 : Nat) (0 : Nat), Value.slice none (0 : Nat) (0 : Nat)] (83 : Nat))).heap.size,
 [((0 : Nat), Value.slice q31 n32 n33), ((1 : Nat), Value.slice q34 n35 n36)])] →
 Rets Try.prog (37 : Nat)
 #[Value.pointer (some { block := w7.heap.size, off := (0 : Nat) }),
 Value.pointer
 (some
 { block := ((w7.alloc (Obj.cells #[Value.map none, Value.map none, Value.slice none (0 : Nat) (0 : Nat)] (79 : Nat))).alloc (Obj.cells #[Value.map none, Value.map none, Value.slice none (0 : Nat) (0 : Nat)] (79 : Nat))).heap.size, off := (0 : Nat) }),
 Value.agg #[Value.int IntKind.i64 i39, Value.string s40, Value.string s41, Value.int IntKind.i64 i42]]
 w37 fun (v43 : Value) (w44 : World) =>
 ∃ (t45 : Bool),
 v43 = Value.bool t45 ∧
 Keeps w37 w44
 [(w7.alloc (Obj.cells #[Value.map none, Value.map none, Value.slice none (0 : Nat) (0 : Nat)] (79 : Nat))).heap.size,
 (((w7.alloc (Obj.cells #[Value.map none, Value.map none, Value.slice none (0 : Nat) (0 : Nat)] (79 : Nat))).alloc
 (Obj.cells #[Value.map none, Value.map none, Value.slice none (0 : Nat) (0 : Nat)] (79 : Nat))).alloc
 (Obj.cells #[Value.slice none (0 : Nat) (0 : Nat), Value.slice none (0 : Nat) (0 : Nat)] (83 : Nat))).heap.size] ∧
 ∃ (q46 : Option Nat),
 w44.cell? { block := w7.heap.size, off := (0 : Nat) } = some (Value.map q46) ∧
 w44.frozen? { block := w7.heap.size, off := (0 : Nat) } = false ∧
 ∃ (q47 : Option Nat),
 w44.cell? { block := w7.heap.size, off := (1 : Nat) } = some (Value.map q47) ∧
 w44.frozen? { block := w7.heap.size, off := (1 : Nat) } = false ∧
 ∃ (q48 : Option Addr),
 ∃ (n49 : Nat),
 ∃ (n50 : Nat),
 w44.cell? { block := w7.heap.size, off := (2 : Nat) } = some (Value.slice q48 n49 n50) ∧
 w44.frozen? { block := w7.heap.size, off := (2 : Nat) } = false ∧
 ∃ (q51 : Option Addr),
 ∃ (n52 : Nat),
 ∃ (n53 : Nat),
 w44.cell?
 { block := ((w7.alloc (Obj.cells #[Value.map none, Value.map none, Value.slice none (0 : Nat) (0 : Nat)] (79 : Nat))).alloc (Obj.cells #[Value.map none, Value.map none, Value.slice none (0 : Nat) (0 : Nat)] (79 : Nat))).heap.size, off := (0 : Nat) } =
 some (Value.slice q51 n52 n53) ∧
 w44.frozen?
 { block := ((w7.alloc (Obj.cells #[Value.map none, Value.map none, Value.slice none (0 : Nat) (0 : Nat)] (79 : Nat))).alloc (Obj.cells #[Value.map none, Value.map none, Value.slice none (0 : Nat) (0 : Nat)] (79 : Nat))).heap.size, off := (0 : Nat) } =
 false ∧
 ∃ (q54 : Option Addr),
 ∃ (n55 : Nat),
 ∃ (n56 : Nat),
 w44.cell?
 { block := ((w7.alloc (Obj.cells #[Value.map none, Value.map none, Value.slice none (0 : Nat) (0 : Nat)] (79 : Nat))).alloc (Obj.cells #[Value.map none, Value.map none, Value.slice none (0 : Nat) (0 : Nat)] (79 : Nat))).heap.size, off := (1 : Nat) } =
 some (Value.slice q54 n55 n56) ∧
 w44.frozen?
 { block := ((w7.alloc (Obj.cells #[Value.map none, Value.map none, Value.slice none (0 : Nat) (0 : Nat)] (79 : Nat))).alloc (Obj.cells #[Value.map none, Value.map none, Value.slice none (0 : Nat) (0 : Nat)] (79 : Nat))).heap.size, off := (1 : Nat) } =
 false ∧
 ((0 : Int) ≤ i14 ∧ i14 < (↑n0 : Int)) ∧
 SX.Ptr p0 fun (a57 : Addr) =>
 ∃ (i58 : Int),
 ∃ (s59 : ByteArray),
 ∃ (s60 : ByteArray),
 ∃ (i61 : Int),
 (w44.cell? ((a57.add (i14.toNat * (4 : Nat))).add (0 : Nat)) = some (Value.int IntKind.i64 i58) ∧
 w44.cell? ((a57.add (i14.toNat * (4 : Nat))).add (1 : Nat)) = some (Value.string s59) ∧
 w44.cell? ((a57.add (i14.toNat * (4 : Nat))).add (2 : Nat)) = some (Value.string s60) ∧
 w44.cell? ((a57.add (i14.toNat * (4 : Nat))).add (3 : Nat)) = some (Value.int IntKind.i64 i61) ∧
 True) ∧
 (Known w44
 [(w7.heap.size,
 [((0 : Nat), Value.map q46), ((1 : Nat), Value.map q47), ((2 : Nat), Value.slice q48 n49 n50)]),
 ((w7.alloc
 (Obj.cells #[Value.map none, Value.map none, Value.slice none (0 : Nat) (0 : Nat)]
 (79 : Nat))).heap.size,
 [((0 : Nat), Value.map q20), ((1 : Nat), Value.map q21), ((2 : Nat), Value.slice q22 n23 n24)]),
 (((w7.alloc
 (Obj.cells #[Value.map none, Value.map none, Value.slice none (0 : Nat) (0 : Nat)]
 (79 : Nat))).alloc
 (Obj.cells #[Value.map none, Value.map none, Value.slice none (0 : Nat) (0 : Nat)]
 (79 : Nat))).heap.size,
 [((0 : Nat), Value.slice q51 n52 n53), ((1 : Nat), Value.slice q54 n55 n56)]),
 ((((w7.alloc
 (Obj.cells #[Value.map none, Value.map none, Value.slice none (0 : Nat) (0 : Nat)]
 (79 : Nat))).alloc
 (Obj.cells #[Value.map none, Value.map none, Value.slice none (0 : Nat) (0 : Nat)]
 (79 : Nat))).alloc
 (Obj.cells #[Value.slice none (0 : Nat) (0 : Nat), Value.slice none (0 : Nat) (0 : Nat)]
 (83 : Nat))).heap.size,
 [((0 : Nat), Value.slice q31 n32 n33), ((1 : Nat), Value.slice q34 n35 n36)])] →
 Rets Try.prog (37 : Nat)
 #[Value.pointer
 (some
 { block := (w7.alloc (Obj.cells #[Value.map none, Value.map none, Value.slice none (0 : Nat) (0 : Nat)] (79 : Nat))).heap.size, off := (0 : Nat) }),
 Value.pointer
 (some
 { block := (((w7.alloc (Obj.cells #[Value.map none, Value.map none, Value.slice none (0 : Nat) (0 : Nat)] (79 : Nat))).alloc (Obj.cells #[Value.map none, Value.map none, Value.slice none (0 : Nat) (0 : Nat)] (79 : Nat))).alloc (Obj.cells #[Value.slice none (0 : Nat) (0 : Nat), Value.slice none (0 : Nat) (0 : Nat)] (83 : Nat))).heap.size, off := (0 : Nat) }),
 Value.agg
 #[Value.int IntKind.i64 i58, Value.string s59, Value.string s60, Value.int IntKind.i64 i61]]
 w44 fun (v62 : Value) (w63 : World) =>
 ∃ (t64 : Bool),
 v62 = Value.bool t64 ∧
 Keeps w44 w63
 [w7.heap.size,
 ((w7.alloc
 (Obj.cells #[Value.map none, Value.map none, Value.slice none (0 : Nat) (0 : Nat)]
 (79 : Nat))).alloc
 (Obj.cells #[Value.map none, Value.map none, Value.slice none (0 : Nat) (0 : Nat)]
 (79 : Nat))).heap.size] ∧
 ∃ (q65 : Option Nat),
 w63.cell?
 { block := (w7.alloc (Obj.cells #[Value.map none, Value.map none, Value.slice none (0 : Nat) (0 : Nat)] (79 : Nat))).heap.size, off := (0 : Nat) } =
 some (Value.map q65) ∧
 w63.frozen?
 { block := (w7.alloc (Obj.cells #[Value.map none, Value.map none, Value.slice none (0 : Nat) (0 : Nat)] (79 : Nat))).heap.size, off := (0 : Nat) } =
 false ∧
 ∃ (q66 : Option Nat),
 w63.cell?
 { block := (w7.alloc (Obj.cells #[Value.map none, Value.map none, Value.slice none (0 : Nat) (0 : Nat)] (79 : Nat))).heap.size, off := (1 : Nat) } =
 some (Value.map q66) ∧
 w63.frozen?
 { block := (w7.alloc (Obj.cells #[Value.map none, Value.map none, Value.slice none (0 : Nat) (0 : Nat)] (79 : Nat))).heap.size, off := (1 : Nat) } =
 false ∧
 ∃ (q67 : Option Addr),
 ∃ (n68 : Nat),
 ∃ (n69 : Nat),
 w63.cell?
 { block := (w7.alloc (Obj.cells #[Value.map none, Value.map none, Value.slice none (0 : Nat) (0 : Nat)] (79 : Nat))).heap.size, off := (2 : Nat) } =
 some (Value.slice q67 n68 n69) ∧
 w63.frozen?
 { block := (w7.alloc (Obj.cells #[Value.map none, Value.map none, Value.slice none (0 : Nat) (0 : Nat)] (79 : Nat))).heap.size, off := (2 : Nat) } =
 false ∧
 ∃ (q70 : Option Addr),
 ∃ (n71 : Nat),
 ∃ (n72 : Nat),
 w63.cell?
 { block := (((w7.alloc (Obj.cells #[Value.map none, Value.map none, Value.slice none (0 : Nat) (0 : Nat)] (79 : Nat))).alloc (Obj.cells #[Value.map none, Value.map none, Value.slice none (0 : Nat) (0 : Nat)] (79 : Nat))).alloc (Obj.cells #[Value.slice none (0 : Nat) (0 : Nat), Value.slice none (0 : Nat) (0 : Nat)] (83 : Nat))).heap.size, off := (0 : Nat) } =
 some (Value.slice q70 n71 n72) ∧
 w63.frozen?
 { block := (((w7.alloc (Obj.cells #[Value.map none, Value.map none, Value.slice none (0 : Nat) (0 : Nat)] (79 : Nat))).alloc (Obj.cells #[Value.map none, Value.map none, Value.slice none (0 : Nat) (0 : Nat)] (79 : Nat))).alloc (Obj.cells #[Value.slice none (0 : Nat) (0 : Nat), Value.slice none (0 : Nat) (0 : Nat)] (83 : Nat))).heap.size, off := (0 : Nat) } =
 false ∧
 ∃ (q73 : Option Addr),
 ∃ (n74 : Nat),
 ∃ (n75 : Nat),
 w63.cell?
 { block := (((w7.alloc (Obj.cells #[Value.map none, Value.map none, Value.slice none (0 : Nat) (0 : Nat)] (79 : Nat))).alloc (Obj.cells #[Value.map none, Value.map none, Value.slice none (0 : Nat) (0 : Nat)] (79 : Nat))).alloc (Obj.cells #[Value.slice none (0 : Nat) (0 : Nat), Value.slice none (0 : Nat) (0 : Nat)] (83 : Nat))).heap.size, off := (1 : Nat) } =
 some (Value.slice q73 n74 n75) ∧
 w63.frozen?
 { block := (((w7.alloc (Obj.cells #[Value.map none, Value.map none, Value.slice none (0 : Nat) (0 : Nat)] (79 : Nat))).alloc (Obj.cells #[Value.map none, Value.map none, Value.slice none (0 : Nat) (0 : Nat)] (79 : Nat))).alloc (Obj.cells #[Value.slice none (0 : Nat) (0 : Nat), Value.slice none (0 : Nat) (0 : Nat)] (83 : Nat))).heap.size, off := (1 : Nat) } =
 false ∧
 Wr IntKind.i64 (i14 + (1 : Int)) fun (i76 : Int) =>
 I12 i76 q46 q47 q48 n49 n50 q65 q66 q67 n68 n69 q51
 n52 n53 q54 n55 n56 q70 n71 n72 q73 n74 n75
 w63 ∧
 I13 i76 q46 q47 q48 n49 n50 q65 q66 q67 n68 n69
 q51 n52 n53 q54 n55 n56 q70 n71 n72 q73 n74
 n75 w63 <
 I13 i14 q15 q16 q17 n18 n19 q20 q21 q22 n23 n24
 q25 n26 n27 q28 n29 n30 q31 n32 n33 q34 n35
 n36 w37))
 else
 Known w37
 [(w7.heap.size, [((0 : Nat), Value.map q15), ((1 : Nat), Value.map q16), ((2 : Nat), Value.slice q17 n18 n19)]),
 ((w7.alloc (Obj.cells #[Value.map none, Value.map none, Value.slice none (0 : Nat) (0 : Nat)] (79 : Nat))).heap.size,
 [((0 : Nat), Value.map q20), ((1 : Nat), Value.map q21), ((2 : Nat), Value.slice q22 n23 n24)]),
 (((w7.alloc (Obj.cells #[Value.map none, Value.map none, Value.slice none (0 : Nat) (0 : Nat)] (79 : Nat))).alloc
 (Obj.cells #[Value.map none, Value.map none, Value.slice none (0 : Nat) (0 : Nat)] (79 : Nat))).heap.size,
 [((0 : Nat), Value.slice q25 n26 n27), ((1 : Nat), Value.slice q28 n29 n30)]),
 ((((w7.alloc (Obj.cells #[Value.map none, Value.map none, Value.slice none (0 : Nat) (0 : Nat)] (79 : Nat))).alloc
 (Obj.cells #[Value.map none, Value.map none, Value.slice none (0 : Nat) (0 : Nat)] (79 : Nat))).alloc
 (Obj.cells #[Value.slice none (0 : Nat) (0 : Nat), Value.slice none (0 : Nat) (0 : Nat)] (83 : Nat))).heap.size,
 [((0 : Nat), Value.slice q31 n32 n33), ((1 : Nat), Value.slice q34 n35 n36)])] →
 Rets Try.prog (38 : Nat) #[Value.pointer (some { block := w7.heap.size, off := (0 : Nat) })] w37 fun (v77 : Value) (w78 : World) =>
 v77 = Value.tuple #[] ∧
 Keeps w37 w78
 [(w7.alloc (Obj.cells #[Value.map none, Value.map none, Value.slice none (0 : Nat) (0 : Nat)] (79 : Nat))).heap.size,
 ((w7.alloc (Obj.cells #[Value.map none, Value.map none, Value.slice none (0 : Nat) (0 : Nat)] (79 : Nat))).alloc
 (Obj.cells #[Value.map none, Value.map none, Value.slice none (0 : Nat) (0 : Nat)] (79 : Nat))).heap.size,
 (((w7.alloc (Obj.cells #[Value.map none, Value.map none, Value.slice none (0 : Nat) (0 : Nat)] (79 : Nat))).alloc
 (Obj.cells #[Value.map none, Value.map none, Value.slice none (0 : Nat) (0 : Nat)] (79 : Nat))).alloc
 (Obj.cells #[Value.slice none (0 : Nat) (0 : Nat), Value.slice none (0 : Nat) (0 : Nat)] (83 : Nat))).heap.size] ∧
 ∃ (q79 : Option Nat),
 w78.cell? { block := w7.heap.size, off := (0 : Nat) } = some (Value.map q79) ∧
 w78.frozen? { block := w7.heap.size, off := (0 : Nat) } = false ∧
 ∃ (q80 : Option Nat),
 w78.cell? { block := w7.heap.size, off := (1 : Nat) } = some (Value.map q80) ∧
 w78.frozen? { block := w7.heap.size, off := (1 : Nat) } = false ∧
 ∃ (q81 : Option Addr),
 ∃ (n82 : Nat),
 ∃ (n83 : Nat),
 w78.cell? { block := w7.heap.size, off := (2 : Nat) } = some (Value.slice q81 n82 n83) ∧
 w78.frozen? { block := w7.heap.size, off := (2 : Nat) } = false ∧
 (Known w78
 [(w7.heap.size, [((0 : Nat), Value.map q79), ((1 : Nat), Value.map q80), ((2 : Nat), Value.slice q81 n82 n83)]),
 ((w7.alloc (Obj.cells #[Value.map none, Value.map none, Value.slice none (0 : Nat) (0 : Nat)] (79 : Nat))).heap.size,
 [((0 : Nat), Value.map q20), ((1 : Nat), Value.map q21), ((2 : Nat), Value.slice q22 n23 n24)]),
 (((w7.alloc (Obj.cells #[Value.map none, Value.map none, Value.slice none (0 : Nat) (0 : Nat)] (79 : Nat))).alloc
 (Obj.cells #[Value.map none, Value.map none, Value.slice none (0 : Nat) (0 : Nat)] (79 : Nat))).heap.size,
 [((0 : Nat), Value.slice q25 n26 n27), ((1 : Nat), Value.slice q28 n29 n30)]),
 ((((w7.alloc (Obj.cells #[Value.map none, Value.map none, Value.slice none (0 : Nat) (0 : Nat)] (79 : Nat))).alloc
 (Obj.cells #[Value.map none, Value.map none, Value.slice none (0 : Nat) (0 : Nat)] (79 : Nat))).alloc
 (Obj.cells #[Value.slice none (0 : Nat) (0 : Nat), Value.slice none (0 : Nat) (0 : Nat)] (83 : Nat))).heap.size,
 [((0 : Nat), Value.slice q31 n32 n33), ((1 : Nat), Value.slice q34 n35 n36)])] →
 Rets Try.prog (38 : Nat)
 #[Value.pointer
 (some
 {block := (w7.alloc (Obj.cells #[Value.map none, Value.map none, Value.slice none (0 : Nat) (0 : Nat)] (79 : Nat))).heap.size, off := (0 : Nat) })]
 w78 fun (v84 : Value) (w85 : World) =>
 v84 = Value.tuple #[] ∧
 Keeps w78 w85
 [w7.heap.size,
 ((w7.alloc (Obj.cells #[Value.map none, Value.map none, Value.slice none (0 : Nat) (0 : Nat)] (79 : Nat))).alloc
 (Obj.cells #[Value.map none, Value.map none, Value.slice none (0 : Nat) (0 : Nat)] (79 : Nat))).heap.size,
 (((w7.alloc (Obj.cells #[Value.map none, Value.map none, Value.slice none (0 : Nat) (0 : Nat)] (79 : Nat))).alloc
 (Obj.cells #[Value.map none, Value.map none, Value.slice none (0 : Nat) (0 : Nat)] (79 : Nat))).alloc
 (Obj.cells #[Value.slice none (0 : Nat) (0 : Nat), Value.slice none (0 : Nat) (0 : Nat)] (83 : Nat))).heap.size] ∧
 ∃ (q86 : Option Nat),
 w85.cell?
 {block := (w7.alloc (Obj.cells #[Value.map none, Value.map none, Value.slice none (0 : Nat) (0 : Nat)] (79 : Nat))).heap.size, off := (0 : Nat) } =
 some (Value.map q86) ∧
 w85.frozen?
 {block := (w7.alloc (Obj.cells #[Value.map none, Value.map none, Value.slice none (0 : Nat) (0 : Nat)] (79 : Nat))).heap.size, off := (0 : Nat) } =
 false ∧
 ∃ (q87 : Option Nat),
 w85.cell?
 {block := (w7.alloc (Obj.cells #[Value.map none, Value.map none, Value.slice none (0 : Nat) (0 : Nat)] (79 : Nat))).heap.size, off := (1 : Nat) } =
 some (Value.map q87) ∧
 w85.frozen?
 {block := (w7.alloc (Obj.cells #[Value.map none, Value.map none, Value.slice none (0 : Nat) (0 : Nat)] (79 : Nat))).heap.size, off := (1 : Nat) } =
 false ∧
 ∃ (q88 : Option Addr),
 ∃ (n89 : Nat),
 ∃ (n90 : Nat),
 w85.cell?
 { block := (w7.alloc (Obj.cells #[Value.map none, Value.map none, Value.slice none (0 : Nat) (0 : Nat)] (79 : Nat))).heap.size, off := (2 : Nat) } =
 some (Value.slice q88 n89 n90) ∧
 w85.frozen?
 { block := (w7.alloc (Obj.cells #[Value.map none, Value.map none, Value.slice none (0 : Nat) (0 : Nat)] (79 : Nat))).heap.size, off := (2 : Nat) } =
 false ∧
 (Known w85
 [(w7.heap.size, [((0 : Nat), Value.map q79), ((1 : Nat), Value.map q80), ((2 : Nat), Value.slice q81 n82 n83)]),
 ((w7.alloc (Obj.cells #[Value.map none, Value.map none, Value.slice none (0 : Nat) (0 : Nat)] (79 : Nat))).heap.size,
 [((0 : Nat), Value.map q86), ((1 : Nat), Value.map q87), ((2 : Nat), Value.slice q88 n89 n90)]),
 (((w7.alloc (Obj.cells #[Value.map none, Value.map none, Value.slice none (0 : Nat) (0 : Nat)] (79 : Nat))).alloc
 (Obj.cells #[Value.map none, Value.map none, Value.slice none (0 : Nat) (0 : Nat)] (79 : Nat))).heap.size,
 [((0 : Nat), Value.slice q25 n26 n27), ((1 : Nat), Value.slice q28 n29 n30)]),
 ((((w7.alloc (Obj.cells #[Value.map none, Value.map none, Value.slice none (0 : Nat) (0 : Nat)] (79 : Nat))).alloc
 (Obj.cells #[Value.map none, Value.map none, Value.slice none (0 : Nat) (0 : Nat)] (79 : Nat))).alloc
 (Obj.cells #[Value.slice none (0 : Nat) (0 : Nat), Value.slice none (0 : Nat) (0 : Nat)] (83 : Nat))).heap.size,
 [((0 : Nat), Value.slice q31 n32 n33), ((1 : Nat), Value.slice q34 n35 n36)])] →
 Rets Try.prog (39 : Nat) #[Value.pointer (some { block := w7.heap.size, off := (0 : Nat) })] w85
 fun (v91 : Value) (w92 : World) =>
 ∃ (q93 : Option Addr),
 ∃ (n94 : Nat),
 ∃ (n95 : Nat),
 v91 = Value.slice q93 n94 n95 ∧
 Keeps w85 w92
 [(w7.alloc
 (Obj.cells #[Value.map none, Value.map none, Value.slice none (0 : Nat) (0 : Nat)]
 (79 : Nat))).heap.size,
 ((w7.alloc
 (Obj.cells #[Value.map none, Value.map none, Value.slice none (0 : Nat) (0 : Nat)]
 (79 : Nat))).alloc
 (Obj.cells #[Value.map none, Value.map none, Value.slice none (0 : Nat) (0 : Nat)]
 (79 : Nat))).heap.size,
 (((w7.alloc
 (Obj.cells #[Value.map none, Value.map none, Value.slice none (0 : Nat) (0 : Nat)]
 (79 : Nat))).alloc
 (Obj.cells #[Value.map none, Value.map none, Value.slice none (0 : Nat) (0 : Nat)]
 (79 : Nat))).alloc
 (Obj.cells #[Value.slice none (0 : Nat) (0 : Nat), Value.slice none (0 : Nat) (0 : Nat)]
 (83 : Nat))).heap.size] ∧
 ∃ (q96 : Option Nat),
 w92.cell? { block := w7.heap.size, off := (0 : Nat) } = some (Value.map q96) ∧
 w92.frozen? { block := w7.heap.size, off := (0 : Nat) } = false ∧
 ∃ (q97 : Option Nat),
 w92.cell? { block := w7.heap.size, off := (1 : Nat) } = some (Value.map q97) ∧
 w92.frozen? { block := w7.heap.size, off := (1 : Nat) } = false ∧
 ∃ (q98 : Option Addr),
 ∃ (n99 : Nat),
 ∃ (n100 : Nat),
 w92.cell? { block := w7.heap.size, off := (2 : Nat) } = some (Value.slice q98 n99 n100) ∧
 w92.frozen? { block := w7.heap.size, off := (2 : Nat) } = false ∧
 ∃ (I101 :
 Int →
 Option Nat →
 Option Nat →
 Option Addr →
 Nat →
 Nat →
 Option Nat →
 Option Nat →
 Option Addr →
 Nat →
 Nat →
 Option Addr →
 Nat →
 Nat →
 Option Addr →
 Nat →
 Nat →
 Option Addr →
 Nat → Nat → Option Addr → Nat → Nat → World → Prop),
 ∃ (I102 :
 Int →
 Option Nat →
 Option Nat →
 Option Addr →
 Nat →
 Nat →
 Option Nat →
 Option Nat →
 Option Addr →
 Nat →
 Nat →
 Option Addr →
 Nat →
 Nat →
 Option Addr →
 Nat →
 Nat →
 Option Addr →
 Nat →
 Nat → Option Addr → Nat → Nat → World → Nat),
 I101 (0 : Int) q96 q97 q98 n99 n100 q86 q87 q88 n89 n90 q25 n26 n27 q28 n29 n30 q31
 n32 n33 q34 n35 n36 w92 ∧
 ∀ (i103 : Int) (q104 q105 : Option Nat) (q106 : Option Addr) (n107 n108 : Nat)
 (q109 q110 : Option Nat) (q111 : Option Addr) (n112 n113 : Nat)
 (q114 : Option Addr) (n115 n116 : Nat) (q117 : Option Addr) (n118 n119 : Nat)
 (q120 : Option Addr) (n121 n122 : Nat) (q123 : Option Addr) (n124 n125 : Nat)
 (w126 : World),
 I101 i103 q104 q105 q106 n107 n108 q109 q110 q111 n112 n113 q114 n115 n116 q117
 n118 n119 q120 n121 n122 q123 n124 n125 w126 →
 Known w126
 [(w7.heap.size,
 [((0 : Nat), Value.map q104), ((1 : Nat), Value.map q105),
 ((2 : Nat), Value.slice q106 n107 n108)]),
 ((w7.alloc
 (Obj.cells
 #[Value.map none, Value.map none,
 Value.slice none (0 : Nat) (0 : Nat)]
 (79 : Nat))).heap.size,
 [((0 : Nat), Value.map q109), ((1 : Nat), Value.map q110),
 ((2 : Nat), Value.slice q111 n112 n113)]),
 (((w7.alloc
 (Obj.cells
 #[Value.map none, Value.map none,
 Value.slice none (0 : Nat) (0 : Nat)]
 (79 : Nat))).alloc
 (Obj.cells
 #[Value.map none, Value.map none,
 Value.slice none (0 : Nat) (0 : Nat)]
 (79 : Nat))).heap.size,
 [((0 : Nat), Value.slice q114 n115 n116),
 ((1 : Nat), Value.slice q117 n118 n119)]),
 ((((w7.alloc
 (Obj.cells
 #[Value.map none, Value.map none,
 Value.slice none (0 : Nat) (0 : Nat)]
 (79 : Nat))).alloc
 (Obj.cells
 #[Value.map none, Value.map none,
 Value.slice none (0 : Nat) (0 : Nat)]
 (79 : Nat))).alloc
 (Obj.cells
 #[Value.slice none (0 : Nat) (0 : Nat),
 Value.slice none (0 : Nat) (0 : Nat)]
 (83 : Nat))).heap.size,
 [((0 : Nat), Value.slice q120 n121 n122),
 ((1 : Nat), Value.slice q123 n124 n125)])] →
 bif decide (i103 < (↑n1 : Int)) then
 ((0 : Int) ≤ i103 ∧ i103 < (↑n1 : Int)) ∧
 SX.Ptr p1 fun (a127 : Addr) =>
 ∃ (i128 : Int),
 w126.cell? ((a127.add (i103.toNat * (4 : Nat))).add (0 : Nat)) =
 some (Value.int IntKind.i64 i128) ∧
 bif decide (i128 ≥ (0 : Int)) then
 ((0 : Int) ≤ i103 ∧ i103 < (↑n1 : Int)) ∧
 SX.Ptr p1 fun (a129 : Addr) =>
 ∃ (i130 : Int),
 w126.cell?
 ((a129.add (i103.toNat * (4 : Nat))).add (0 : Nat)) =
 some (Value.int IntKind.i64 i130) ∧
 bif decide (i130 ≤ (2 : Int)) then
 ((0 : Int) ≤ i103 ∧ i103 < (↑n1 : Int)) ∧
 SX.Ptr p1 fun (a131 : Addr) =>
 ∃ (i132 : Int),
 ∃ (s133 : ByteArray),
 ∃ (s134 : ByteArray),
 ∃ (i135 : Int),
 (w126.cell?
 ((a131.add
 (i103.toNat * (4 : Nat))).add
 (0 : Nat)) =
 some (Value.int IntKind.i64 i132) ∧
 w126.cell?
 ((a131.add
 (i103.toNat *
 (4 : Nat))).add
 (1 : Nat)) =
 some (Value.string s133) ∧
 w126.cell?
 ((a131.add
 (i103.toNat *
 (4 : Nat))).add
 (2 : Nat)) =
 some (Value.string s134) ∧
 w126.cell?
 ((a131.add
 (i103.toNat *
 (4 : Nat))).add
 (3 : Nat)) =
 some
 (Value.int IntKind.i64 i135) ∧
 True) ∧
 (Known w126
 [(w7.heap.size,
 [((0 : Nat), Value.map q104),
 ((1 : Nat), Value.map q105),
 ((2 : Nat),
 Value.slice q106 n107 n108)]),
 ((w7.alloc
 (Obj.cells
 #[Value.map none,
 Value.map none,
 Value.slice none
 (0 : Nat) (0 : Nat)]
 (79 : Nat))).heap.size,
 [((0 : Nat), Value.map q109),
 ((1 : Nat), Value.map q110),
 ((2 : Nat),
 Value.slice q111 n112 n113)]),
 (((w7.alloc
 (Obj.cells
 #[Value.map none,
 Value.map none,
 Value.slice none
 (0 : Nat)
 (0 : Nat)]
 (79 : Nat))).alloc
 (Obj.cells
 #[Value.map none,
 Value.map none,
 Value.slice none
 (0 : Nat) (0 : Nat)]
 (79 : Nat))).heap.size,
 [((0 : Nat),
 Value.slice q114 n115 n116),
 ((1 : Nat),
 Value.slice q117 n118 n119)]),
 ((((w7.alloc
 (Obj.cells
 #[Value.map none,
 Value.map none,
 Value.slice none
 (0 : Nat)
 (0 : Nat)]
 (79 : Nat))).alloc
 (Obj.cells
 #[Value.map none,
 Value.map none,
 Value.slice none
 (0 : Nat)
 (0 : Nat)]
 (79 : Nat))).alloc
 (Obj.cells
 #[Value.slice none
 (0 : Nat) (0 : Nat),
 Value.slice none
 (0 : Nat) (0 : Nat)]
 (83 : Nat))).heap.size,
 [((0 : Nat),
 Value.slice q120 n121 n122),
 ((1 : Nat),
 Value.slice q123 n124
 n125)])] →
 Rets Try.prog (37 : Nat)
 #[Value.pointer
 (some
 {block := w7.heap.size, off := (0 : Nat) }),
 Value.pointer
 (some
 { block := ((w7.alloc (Obj.cells #[Value.map none, Value.map none, Value.slice none (0 : Nat) (0 : Nat)] (79 : Nat))).alloc (Obj.cells #[Value.map none, Value.map none, Value.slice none (0 : Nat) (0 : Nat)] (79 : Nat))).heap.size, off := (0 : Nat) }),
 Value.agg
 #[Value.int IntKind.i64 i132,
 Value.string s133,
 Value.string s134,
 Value.int IntKind.i64 i135]]
 w126
 fun (v136 : Value) (w137 : World) =>
 ∃ (t138 : Bool),
 v136 = Value.bool t138 ∧
 Keeps w126 w137
 [(w7.alloc
 (Obj.cells
 #[Value.map none,
 Value.map none,
 Value.slice none
 (0 : Nat)
 (0 : Nat)]
 (79 :
 Nat))).heap.size,
 (((w7.alloc
 (Obj.cells
 #[Value.map
 none,
 Value.map
 none,
 Value.slice
 none
 (0 :
 Nat)
 (0 :
 Nat)]
 (79 :
 Nat))).alloc
 (Obj.cells
 #[Value.map
 none,
 Value.map
 none,
 Value.slice
 none
 (0 : Nat)
 (0 : Nat)]
 (79 :
 Nat))).alloc
 (Obj.cells
 #[Value.slice none
 (0 : Nat)
 (0 : Nat),
 Value.slice none
 (0 : Nat)
 (0 : Nat)]
 (83 :
 Nat))).heap.size] ∧
 ∃ (q139 : Option Nat),
 w137.cell?
 {block := w7.heap.size, off := (0 : Nat) } =
 some (Value.map q139) ∧
 w137.frozen?
 { block := w7.heap.size, off := (0 : Nat) } =
 false ∧
 ∃ (q140 : Option Nat),
 w137.cell?
 { block := w7.heap.size, off := (1 : Nat) } =
 some
 (Value.map q140) ∧
 w137.frozen?
 { block := w7.heap.size, off := (1 : Nat) } =
 false ∧
 ∃ (q141 :
 Option Addr),
 ∃ (n142 : Nat),
 ∃ (n143 : Nat),
 w137.cell?
 { block := w7.heap.size, off := (2 : Nat) } =
 some
 (Value.slice
 q141
 n142
 n143) ∧
 w137.frozen?
 { block := w7.heap.size, off := (2 : Nat) } =
 false ∧
 ∃ (q144 :
 Option
 Addr),
 ∃ (n145
 :
 Nat),
 ∃
 (n146
 :
 Nat),
 w137.cell?
 { block := ((w7.alloc (Obj.cells #[Value.map none, Value.map none, Value.slice none (0 : Nat) (0 : Nat)] (79 : Nat))).alloc (Obj.cells #[Value.map none, Value.map none, Value.slice none (0 : Nat) (0 : Nat)] (79 : Nat))).heap.size, off := (0 : Nat) } =
 some
 (Value.slice
 q144
 n145
 n146) ∧
 w137.frozen?
 { block := ((w7.alloc (Obj.cells #[Value.map none, Value.map none, Value.slice none (0 : Nat) (0 : Nat)] (79 : Nat))).alloc (Obj.cells #[Value.map none, Value.map none, Value.slice none (0 : Nat) (0 : Nat)] (79 : Nat))).heap.size, off := (0 : Nat) } =
 false ∧
 ∃
 (q147
 :
 Option
 Addr),
 ∃
 (n148
 :
 Nat),
 ∃
 (n149
 :
 Nat),
 w137.cell?
 { block := ((w7.alloc (Obj.cells #[Value.map none, Value.map none, Value.slice none (0 : Nat) (0 : Nat)] (79 : Nat))).alloc (Obj.cells #[Value.map none, Value.map none, Value.slice none (0 : Nat) (0 : Nat)] (79 : Nat))).heap.size, off := (1 : Nat) } =
 some
 (Value.slice
 q147
 n148
 n149) ∧
 w137.frozen?
 { block := ((w7.alloc (Obj.cells #[Value.map none, Value.map none, Value.slice none (0 : Nat) (0 : Nat)] (79 : Nat))).alloc (Obj.cells #[Value.map none, Value.map none, Value.slice none (0 : Nat) (0 : Nat)] (79 : Nat))).heap.size, off := (1 : Nat) } =
 false ∧
 ((0 :
 Int) ≤
 i103 ∧
 i103 <
 (↑n1 :
 Int)) ∧
 SX.Ptr
 p1
 fun
 (a150 :
 Addr) =>
 ∃
 (i151
 :
 Int),
 ∃
 (s152
 :
 ByteArray),
 ∃
 (s153
 :
 ByteArray),
 ∃
 (i154
 :
 Int),
 (w137.cell?
 ((a150.add
 (i103.toNat *
 (4 :
 Nat))).add
 (0 :
 Nat)) =
 some
 (Value.int
 IntKind.i64
 i151) ∧
 w137.cell?
 ((a150.add
 (i103.toNat *
 (4 :
 Nat))).add
 (1 :
 Nat)) =
 some
 (Value.string
 s152) ∧
 w137.cell?
 ((a150.add
 (i103.toNat *
 (4 :
 Nat))).add
 (2 :
 Nat)) =
 some
 (Value.string
 s153) ∧
 w137.cell?
 ((a150.add
 (i103.toNat *
 (4 :
 Nat))).add
 (3 :
 Nat)) =
 some
 (Value.int
 IntKind.i64
 i154) ∧
 True) ∧
 (Known
 w137
 [(w7.heap.size,
 [((0 :
 Nat),
 Value.map
 q139),
 ((1 :
 Nat),
 Value.map
 q140),
 ((2 :
 Nat),
 Value.slice
 q141
 n142
 n143)]),
 ((w7.alloc
 (Obj.cells
 #[Value.map
 none,
 Value.map
 none,
 Value.slice
 none
 (0 :
 Nat)
 (0 :
 Nat)]
 (79 :
 Nat))).heap.size,
 [((0 :
 Nat),
 Value.map
 q109),
 ((1 :
 Nat),
 Value.map
 q110),
 ((2 :
 Nat),
 Value.slice
 q111
 n112
 n113)]),
 (((w7.alloc
 (Obj.cells
 #[Value.map
 none,
 Value.map
 none,
 Value.slice
 none
 (0 :
 Nat)
 (0 :
 Nat)]
 (79 :
 Nat))).alloc
 (Obj.cells
 #[Value.map
 none,
 Value.map
 none,
 Value.slice
 none
 (0 :
 Nat)
 (0 :
 Nat)]
 (79 :
 Nat))).heap.size,
 [((0 :
 Nat),
 Value.slice
 q144
 n145
 n146),
 ((1 :
 Nat),
 Value.slice
 q147
 n148
 n149)]),
 ((((w7.alloc
 (Obj.cells
 #[Value.map
 none,
 Value.map
 none,
 Value.slice
 none
 (0 :
 Nat)
 (0 :
 Nat)]
 (79 :
 Nat))).alloc
 (Obj.cells
 #[Value.map
 none,
 Value.map
 none,
 Value.slice
 none
 (0 :
 Nat)
 (0 :
 Nat)]
 (79 :
 Nat))).alloc
 (Obj.cells
 #[Value.slice
 none
 (0 :
 Nat)
 (0 :
 Nat),
 Value.slice
 none
 (0 :
 Nat)
 (0 :
 Nat)]
 (83 :
 Nat))).heap.size,
 [((0 :
 Nat),
 Value.slice
 q120
 n121
 n122),
 ((1 :
 Nat),
 Value.slice
 q123
 n124
 n125)])] →
 Rets
 Try.prog
 (37 :
 Nat)
 #[Value.pointer
 (some
 { block := (w7.alloc (Obj.cells #[Value.map none, Value.map none, Value.slice none (0 : Nat) (0 : Nat)] (79 : Nat))).heap.size, off := (0 : Nat) }),
 Value.pointer
 (some
 { block := (((w7.alloc (Obj.cells #[Value.map none, Value.map none, Value.slice none (0 : Nat) (0 : Nat)] (79 : Nat))).alloc (Obj.cells #[Value.map none, Value.map none, Value.slice none (0 : Nat) (0 : Nat)] (79 : Nat))).alloc (Obj.cells #[Value.slice none (0 : Nat) (0 : Nat), Value.slice none (0 : Nat) (0 : Nat)] (83 : Nat))).heap.size, off := (0 : Nat) }),
 Value.agg
 #[Value.int
 IntKind.i64
 i151,
 Value.string
 s152,
 Value.string
 s153,
 Value.int
 IntKind.i64
 i154]]
 w137
 fun
 (v155 :
 Value)
 (w156 :
 World) =>
 ∃
 (t157
 :
 Bool),
 v155 =
 Value.bool
 t157 ∧
 Keeps
 w137
 w156
 [w7.heap.size,
 ((w7.alloc
 (Obj.cells
 #[Value.map
 none,
 Value.map
 none,
 Value.slice
 none
 (0 :
 Nat)
 (0 :
 Nat)]
 (79 :
 Nat))).alloc
 (Obj.cells
 #[Value.map
 none,
 Value.map
 none,
 Value.slice
 none
 (0 :
 Nat)
 (0 :
 Nat)]
 (79 :
 Nat))).heap.size] ∧
 ∃
 (q158
 :
 Option
 Nat),
 w156.cell?
 { block := (w7.alloc (Obj.cells #[Value.map none, Value.map none, Value.slice none (0 : Nat) (0 : Nat)] (79 : Nat))).heap.size, off := (0 : Nat) } =
 some
 (Value.map
 q158) ∧
 w156.frozen?
 { block := (w7.alloc (Obj.cells #[Value.map none, Value.map none, Value.slice none (0 : Nat) (0 : Nat)] (79 : Nat))).heap.size, off := (0 : Nat) } =
 false ∧
 ∃
 (q159
 :
 Option
 Nat),
 w156.cell?
 { block := (w7.alloc (Obj.cells #[Value.map none, Value.map none, Value.slice none (0 : Nat) (0 : Nat)] (79 : Nat))).heap.size, off := (1 : Nat) } =
 some
 (Value.map
 q159) ∧
 w156.frozen?
 { block := (w7.alloc (Obj.cells #[Value.map none, Value.map none, Value.slice none (0 : Nat) (0 : Nat)] (79 : Nat))).heap.size, off := (1 : Nat) } =
 false ∧
 ∃
 (q160
 :
 Option
 Addr),
 ∃
 (n161
 :
 Nat),
 ∃
 (n162
 :
 Nat),
 w156.cell?
 { block := (w7.alloc (Obj.cells #[Value.map none, Value.map none, Value.slice none (0 : Nat) (0 : Nat)] (79 : Nat))).heap.size, off := (2 : Nat) } =
 some
 (Value.slice
 q160
 n161
 n162) ∧
 w156.frozen?
 { block := (w7.alloc (Obj.cells #[Value.map none, Value.map none, Value.slice none (0 : Nat) (0 : Nat)] (79 : Nat))).heap.size, off := (2 : Nat) } =
 false ∧
 ∃
 (q163
 :
 Option
 Addr),
 ∃
 (n164
 :
 Nat),
 ∃
 (n165
 :
 Nat),
 w156.cell?
 { block := (((w7.alloc (Obj.cells #[Value.map none, Value.map none, Value.slice none (0 : Nat) (0 : Nat)] (79 : Nat))).alloc (Obj.cells #[Value.map none, Value.map none, Value.slice none (0 : Nat) (0 : Nat)] (79 : Nat))).alloc (Obj.cells #[Value.slice none (0 : Nat) (0 : Nat), Value.slice none (0 : Nat) (0 : Nat)] (83 : Nat))).heap.size, off := (0 : Nat) } =
 some
 (Value.slice
 q163
 n164
 n165) ∧
 w156.frozen?
 { block := (((w7.alloc (Obj.cells #[Value.map none, Value.map none, Value.slice none (0 : Nat) (0 : Nat)] (79 : Nat))).alloc (Obj.cells #[Value.map none, Value.map none, Value.slice none (0 : Nat) (0 : Nat)] (79 : Nat))).alloc (Obj.cells #[Value.slice none (0 : Nat) (0 : Nat), Value.slice none (0 : Nat) (0 : Nat)] (83 : Nat))).heap.size, off := (0 : Nat) } =
 false ∧
 ∃
 (q166
 :
 Option
 Addr),
 ∃
 (n167
 :
 Nat),
 ∃
 (n168
 :
 Nat),
 w156.cell?
 { block := (((w7.alloc (Obj.cells #[Value.map none, Value.map none, Value.slice none (0 : Nat) (0 : Nat)] (79 : Nat))).alloc (Obj.cells #[Value.map none, Value.map none, Value.slice none (0 : Nat) (0 : Nat)] (79 : Nat))).alloc (Obj.cells #[Value.slice none (0 : Nat) (0 : Nat), Value.slice none (0 : Nat) (0 : Nat)] (83 : Nat))).heap.size, off := (1 : Nat) } =
 some
 (Value.slice
 q166
 n167
 n168) ∧
 w156.frozen?
 { block := (((w7.alloc (Obj.cells #[Value.map none, Value.map none, Value.slice none (0 : Nat) (0 : Nat)] (79 : Nat))).alloc (Obj.cells #[Value.map none, Value.map none, Value.slice none (0 : Nat) (0 : Nat)] (79 : Nat))).alloc (Obj.cells #[Value.slice none (0 : Nat) (0 : Nat), Value.slice none (0 : Nat) (0 : Nat)] (83 : Nat))).heap.size, off := (1 : Nat) } =
 false ∧
 Wr
 IntKind.i64
 (i103 +
 (1 :
 Int))
 fun
 (i169 :
 Int) =>
 I101
 i169
 q139
 q140
 q141
 n142
 n143
 q158
 q159
 q160
 n161
 n162
 q144
 n145
 n146
 q147
 n148
 n149
 q163
 n164
 n165
 q166
 n167
 n168
 w156 ∧
 I102
 i169
 q139
 q140
 q141
 n142
 n143
 q158
 q159
 q160
 n161
 n162
 q144
 n145
 n146
 q147
 n148
 n149
 q163
 n164
 n165
 q166
 n167
 n168
 w156 <
 I102
 i103
 q104
 q105
 q106
 n107
 n108
 q109
 q110
 q111
 n112
 n113
 q114
 n115
 n116
 q117
 n118
 n119
 q120
 n121
 n122
 q123
 n124
 n125
 w126))
 else
 Wr IntKind.i64 (i103 + (1 : Int)) fun (i170 : Int) =>
 I101 i170 q104 q105 q106 n107 n108 q109 q110 q111 n112
 n113 q114 n115 n116 q117 n118 n119 q120 n121 n122
 q123 n124 n125 w126 ∧
 I102 i170 q104 q105 q106 n107 n108 q109 q110 q111
 n112 n113 q114 n115 n116 q117 n118 n119 q120
 n121 n122 q123 n124 n125 w126 <
 I102 i103 q104 q105 q106 n107 n108 q109 q110 q111
 n112 n113 q114 n115 n116 q117 n118 n119 q120
 n121 n122 q123 n124 n125 w126
 else
 Wr IntKind.i64 (i103 + (1 : Int)) fun (i171 : Int) =>
 I101 i171 q104 q105 q106 n107 n108 q109 q110 q111 n112 n113 q114
 n115 n116 q117 n118 n119 q120 n121 n122 q123 n124 n125
 w126 ∧
 I102 i171 q104 q105 q106 n107 n108 q109 q110 q111 n112 n113
 q114 n115 n116 q117 n118 n119 q120 n121 n122 q123 n124
 n125 w126 <
 I102 i103 q104 q105 q106 n107 n108 q109 q110 q111 n112 n113
 q114 n115 n116 q117 n118 n119 q120 n121 n122 q123 n124
 n125 w126
 else
 Known w126
 [(w7.heap.size,
 [((0 : Nat), Value.map q104), ((1 : Nat), Value.map q105),
 ((2 : Nat), Value.slice q106 n107 n108)]),
 ((w7.alloc
 (Obj.cells
 #[Value.map none, Value.map none,
 Value.slice none (0 : Nat) (0 : Nat)]
 (79 : Nat))).heap.size,
 [((0 : Nat), Value.map q109), ((1 : Nat), Value.map q110),
 ((2 : Nat), Value.slice q111 n112 n113)]),
 (((w7.alloc
 (Obj.cells
 #[Value.map none, Value.map none,
 Value.slice none (0 : Nat) (0 : Nat)]
 (79 : Nat))).alloc
 (Obj.cells
 #[Value.map none, Value.map none,
 Value.slice none (0 : Nat) (0 : Nat)]
 (79 : Nat))).heap.size,
 [((0 : Nat), Value.slice q114 n115 n116),
 ((1 : Nat), Value.slice q117 n118 n119)]),
 ((((w7.alloc
 (Obj.cells
 #[Value.map none, Value.map none,
 Value.slice none (0 : Nat) (0 : Nat)]
 (79 : Nat))).alloc
 (Obj.cells
 #[Value.map none, Value.map none,
 Value.slice none (0 : Nat) (0 : Nat)]
 (79 : Nat))).alloc
 (Obj.cells
 #[Value.slice none (0 : Nat) (0 : Nat),
 Value.slice none (0 : Nat) (0 : Nat)]
 (83 : Nat))).heap.size,
 [((0 : Nat), Value.slice q120 n121 n122),
 ((1 : Nat), Value.slice q123 n124 n125)])] →
 Rets Try.prog (39 : Nat)
 #[Value.pointer (some { block := w7.heap.size, off := (0 : Nat) })] w126
 fun (v172 : Value) (w173 : World) =>
 ∃ (q174 : Option Addr),
 ∃ (n175 : Nat),
 ∃ (n176 : Nat),
 v172 = Value.slice q174 n175 n176 ∧
 Keeps w126 w173
 [(w7.alloc
 (Obj.cells
 #[Value.map none, Value.map none,
 Value.slice none (0 : Nat) (0 : Nat)]
 (79 : Nat))).heap.size,
 ((w7.alloc
 (Obj.cells
 #[Value.map none, Value.map none,
 Value.slice none (0 : Nat) (0 : Nat)]
 (79 : Nat))).alloc
 (Obj.cells
 #[Value.map none, Value.map none,
 Value.slice none (0 : Nat) (0 : Nat)]
 (79 : Nat))).heap.size,
 (((w7.alloc
 (Obj.cells
 #[Value.map none, Value.map none,
 Value.slice none (0 : Nat) (0 : Nat)]
 (79 : Nat))).alloc
 (Obj.cells
 #[Value.map none, Value.map none,
 Value.slice none (0 : Nat) (0 : Nat)]
 (79 : Nat))).alloc
 (Obj.cells
 #[Value.slice none (0 : Nat) (0 : Nat),
 Value.slice none (0 : Nat) (0 : Nat)]
 (83 : Nat))).heap.size] ∧
 ∃ (q177 : Option Nat),
 w173.cell? { block := w7.heap.size, off := (0 : Nat) } =
 some (Value.map q177) ∧
 w173.frozen? { block := w7.heap.size, off := (0 : Nat) } =
 false ∧
 ∃ (q178 : Option Nat),
 w173.cell?
 {block := w7.heap.size, off := (1 : Nat) } =
 some (Value.map q178) ∧
 w173.frozen?
 {block := w7.heap.size, off := (1 : Nat) } =
 false ∧
 ∃ (q179 : Option Addr),
 ∃ (n180 : Nat),
 ∃ (n181 : Nat),
 w173.cell?
 {block := w7.heap.size, off := (2 : Nat) } =
 some (Value.slice q179 n180 n181) ∧
 w173.frozen?
 {block := w7.heap.size, off := (2 : Nat) } =
 false ∧
 (Known w173
 [(w7.heap.size,
 [((0 : Nat), Value.map q177),
 ((1 : Nat), Value.map q178),
 ((2 : Nat),
 Value.slice q179 n180
 n181)]),
 ((w7.alloc
 (Obj.cells
 #[Value.map none,
 Value.map none,
 Value.slice none
 (0 : Nat) (0 : Nat)]
 (79 : Nat))).heap.size,
 [((0 : Nat), Value.map q109),
 ((1 : Nat), Value.map q110),
 ((2 : Nat),
 Value.slice q111 n112
 n113)]),
 (((w7.alloc
 (Obj.cells
 #[Value.map none,
 Value.map none,
 Value.slice none
 (0 : Nat)
 (0 : Nat)]
 (79 : Nat))).alloc
 (Obj.cells
 #[Value.map none,
 Value.map none,
 Value.slice none
 (0 : Nat) (0 : Nat)]
 (79 : Nat))).heap.size,
 [((0 : Nat),
 Value.slice q114 n115 n116),
 ((1 : Nat),
 Value.slice q117 n118
 n119)]),
 ((((w7.alloc
 (Obj.cells
 #[Value.map
 none,
 Value.map
 none,
 Value.slice
 none
 (0 : Nat)
 (0 : Nat)]
 (79 :
 Nat))).alloc
 (Obj.cells
 #[Value.map none,
 Value.map none,
 Value.slice none
 (0 : Nat)
 (0 : Nat)]
 (79 : Nat))).alloc
 (Obj.cells
 #[Value.slice none
 (0 : Nat) (0 : Nat),
 Value.slice none
 (0 : Nat) (0 : Nat)]
 (83 : Nat))).heap.size,
 [((0 : Nat),
 Value.slice q120 n121 n122),
 ((1 : Nat),
 Value.slice q123 n124
 n125)])] →
 Rets Try.prog (41 : Nat)
 #[Value.pointer
 (some
 {block := w7.heap.size, off := (0 : Nat) })]
 w173
 fun (v182 : Value) (w183 : World) =>
 ∃ (i184 : Int),
 v182 =
 Value.int IntKind.i64 i184 ∧
 Keeps w173 w183
 [(w7.alloc
 (Obj.cells
 #[Value.map none,
 Value.map none,
 Value.slice none
 (0 : Nat)
 (0 : Nat)]
 (79 :
 Nat))).heap.size,
 ((w7.alloc
 (Obj.cells
 #[Value.map
 none,
 Value.map
 none,
 Value.slice
 none
 (0 : Nat)
 (0 : Nat)]
 (79 :
 Nat))).alloc
 (Obj.cells
 #[Value.map none,
 Value.map none,
 Value.slice none
 (0 : Nat)
 (0 : Nat)]
 (79 :
 Nat))).heap.size,
 (((w7.alloc
 (Obj.cells
 #[Value.map
 none,
 Value.map
 none,
 Value.slice
 none
 (0 :
 Nat)
 (0 :
 Nat)]
 (79 :
 Nat))).alloc
 (Obj.cells
 #[Value.map
 none,
 Value.map
 none,
 Value.slice
 none
 (0 : Nat)
 (0 : Nat)]
 (79 :
 Nat))).alloc
 (Obj.cells
 #[Value.slice none
 (0 : Nat)
 (0 : Nat),
 Value.slice none
 (0 : Nat)
 (0 : Nat)]
 (83 :
 Nat))).heap.size] ∧
 ∃ (q185 : Option Nat),
 w183.cell?
 { block := w7.heap.size, off := (0 : Nat) } =
 some (Value.map q185) ∧
 w183.frozen?
 { block := w7.heap.size, off := (0 : Nat) } =
 false ∧
 ∃ (q186 : Option Nat),
 w183.cell?
 { block := w7.heap.size, off := (1 : Nat) } =
 some
 (Value.map
 q186) ∧
 w183.frozen?
 { block := w7.heap.size, off := (1 : Nat) } =
 false ∧
 ∃ (q187 :
 Option Addr),
 ∃ (n188 : Nat),
 ∃ (n189 :
 Nat),
 w183.cell?
 { block := w7.heap.size, off := (2 : Nat) } =
 some
 (Value.slice
 q187
 n188
 n189) ∧
 w183.frozen?
 { block := w7.heap.size, off := (2 : Nat) } =
 false ∧
 (Known
 w183
 [(w7.heap.size,
 [((0 :
 Nat),
 Value.map
 q185),
 ((1 :
 Nat),
 Value.map
 q186),
 ((2 :
 Nat),
 Value.slice
 q187
 n188
 n189)]),
 ((w7.alloc
 (Obj.cells
 #[Value.map
 none,
 Value.map
 none,
 Value.slice
 none
 (0 :
 Nat)
 (0 :
 Nat)]
 (79 :
 Nat))).heap.size,
 [((0 :
 Nat),
 Value.map
 q109),
 ((1 :
 Nat),
 Value.map
 q110),
 ((2 :
 Nat),
 Value.slice
 q111
 n112
 n113)]),
 (((w7.alloc
 (Obj.cells
 #[Value.map
 none,
 Value.map
 none,
 Value.slice
 none
 (0 :
 Nat)
 (0 :
 Nat)]
 (79 :
 Nat))).alloc
 (Obj.cells
 #[Value.map
 none,
 Value.map
 none,
 Value.slice
 none
 (0 :
 Nat)
 (0 :
 Nat)]
 (79 :
 Nat))).heap.size,
 [((0 :
 Nat),
 Value.slice
 q114
 n115
 n116),
 ((1 :
 Nat),
 Value.slice
 q117
 n118
 n119)]),
 ((((w7.alloc
 (Obj.cells
 #[Value.map
 none,
 Value.map
 none,
 Value.slice
 none
 (0 :
 Nat)
 (0 :
 Nat)]
 (79 :
 Nat))).alloc
 (Obj.cells
 #[Value.map
 none,
 Value.map
 none,
 Value.slice
 none
 (0 :
 Nat)
 (0 :
 Nat)]
 (79 :
 Nat))).alloc
 (Obj.cells
 #[Value.slice
 none
 (0 :
 Nat)
 (0 :
 Nat),
 Value.slice
 none
 (0 :
 Nat)
 (0 :
 Nat)]
 (83 :
 Nat))).heap.size,
 [((0 :
 Nat),
 Value.slice
 q120
 n121
 n122),
 ((1 :
 Nat),
 Value.slice
 q123
 n124
 n125)])] →
 Rets
 Try.prog
 (40 :
 Nat)
 #[Value.pointer
 (some
 { block := w7.heap.size, off := (0 : Nat) }),
 Value.int
 IntKind.i64
 i184]
 w183
 fun
 (v190 :
 Value)
 (w191 :
 World) =>
 v190 =
 Value.tuple
 #[] ∧
 Keeps
 w183
 w191
 [(w7.alloc
 (Obj.cells
 #[Value.map
 none,
 Value.map
 none,
 Value.slice
 none
 (0 :
 Nat)
 (0 :
 Nat)]
 (79 :
 Nat))).heap.size,
 ((w7.alloc
 (Obj.cells
 #[Value.map
 none,
 Value.map
 none,
 Value.slice
 none
 (0 :
 Nat)
 (0 :
 Nat)]
 (79 :
 Nat))).alloc
 (Obj.cells
 #[Value.map
 none,
 Value.map
 none,
 Value.slice
 none
 (0 :
 Nat)
 (0 :
 Nat)]
 (79 :
 Nat))).heap.size,
 (((w7.alloc
 (Obj.cells
 #[Value.map
 none,
 Value.map
 none,
 Value.slice
 none
 (0 :
 Nat)
 (0 :
 Nat)]
 (79 :
 Nat))).alloc
 (Obj.cells
 #[Value.map
 none,
 Value.map
 none,
 Value.slice
 none
 (0 :
 Nat)
 (0 :
 Nat)]
 (79 :
 Nat))).alloc
 (Obj.cells
 #[Value.slice
 none
 (0 :
 Nat)
 (0 :
 Nat),
 Value.slice
 none
 (0 :
 Nat)
 (0 :
 Nat)]
 (83 :
 Nat))).heap.size] ∧
 ∃
 (q192
 :
 Option
 Nat),
 w191.cell?
 { block := w7.heap.size, off := (0 : Nat) } =
 some
 (Value.map
 q192) ∧
 w191.frozen?
 { block := w7.heap.size, off := (0 : Nat) } =
 false ∧
 ∃
 (q193
 :
 Option
 Nat),
 w191.cell?
 { block := w7.heap.size, off := (1 : Nat) } =
 some
 (Value.map
 q193) ∧
 w191.frozen?
 { block := w7.heap.size, off := (1 : Nat) } =
 false ∧
 ∃
 (q194
 :
 Option
 Addr),
 ∃
 (n195
 :
 Nat),
 ∃
 (n196
 :
 Nat),
 w191.cell?
 { block := w7.heap.size, off := (2 : Nat) } =
 some
 (Value.slice
 q194
 n195
 n196) ∧
 w191.frozen?
 { block := w7.heap.size, off := (2 : Nat) } =
 false ∧
 (Known
 w191
 [(w7.heap.size,
 [((0 :
 Nat),
 Value.map
 q192),
 ((1 :
 Nat),
 Value.map
 q193),
 ((2 :
 Nat),
 Value.slice
 q194
 n195
 n196)]),
 ((w7.alloc
 (Obj.cells
 #[Value.map
 none,
 Value.map
 none,
 Value.slice
 none
 (0 :
 Nat)
 (0 :
 Nat)]
 (79 :
 Nat))).heap.size,
 [((0 :
 Nat),
 Value.map
 q109),
 ((1 :
 Nat),
 Value.map
 q110),
 ((2 :
 Nat),
 Value.slice
 q111
 n112
 n113)]),
 (((w7.alloc
 (Obj.cells
 #[Value.map
 none,
 Value.map
 none,
 Value.slice
 none
 (0 :
 Nat)
 (0 :
 Nat)]
 (79 :
 Nat))).alloc
 (Obj.cells
 #[Value.map
 none,
 Value.map
 none,
 Value.slice
 none
 (0 :
 Nat)
 (0 :
 Nat)]
 (79 :
 Nat))).heap.size,
 [((0 :
 Nat),
 Value.slice
 q114
 n115
 n116),
 ((1 :
 Nat),
 Value.slice
 q117
 n118
 n119)]),
 ((((w7.alloc
 (Obj.cells
 #[Value.map
 none,
 Value.map
 none,
 Value.slice
 none
 (0 :
 Nat)
 (0 :
 Nat)]
 (79 :
 Nat))).alloc
 (Obj.cells
 #[Value.map
 none,
 Value.map
 none,
 Value.slice
 none
 (0 :
 Nat)
 (0 :
 Nat)]
 (79 :
 Nat))).alloc
 (Obj.cells
 #[Value.slice
 none
 (0 :
 Nat)
 (0 :
 Nat),
 Value.slice
 none
 (0 :
 Nat)
 (0 :
 Nat)]
 (83 :
 Nat))).heap.size,
 [((0 :
 Nat),
 Value.slice
 q120
 n121
 n122),
 ((1 :
 Nat),
 Value.slice
 q123
 n124
 n125)])] →
 Rets
 Try.prog
 (40 :
 Nat)
 #[Value.pointer
 (some
 { block := (w7.alloc (Obj.cells #[Value.map none, Value.map none, Value.slice none (0 : Nat) (0 : Nat)] (79 : Nat))).heap.size, off := (0 : Nat) }),
 Value.int
 IntKind.i64
 (0 :
 Int)]
 w191
 fun
 (v197 :
 Value)
 (w198 :
 World) =>
 v197 =
 Value.tuple
 #[] ∧
 Keeps
 w191
 w198
 [w7.heap.size,
 ((w7.alloc
 (Obj.cells
 #[Value.map
 none,
 Value.map
 none,
 Value.slice
 none
 (0 :
 Nat)
 (0 :
 Nat)]
 (79 :
 Nat))).alloc
 (Obj.cells
 #[Value.map
 none,
 Value.map
 none,
 Value.slice
 none
 (0 :
 Nat)
 (0 :
 Nat)]
 (79 :
 Nat))).heap.size,
 (((w7.alloc
 (Obj.cells
 #[Value.map
 none,
 Value.map
 none,
 Value.slice
 none
 (0 :
 Nat)
 (0 :
 Nat)]
 (79 :
 Nat))).alloc
 (Obj.cells
 #[Value.map
 none,
 Value.map
 none,
 Value.slice
 none
 (0 :
 Nat)
 (0 :
 Nat)]
 (79 :
 Nat))).alloc
 (Obj.cells
 #[Value.slice
 none
 (0 :
 Nat)
 (0 :
 Nat),
 Value.slice
 none
 (0 :
 Nat)
 (0 :
 Nat)]
 (83 :
 Nat))).heap.size] ∧
 ∃
 (q199
 :
 Option
 Nat),
 w198.cell?
 { block := (w7.alloc (Obj.cells #[Value.map none, Value.map none, Value.slice none (0 : Nat) (0 : Nat)] (79 : Nat))).heap.size, off := (0 : Nat) } =
 some
 (Value.map
 q199) ∧
 w198.frozen?
 { block := (w7.alloc (Obj.cells #[Value.map none, Value.map none, Value.slice none (0 : Nat) (0 : Nat)] (79 : Nat))).heap.size, off := (0 : Nat) } =
 false ∧
 ∃
 (q200
 :
 Option
 Nat),
 w198.cell?
 { block := (w7.alloc (Obj.cells #[Value.map none, Value.map none, Value.slice none (0 : Nat) (0 : Nat)] (79 : Nat))).heap.size, off := (1 : Nat) } =
 some
 (Value.map
 q200) ∧
 w198.frozen?
 { block := (w7.alloc (Obj.cells #[Value.map none, Value.map none, Value.slice none (0 : Nat) (0 : Nat)] (79 : Nat))).heap.size, off := (1 : Nat) } =
 false ∧
 ∃
 (q201
 :
 Option
 Addr),
 ∃
 (n202
 :
 Nat),
 ∃
 (n203
 :
 Nat),
 w198.cell?
 { block := (w7.alloc (Obj.cells #[Value.map none, Value.map none, Value.slice none (0 : Nat) (0 : Nat)] (79 : Nat))).heap.size, off := (2 : Nat) } =
 some
 (Value.slice
 q201
 n202
 n203) ∧
 w198.frozen?
 { block := (w7.alloc (Obj.cells #[Value.map none, Value.map none, Value.slice none (0 : Nat) (0 : Nat)] (79 : Nat))).heap.size, off := (2 : Nat) } =
 false ∧
 (Known
 w198
 [(w7.heap.size,
 [((0 :
 Nat),
 Value.map
 q192),
 ((1 :
 Nat),
 Value.map
 q193),
 ((2 :
 Nat),
 Value.slice
 q194
 n195
 n196)]),
 ((w7.alloc
 (Obj.cells
 #[Value.map
 none,
 Value.map
 none,
 Value.slice
 none
 (0 :
 Nat)
 (0 :
 Nat)]
 (79 :
 Nat))).heap.size,
 [((0 :
 Nat),
 Value.map
 q199),
 ((1 :
 Nat),
 Value.map
 q200),
 ((2 :
 Nat),
 Value.slice
 q201
 n202
 n203)]),
 (((w7.alloc
 (Obj.cells
 #[Value.map
 none,
 Value.map
 none,
 Value.slice
 none
 (0 :
 Nat)
 (0 :
 Nat)]
 (79 :
 Nat))).alloc
 (Obj.cells
 #[Value.map
 none,
 Value.map
 none,
 Value.slice
 none
 (0 :
 Nat)
 (0 :
 Nat)]
 (79 :
 Nat))).heap.size,
 [((0 :
 Nat),
 Value.slice
 q114
 n115
 n116),
 ((1 :
 Nat),
 Value.slice
 q117
 n118
 n119)]),
 ((((w7.alloc
 (Obj.cells
 #[Value.map
 none,
 Value.map
 none,
 Value.slice
 none
 (0 :
 Nat)
 (0 :
 Nat)]
 (79 :
 Nat))).alloc
 (Obj.cells
 #[Value.map
 none,
 Value.map
 none,
 Value.slice
 none
 (0 :
 Nat)
 (0 :
 Nat)]
 (79 :
 Nat))).alloc
 (Obj.cells
 #[Value.slice
 none
 (0 :
 Nat)
 (0 :
 Nat),
 Value.slice
 none
 (0 :
 Nat)
 (0 :
 Nat)]
 (83 :
 Nat))).heap.size,
 [((0 :
 Nat),
 Value.slice
 q120
 n121
 n122),
 ((1 :
 Nat),
 Value.slice
 q123
 n124
 n125)])] →
 Rets
 Try.prog
 (39 :
 Nat)
 #[Value.pointer
 (some
 { block := w7.heap.size, off := (0 : Nat) })]
 w198
 fun
 (v204 :
 Value)
 (w205 :
 World) =>
 ∃
 (q206
 :
 Option
 Addr),
 ∃
 (n207
 :
 Nat),
 ∃
 (n208
 :
 Nat),
 v204 =
 Value.slice
 q206
 n207
 n208 ∧
 Keeps
 w198
 w205
 [(w7.alloc
 (Obj.cells
 #[Value.map
 none,
 Value.map
 none,
 Value.slice
 none
 (0 :
 Nat)
 (0 :
 Nat)]
 (79 :
 Nat))).heap.size,
 ((w7.alloc
 (Obj.cells
 #[Value.map
 none,
 Value.map
 none,
 Value.slice
 none
 (0 :
 Nat)
 (0 :
 Nat)]
 (79 :
 Nat))).alloc
 (Obj.cells
 #[Value.map
 none,
 Value.map
 none,
 Value.slice
 none
 (0 :
 Nat)
 (0 :
 Nat)]
 (79 :
 Nat))).heap.size,
 (((w7.alloc
 (Obj.cells
 #[Value.map
 none,
 Value.map
 none,
 Value.slice
 none
 (0 :
 Nat)
 (0 :
 Nat)]
 (79 :
 Nat))).alloc
 (Obj.cells
 #[Value.map
 none,
 Value.map
 none,
 Value.slice
 none
 (0 :
 Nat)
 (0 :
 Nat)]
 (79 :
 Nat))).alloc
 (Obj.cells
 #[Value.slice
 none
 (0 :
 Nat)
 (0 :
 Nat),
 Value.slice
 none
 (0 :
 Nat)
 (0 :
 Nat)]
 (83 :
 Nat))).heap.size] ∧
 ∃
 (q209
 :
 Option
 Nat),
 w205.cell?
 { block := w7.heap.size, off := (0 : Nat) } =
 some
 (Value.map
 q209) ∧
 w205.frozen?
 { block := w7.heap.size, off := (0 : Nat) } =
 false ∧
 ∃
 (q210
 :
 Option
 Nat),
 w205.cell?
 { block := w7.heap.size, off := (1 : Nat) } =
 some
 (Value.map
 q210) ∧
 w205.frozen?
 { block := w7.heap.size, off := (1 : Nat) } =
 false ∧
 ∃
 (q211
 :
 Option
 Addr),
 ∃
 (n212
 :
 Nat),
 ∃
 (n213
 :
 Nat),
 w205.cell?
 { block := w7.heap.size, off := (2 : Nat) } =
 some
 (Value.slice
 q211
 n212
 n213) ∧
 w205.frozen?
 { block := w7.heap.size, off := (2 : Nat) } =
 false ∧
 (Known
 w205
 [(w7.heap.size,
 [((0 :
 Nat),
 Value.map
 q209),
 ((1 :
 Nat),
 Value.map
 q210),
 ((2 :
 Nat),
 Value.slice
 q211
 n212
 n213)]),
 ((w7.alloc
 (Obj.cells
 #[Value.map
 none,
 Value.map
 none,
 Value.slice
 none
 (0 :
 Nat)
 (0 :
 Nat)]
 (79 :
 Nat))).heap.size,
 [((0 :
 Nat),
 Value.map
 q199),
 ((1 :
 Nat),
 Value.map
 q200),
 ((2 :
 Nat),
 Value.slice
 q201
 n202
 n203)]),
 (((w7.alloc
 (Obj.cells
 #[Value.map
 none,
 Value.map
 none,
 Value.slice
 none
 (0 :
 Nat)
 (0 :
 Nat)]
 (79 :
 Nat))).alloc
 (Obj.cells
 #[Value.map
 none,
 Value.map
 none,
 Value.slice
 none
 (0 :
 Nat)
 (0 :
 Nat)]
 (79 :
 Nat))).heap.size,
 [((0 :
 Nat),
 Value.slice
 q114
 n115
 n116),
 ((1 :
 Nat),
 Value.slice
 q117
 n118
 n119)]),
 ((((w7.alloc
 (Obj.cells
 #[Value.map
 none,
 Value.map
 none,
 Value.slice
 none
 (0 :
 Nat)
 (0 :
 Nat)]
 (79 :
 Nat))).alloc
 (Obj.cells
 #[Value.map
 none,
 Value.map
 none,
 Value.slice
 none
 (0 :
 Nat)
 (0 :
 Nat)]
 (79 :
 Nat))).alloc
 (Obj.cells
 #[Value.slice
 none
 (0 :
 Nat)
 (0 :
 Nat),
 Value.slice
 none
 (0 :
 Nat)
 (0 :
 Nat)]
 (83 :
 Nat))).heap.size,
 [((0 :
 Nat),
 Value.slice
 q120
 n121
 n122),
 ((1 :
 Nat),
 Value.slice
 q123
 n124
 n125)])] →
 Rets
 Try.prog
 (39 :
 Nat)
 #[Value.pointer
 (some
 { block := (w7.alloc (Obj.cells #[Value.map none, Value.map none, Value.slice none (0 : Nat) (0 : Nat)] (79 : Nat))).heap.size, off := (0 : Nat) })]
 w205
 fun
 (v214 :
 Value)
 (w215 :
 World) =>
 ∃
 (q216
 :
 Option
 Addr),
 ∃
 (n217
 :
 Nat),
 ∃
 (n218
 :
 Nat),
 v214 =
 Value.slice
 q216
 n217
 n218 ∧
 Keeps
 w205
 w215
 [w7.heap.size,
 ((w7.alloc
 (Obj.cells
 #[Value.map
 none,
 Value.map
 none,
 Value.slice
 none
 (0 :
 Nat)
 (0 :
 Nat)]
 (79 :
 Nat))).alloc
 (Obj.cells
 #[Value.map
 none,
 Value.map
 none,
 Value.slice
 none
 (0 :
 Nat)
 (0 :
 Nat)]
 (79 :
 Nat))).heap.size,
 (((w7.alloc
 (Obj.cells
 #[Value.map
 none,
 Value.map
 none,
 Value.slice
 none
 (0 :
 Nat)
 (0 :
 Nat)]
 (79 :
 Nat))).alloc
 (Obj.cells
 #[Value.map
 none,
 Value.map
 none,
 Value.slice
 none
 (0 :
 Nat)
 (0 :
 Nat)]
 (79 :
 Nat))).alloc
 (Obj.cells
 #[Value.slice
 none
 (0 :
 Nat)
 (0 :
 Nat),
 Value.slice
 none
 (0 :
 Nat)
 (0 :
 Nat)]
 (83 :
 Nat))).heap.size] ∧
 ∃
 (q219
 :
 Option
 Nat),
 w215.cell?
 { block := (w7.alloc (Obj.cells #[Value.map none, Value.map none, Value.slice none (0 : Nat) (0 : Nat)] (79 : Nat))).heap.size, off := (0 : Nat) } =
 some
 (Value.map
 q219) ∧
 w215.frozen?
 { block := (w7.alloc (Obj.cells #[Value.map none, Value.map none, Value.slice none (0 : Nat) (0 : Nat)] (79 : Nat))).heap.size, off := (0 : Nat) } =
 false ∧
 ∃
 (q220
 :
 Option
 Nat),
 w215.cell?
 { block := (w7.alloc (Obj.cells #[Value.map none, Value.map none, Value.slice none (0 : Nat) (0 : Nat)] (79 : Nat))).heap.size, off := (1 : Nat) } =
 some
 (Value.map
 q220) ∧
 w215.frozen?
 { block := (w7.alloc (Obj.cells #[Value.map none, Value.map none, Value.slice none (0 : Nat) (0 : Nat)] (79 : Nat))).heap.size, off := (1 : Nat) } =
 false ∧
 ∃
 (q221
 :
 Option
 Addr),
 ∃
 (n222
 :
 Nat),
 ∃
 (n223
 :
 Nat),
 w215.cell?
 { block := (w7.alloc (Obj.cells #[Value.map none, Value.map none, Value.slice none (0 : Nat) (0 : Nat)] (79 : Nat))).heap.size, off := (2 : Nat) } =
 some
 (Value.slice
 q221
 n222
 n223) ∧
 w215.frozen?
 { block := (w7.alloc (Obj.cells #[Value.map none, Value.map none, Value.slice none (0 : Nat) (0 : Nat)] (79 : Nat))).heap.size, off := (2 : Nat) } =
 false ∧
 bif
 (↑n207 :
 Int) !=
 (↑n175 :
 Int) then
 Known
 w215
 [(w7.heap.size,
 [((0 :
 Nat),
 Value.map
 q209),
 ((1 :
 Nat),
 Value.map
 q210),
 ((2 :
 Nat),
 Value.slice
 q211
 n212
 n213)]),
 ((w7.alloc
 (Obj.cells
 #[Value.map
 none,
 Value.map
 none,
 Value.slice
 none
 (0 :
 Nat)
 (0 :
 Nat)]
 (79 :
 Nat))).heap.size,
 [((0 :
 Nat),
 Value.map
 q219),
 ((1 :
 Nat),
 Value.map
 q220),
 ((2 :
 Nat),
 Value.slice
 q221
 n222
 n223)]),
 (((w7.alloc
 (Obj.cells
 #[Value.map
 none,
 Value.map
 none,
 Value.slice
 none
 (0 :
 Nat)
 (0 :
 Nat)]
 (79 :
 Nat))).alloc
 (Obj.cells
 #[Value.map
 none,
 Value.map
 none,
 Value.slice
 none
 (0 :
 Nat)
 (0 :
 Nat)]
 (79 :
 Nat))).heap.size,
 [((0 :
 Nat),
 Value.slice
 q114
 n115
 n116),
 ((1 :
 Nat),
 Value.slice
 q117
 n118
 n119)]),
 ((((w7.alloc
 (Obj.cells
 #[Value.map
 none,
 Value.map
 none,
 Value.slice
 none
 (0 :
 Nat)
 (0 :
 Nat)]
 (79 :
 Nat))).alloc
 (Obj.cells
 #[Value.map
 none,
 Value.map
 none,
 Value.slice
 none
 (0 :
 Nat)
 (0 :
 Nat)]
 (79 :
 Nat))).alloc
 (Obj.cells
 #[Value.slice
 none
 (0 :
 Nat)
 (0 :
 Nat),
 Value.slice
 none
 (0 :
 Nat)
 (0 :
 Nat)]
 (83 :
 Nat))).heap.size,
 [((0 :
 Nat),
 Value.slice
 q120
 n121
 n122),
 ((1 :
 Nat),
 Value.slice
 q123
 n124
 n125)])] →
 R
 (Ending.returned
 (Value.bool
 false))
 w215
 else
 bif
 (↑n217 :
 Int) !=
 (↑n94 :
 Int) then
 Known
 w215
 [(w7.heap.size,
 [((0 :
 Nat),
 Value.map
 q209),
 ((1 :
 Nat),
 Value.map
 q210),
 ((2 :
 Nat),
 Value.slice
 q211
 n212
 n213)]),
 ((w7.alloc
 (Obj.cells
 #[Value.map
 none,
 Value.map
 none,
 Value.slice
 none
 (0 :
 Nat)
 (0 :
 Nat)]
 (79 :
 Nat))).heap.size,
 [((0 :
 Nat),
 Value.map
 q219),
 ((1 :
 Nat),
 Value.map
 q220),
 ((2 :
 Nat),
 Value.slice
 q221
 n222
 n223)]),
 (((w7.alloc
 (Obj.cells
 #[Value.map
 none,
 Value.map
 none,
 Value.slice
 none
 (0 :
 Nat)
 (0 :
 Nat)]
 (79 :
 Nat))).alloc
 (Obj.cells
 #[Value.map
 none,
 Value.map
 none,
 Value.slice
 none
 (0 :
 Nat)
 (0 :
 Nat)]
 (79 :
 Nat))).heap.size,
 [((0 :
 Nat),
 Value.slice
 q114
 n115
 n116),
 ((1 :
 Nat),
 Value.slice
 q117
 n118
 n119)]),
 ((((w7.alloc
 (Obj.cells
 #[Value.map
 none,
 Value.map
 none,
 Value.slice
 none
 (0 :
 Nat)
 (0 :
 Nat)]
 (79 :
 Nat))).alloc
 (Obj.cells
 #[Value.map
 none,
 Value.map
 none,
 Value.slice
 none
 (0 :
 Nat)
 (0 :
 Nat)]
 (79 :
 Nat))).alloc
 (Obj.cells
 #[Value.slice
 none
 (0 :
 Nat)
 (0 :
 Nat),
 Value.slice
 none
 (0 :
 Nat)
 (0 :
 Nat)]
 (83 :
 Nat))).heap.size,
 [((0 :
 Nat),
 Value.slice
 q120
 n121
 n122),
 ((1 :
 Nat),
 Value.slice
 q123
 n124
 n125)])] →
 R
 (Ending.returned
 (Value.bool
 false))
 w215
 else
 Known
 w215
 [(w7.heap.size,
 [((0 :
 Nat),
 Value.map
 q209),
 ((1 :
 Nat),
 Value.map
 q210),
 ((2 :
 Nat),
 Value.slice
 q211
 n212
 n213)]),
 ((w7.alloc
 (Obj.cells
 #[Value.map
 none,
 Value.map
 none,
 Value.slice
 none
 (0 :
 Nat)
 (0 :
 Nat)]
 (79 :
 Nat))).heap.size,
 [((0 :
 Nat),
 Value.map
 q219),
 ((1 :
 Nat),
 Value.map
 q220),
 ((2 :
 Nat),
 Value.slice
 q221
 n222
 n223)]),
 (((w7.alloc
 (Obj.cells
 #[Value.map
 none,
 Value.map
 none,
 Value.slice
 none
 (0 :
 Nat)
 (0 :
 Nat)]
 (79 :
 Nat))).alloc
 (Obj.cells
 #[Value.map
 none,
 Value.map
 none,
 Value.slice
 none
 (0 :
 Nat)
 (0 :
 Nat)]
 (79 :
 Nat))).heap.size,
 [((0 :
 Nat),
 Value.slice
 q114
 n115
 n116),
 ((1 :
 Nat),
 Value.slice
 q117
 n118
 n119)]),
 ((((w7.alloc
 (Obj.cells
 #[Value.map
 none,
 Value.map
 none,
 Value.slice
 none
 (0 :
 Nat)
 (0 :
 Nat)]
 (79 :
 Nat))).alloc
 (Obj.cells
 #[Value.map
 none,
 Value.map
 none,
 Value.slice
 none
 (0 :
 Nat)
 (0 :
 Nat)]
 (79 :
 Nat))).alloc
 (Obj.cells
 #[Value.slice
 none
 (0 :
 Nat)
 (0 :
 Nat),
 Value.slice
 none
 (0 :
 Nat)
 (0 :
 Nat)]
 (83 :
 Nat))).heap.size,
 [((0 :
 Nat),
 Value.slice
 q120
 n121
 n122),
 ((1 :
 Nat),
 Value.slice
 q123
 n124
 n125)])] →
 Rets
 Try.prog
 (41 :
 Nat)
 #[Value.pointer
 (some
 { block := w7.heap.size, off := (0 : Nat) })]
 w215
 fun
 (v224 :
 Value)
 (w225 :
 World) =>
 ∃
 (i226
 :
 Int),
 v224 =
 Value.int
 IntKind.i64
 i226 ∧
 Keeps
 w215
 w225
 [(w7.alloc
 (Obj.cells
 #[Value.map
 none,
 Value.map
 none,
 Value.slice
 none
 (0 :
 Nat)
 (0 :
 Nat)]
 (79 :
 Nat))).heap.size,
 ((w7.alloc
 (Obj.cells
 #[Value.map
 none,
 Value.map
 none,
 Value.slice
 none
 (0 :
 Nat)
 (0 :
 Nat)]
 (79 :
 Nat))).alloc
 (Obj.cells
 #[Value.map
 none,
 Value.map
 none,
 Value.slice
 none
 (0 :
 Nat)
 (0 :
 Nat)]
 (79 :
 Nat))).heap.size,
 (((w7.alloc
 (Obj.cells
 #[Value.map
 none,
 Value.map
 none,
 Value.slice
 none
 (0 :
 Nat)
 (0 :
 Nat)]
 (79 :
 Nat))).alloc
 (Obj.cells
 #[Value.map
 none,
 Value.map
 none,
 Value.slice
 none
 (0 :
 Nat)
 (0 :
 Nat)]
 (79 :
 Nat))).alloc
 (Obj.cells
 #[Value.slice
 none
 (0 :
 Nat)
 (0 :
 Nat),
 Value.slice
 none
 (0 :
 Nat)
 (0 :
 Nat)]
 (83 :
 Nat))).heap.size] ∧
 ∃
 (q227
 :
 Option
 Nat),
 w225.cell?
 { block := w7.heap.size, off := (0 : Nat) } =
 some
 (Value.map
 q227) ∧
 w225.frozen?
 { block := w7.heap.size, off := (0 : Nat) } =
 false ∧
 ∃
 (q228
 :
 Option
 Nat),
 w225.cell?
 { block := w7.heap.size, off := (1 : Nat) } =
 some
 (Value.map
 q228) ∧
 w225.frozen?
 { block := w7.heap.size, off := (1 : Nat) } =
 false ∧
 ∃
 (q229
 :
 Option
 Addr),
 ∃
 (n230
 :
 Nat),
 ∃
 (n231
 :
 Nat),
 w225.cell?
 { block := w7.heap.size, off := (2 : Nat) } =
 some
 (Value.slice
 q229
 n230
 n231) ∧
 w225.frozen?
 { block := w7.heap.size, off := (2 : Nat) } =
 false ∧
 bif
 i226 !=
 (0 :
 Int) then
 Known
 w225
 [(w7.heap.size,
 [((0 :
 Nat),
 Value.map
 q227),
 ((1 :
 Nat),
 Value.map
 q228),
 ((2 :
 Nat),
 Value.slice
 q229
 n230
 n231)]),
 ((w7.alloc
 (Obj.cells
 #[Value.map
 none,
 Value.map
 none,
 Value.slice
 none
 (0 :
 Nat)
 (0 :
 Nat)]
 (79 :
 Nat))).heap.size,
 [((0 :
 Nat),
 Value.map
 q219),
 ((1 :
 Nat),
 Value.map
 q220),
 ((2 :
 Nat),
 Value.slice
 q221
 n222
 n223)]),
 (((w7.alloc
 (Obj.cells
 #[Value.map
 none,
 Value.map
 none,
 Value.slice
 none
 (0 :
 Nat)
 (0 :
 Nat)]
 (79 :
 Nat))).alloc
 (Obj.cells
 #[Value.map
 none,
 Value.map
 none,
 Value.slice
 none
 (0 :
 Nat)
 (0 :
 Nat)]
 (79 :
 Nat))).heap.size,
 [((0 :
 Nat),
 Value.slice
 q114
 n115
 n116),
 ((1 :
 Nat),
 Value.slice
 q117
 n118
 n119)]),
 ((((w7.alloc
 (Obj.cells
 #[Value.map
 none,
 Value.map
 none,
 Value.slice
 none
 (0 :
 Nat)
 (0 :
 Nat)]
 (79 :
 Nat))).alloc
 (Obj.cells
 #[Value.map
 none,
 Value.map
 none,
 Value.slice
 none
 (0 :
 Nat)
 (0 :
 Nat)]
 (79 :
 Nat))).alloc
 (Obj.cells
 #[Value.slice
 none
 (0 :
 Nat)
 (0 :
 Nat),
 Value.slice
 none
 (0 :
 Nat)
 (0 :
 Nat)]
 (83 :
 Nat))).heap.size,
 [((0 :
 Nat),
 Value.slice
 q120
 n121
 n122),
 ((1 :
 Nat),
 Value.slice
 q123
 n124
 n125)])] →
 R
 (Ending.returned
 (Value.bool
 false))
 w225
 else
 Known
 w225
 [(w7.heap.size,
 [((0 :
 Nat),
 Value.map
 q227),
 ((1 :
 Nat),
 Value.map
 q228),
 ((2 :
 Nat),
 Value.slice
 q229
 n230
 n231)]),
 ((w7.alloc
 (Obj.cells
 #[Value.map
 none,
 Value.map
 none,
 Value.slice
 none
 (0 :
 Nat)
 (0 :
 Nat)]
 (79 :
 Nat))).heap.size,
 [((0 :
 Nat),
 Value.map
 q219),
 ((1 :
 Nat),
 Value.map
 q220),
 ((2 :
 Nat),
 Value.slice
 q221
 n222
 n223)]),
 (((w7.alloc
 (Obj.cells
 #[Value.map
 none,
 Value.map
 none,
 Value.slice
 none
 (0 :
 Nat)
 (0 :
 Nat)]
 (79 :
 Nat))).alloc
 (Obj.cells
 #[Value.map
 none,
 Value.map
 none,
 Value.slice
 none
 (0 :
 Nat)
 (0 :
 Nat)]
 (79 :
 Nat))).heap.size,
 [((0 :
 Nat),
 Value.slice
 q114
 n115
 n116),
 ((1 :
 Nat),
 Value.slice
 q117
 n118
 n119)]),
 ((((w7.alloc
 (Obj.cells
 #[Value.map
 none,
 Value.map
 none,
 Value.slice
 none
 (0 :
 Nat)
 (0 :
 Nat)]
 (79 :
 Nat))).alloc
 (Obj.cells
 #[Value.map
 none,
 Value.map
 none,
 Value.slice
 none
 (0 :
 Nat)
 (0 :
 Nat)]
 (79 :
 Nat))).alloc
 (Obj.cells
 #[Value.slice
 none
 (0 :
 Nat)
 (0 :
 Nat),
 Value.slice
 none
 (0 :
 Nat)
 (0 :
 Nat)]
 (83 :
 Nat))).heap.size,
 [((0 :
 Nat),
 Value.slice
 q120
 n121
 n122),
 ((1 :
 Nat),
 Value.slice
 q123
 n124
 n125)])] →
 Rets
 Try.prog
 (41 :
 Nat)
 #[Value.pointer
 (some
 { block := (w7.alloc (Obj.cells #[Value.map none, Value.map none, Value.slice none (0 : Nat) (0 : Nat)] (79 : Nat))).heap.size, off := (0 : Nat) })]
 w225
 fun
 (v232 :
 Value)
 (w233 :
 World) =>
 ∃
 (i234
 :
 Int),
 v232 =
 Value.int
 IntKind.i64
 i234 ∧
 Keeps
 w225
 w233
 [w7.heap.size,
 ((w7.alloc
 (Obj.cells
 #[Value.map
 none,
 Value.map
 none,
 Value.slice
 none
 (0 :
 Nat)
 (0 :
 Nat)]
 (79 :
 Nat))).alloc
 (Obj.cells
 #[Value.map
 none,
 Value.map
 none,
 Value.slice
 none
 (0 :
 Nat)
 (0 :
 Nat)]
 (79 :
 Nat))).heap.size,
 (((w7.alloc
 (Obj.cells
 #[Value.map
 none,
 Value.map
 none,
 Value.slice
 none
 (0 :
 Nat)
 (0 :
 Nat)]
 (79 :
 Nat))).alloc
 (Obj.cells
 #[Value.map
 none,
 Value.map
 none,
 Value.slice
 none
 (0 :
 Nat)
 (0 :
 Nat)]
 (79 :
 Nat))).alloc
 (Obj.cells
 #[Value.slice
 none
 (0 :
 Nat)
 (0 :
 Nat),
 Value.slice
 none
 (0 :
 Nat)
 (0 :
 Nat)]
 (83 :
 Nat))).heap.size] ∧
 ∃
 (q235
 :
 Option
 Nat),
 w233.cell?
 { block := (w7.alloc (Obj.cells #[Value.map none, Value.map none, Value.slice none (0 : Nat) (0 : Nat)] (79 : Nat))).heap.size, off := (0 : Nat) } =
 some
 (Value.map
 q235) ∧
 w233.frozen?
 { block := (w7.alloc (Obj.cells #[Value.map none, Value.map none, Value.slice none (0 : Nat) (0 : Nat)] (79 : Nat))).heap.size, off := (0 : Nat) } =
 false ∧
 ∃
 (q236
 :
 Option
 Nat),
 w233.cell?
 { block := (w7.alloc (Obj.cells #[Value.map none, Value.map none, Value.slice none (0 : Nat) (0 : Nat)] (79 : Nat))).heap.size, off := (1 : Nat) } =
 some
 (Value.map
 q236) ∧
 w233.frozen?
 { block := (w7.alloc (Obj.cells #[Value.map none, Value.map none, Value.slice none (0 : Nat) (0 : Nat)] (79 : Nat))).heap.size, off := (1 : Nat) } =
 false ∧
 ∃
 (q237
 :
 Option
 Addr),
 ∃
 (n238
 :
 Nat),
 ∃
 (n239
 :
 Nat),
 w233.cell?
 { block := (w7.alloc (Obj.cells #[Value.map none, Value.map none, Value.slice none (0 : Nat) (0 : Nat)] (79 : Nat))).heap.size, off := (2 : Nat) } =
 some
 (Value.slice
 q237
 n238
 n239) ∧
 w233.frozen?
 { block := (w7.alloc (Obj.cells #[Value.map none, Value.map none, Value.slice none (0 : Nat) (0 : Nat)] (79 : Nat))).heap.size, off := (2 : Nat) } =
 false ∧
 bif
 i234 !=
 (0 :
 Int) then
 Known
 w233
 [(w7.heap.size,
 [((0 :
 Nat),
 Value.map
 q227),
 ((1 :
 Nat),
 Value.map
 q228),
 ((2 :
 Nat),
 Value.slice
 q229
 n230
 n231)]),
 ((w7.alloc
 (Obj.cells
 #[Value.map
 none,
 Value.map
 none,
 Value.slice
 none
 (0 :
 Nat)
 (0 :
 Nat)]
 (79 :
 Nat))).heap.size,
 [((0 :
 Nat),
 Value.map
 q235),
 ((1 :
 Nat),
 Value.map
 q236),
 ((2 :
 Nat),
 Value.slice
 q237
 n238
 n239)]),
 (((w7.alloc
 (Obj.cells
 #[Value.map
 none,
 Value.map
 none,
 Value.slice
 none
 (0 :
 Nat)
 (0 :
 Nat)]
 (79 :
 Nat))).alloc
 (Obj.cells
 #[Value.map
 none,
 Value.map
 none,
 Value.slice
 none
 (0 :
 Nat)
 (0 :
 Nat)]
 (79 :
 Nat))).heap.size,
 [((0 :
 Nat),
 Value.slice
 q114
 n115
 n116),
 ((1 :
 Nat),
 Value.slice
 q117
 n118
 n119)]),
 ((((w7.alloc
 (Obj.cells
 #[Value.map
 none,
 Value.map
 none,
 Value.slice
 none
 (0 :
 Nat)
 (0 :
 Nat)]
 (79 :
 Nat))).alloc
 (Obj.cells
 #[Value.map
 none,
 Value.map
 none,
 Value.slice
 none
 (0 :
 Nat)
 (0 :
 Nat)]
 (79 :
 Nat))).alloc
 (Obj.cells
 #[Value.slice
 none
 (0 :
 Nat)
 (0 :
 Nat),
 Value.slice
 none
 (0 :
 Nat)
 (0 :
 Nat)]
 (83 :
 Nat))).heap.size,
 [((0 :
 Nat),
 Value.slice
 q120
 n121
 n122),
 ((1 :
 Nat),
 Value.slice
 q123
 n124
 n125)])] →
 R
 (Ending.returned
 (Value.bool
 false))
 w233
 else
 ∃
 (I240
 :
 Int →
 World →
 Prop),
 ∃
 (I241
 :
 Int →
 World →
 Nat),
 I240
 (0 :
 Int)
 w233 ∧
 ∀
 (i242 :
 Int)
 (w243 :
 World),
 I240
 i242
 w243 →
 Known
 w243
 [(w7.heap.size,
 [((0 :
 Nat),
 Value.map
 q227),
 ((1 :
 Nat),
 Value.map
 q228),
 ((2 :
 Nat),
 Value.slice
 q229
 n230
 n231)]),
 ((w7.alloc
 (Obj.cells
 #[Value.map
 none,
 Value.map
 none,
 Value.slice
 none
 (0 :
 Nat)
 (0 :
 Nat)]
 (79 :
 Nat))).heap.size,
 [((0 :
 Nat),
 Value.map
 q235),
 ((1 :
 Nat),
 Value.map
 q236),
 ((2 :
 Nat),
 Value.slice
 q237
 n238
 n239)]),
 (((w7.alloc
 (Obj.cells
 #[Value.map
 none,
 Value.map
 none,
 Value.slice
 none
 (0 :
 Nat)
 (0 :
 Nat)]
 (79 :
 Nat))).alloc
 (Obj.cells
 #[Value.map
 none,
 Value.map
 none,
 Value.slice
 none
 (0 :
 Nat)
 (0 :
 Nat)]
 (79 :
 Nat))).heap.size,
 [((0 :
 Nat),
 Value.slice
 q114
 n115
 n116),
 ((1 :
 Nat),
 Value.slice
 q117
 n118
 n119)]),
 ((((w7.alloc
 (Obj.cells
 #[Value.map
 none,
 Value.map
 none,
 Value.slice
 none
 (0 :
 Nat)
 (0 :
 Nat)]
 (79 :
 Nat))).alloc
 (Obj.cells
 #[Value.map
 none,
 Value.map
 none,
 Value.slice
 none
 (0 :
 Nat)
 (0 :
 Nat)]
 (79 :
 Nat))).alloc
 (Obj.cells
 #[Value.slice
 none
 (0 :
 Nat)
 (0 :
 Nat),
 Value.slice
 none
 (0 :
 Nat)
 (0 :
 Nat)]
 (83 :
 Nat))).heap.size,
 [((0 :
 Nat),
 Value.slice
 q120
 n121
 n122),
 ((1 :
 Nat),
 Value.slice
 q123
 n124
 n125)])] →
 bif
 decide
 (i242 <
 (↑n207 :
 Int)) then
 ((0 :
 Int) ≤
 i242 ∧
 i242 <
 (↑n207 :
 Int)) ∧
 SX.Ptr
 q206
 fun
 (a244 :
 Addr) =>
 ∃
 (s245
 :
 ByteArray),
 w243.drew.cell?
 (a244.add
 (i242.toNat *
 (1 :
 Nat))) =
 some
 (Value.string
 s245) ∧
 ((0 :
 Int) ≤
 i242 ∧
 i242 <
 (↑n175 :
 Int)) ∧
 SX.Ptr
 q174
 fun
 (a246 :
 Addr) =>
 ∃
 (s247
 :
 ByteArray),
 w243.drew.cell?
 (a246.add
 (i242.toNat *
 (1 :
 Nat))) =
 some
 (Value.string
 s247) ∧
 bif
 !s245.toList ==
 s247.toList then
 Known
 w243.drew
 [(w7.heap.size,
 [((0 :
 Nat),
 Value.map
 q227),
 ((1 :
 Nat),
 Value.map
 q228),
 ((2 :
 Nat),
 Value.slice
 q229
 n230
 n231)]),
 ((w7.alloc
 (Obj.cells
 #[Value.map
 none,
 Value.map
 none,
 Value.slice
 none
 (0 :
 Nat)
 (0 :
 Nat)]
 (79 :
 Nat))).heap.size,
 [((0 :
 Nat),
 Value.map
 q235),
 ((1 :
 Nat),
 Value.map
 q236),
 ((2 :
 Nat),
 Value.slice
 q237
 n238
 n239)]),
 (((w7.alloc
 (Obj.cells
 #[Value.map
 none,
 Value.map
 none,
 Value.slice
 none
 (0 :
 Nat)
 (0 :
 Nat)]
 (79 :
 Nat))).alloc
 (Obj.cells
 #[Value.map
 none,
 Value.map
 none,
 Value.slice
 none
 (0 :
 Nat)
 (0 :
 Nat)]
 (79 :
 Nat))).heap.size,
 [((0 :
 Nat),
 Value.slice
 q114
 n115
 n116),
 ((1 :
 Nat),
 Value.slice
 q117
 n118
 n119)]),
 ((((w7.alloc
 (Obj.cells
 #[Value.map
 none,
 Value.map
 none,
 Value.slice
 none
 (0 :
 Nat)
 (0 :
 Nat)]
 (79 :
 Nat))).alloc
 (Obj.cells
 #[Value.map
 none,
 Value.map
 none,
 Value.slice
 none
 (0 :
 Nat)
 (0 :
 Nat)]
 (79 :
 Nat))).alloc
 (Obj.cells
 #[Value.slice
 none
 (0 :
 Nat)
 (0 :
 Nat),
 Value.slice
 none
 (0 :
 Nat)
 (0 :
 Nat)]
 (83 :
 Nat))).heap.size,
 [((0 :
 Nat),
 Value.slice
 q120
 n121
 n122),
 ((1 :
 Nat),
 Value.slice
 q123
 n124
 n125)])] →
 R
 (Ending.returned
 (Value.bool
 false))
 w243.drew
 else
 Wr
 IntKind.i64
 (i242 +
 (1 :
 Int))
 fun
 (i248 :
 Int) =>
 SameVals
 [Value.map
 q227,
 Value.map
 q228,
 Value.slice
 q229
 n230
 n231,
 Value.map
 q235,
 Value.map
 q236,
 Value.slice
 q237
 n238
 n239,
 Value.slice
 q114
 n115
 n116,
 Value.slice
 q117
 n118
 n119,
 Value.slice
 q120
 n121
 n122,
 Value.slice
 q123
 n124
 n125]
 [Value.map
 q227,
 Value.map
 q228,
 Value.slice
 q229
 n230
 n231,
 Value.map
 q235,
 Value.map
 q236,
 Value.slice
 q237
 n238
 n239,
 Value.slice
 q114
 n115
 n116,
 Value.slice
 q117
 n118
 n119,
 Value.slice
 q120
 n121
 n122,
 Value.slice
 q123
 n124
 n125] ∧
 I240
 i248
 w243.drew ∧
 I241
 i248
 w243.drew <
 I241
 i242
 w243
 else
 ∃
 (I249
 :
 Int →
 World →
 Prop),
 ∃
 (I250
 :
 Int →
 World →
 Nat),
 I249
 (0 :
 Int)
 w243 ∧
 ∀
 (i251 :
 Int)
 (w252 :
 World),
 I249
 i251
 w252 →
 Known
 w252
 [(w7.heap.size,
 [((0 :
 Nat),
 Value.map
 q227),
 ((1 :
 Nat),
 Value.map
 q228),
 ((2 :
 Nat),
 Value.slice
 q229
 n230
 n231)]),
 ((w7.alloc
 (Obj.cells
 #[Value.map
 none,
 Value.map
 none,
 Value.slice
 none
 (0 :
 Nat)
 (0 :
 Nat)]
 (79 :
 Nat))).heap.size,
 [((0 :
 Nat),
 Value.map
 q235),
 ((1 :
 Nat),
 Value.map
 q236),
 ((2 :
 Nat),
 Value.slice
 q237
 n238
 n239)]),
 (((w7.alloc
 (Obj.cells
 #[Value.map
 none,
 Value.map
 none,
 Value.slice
 none
 (0 :
 Nat)
 (0 :
 Nat)]
 (79 :
 Nat))).alloc
 (Obj.cells
 #[Value.map
 none,
 Value.map
 none,
 Value.slice
 none
 (0 :
 Nat)
 (0 :
 Nat)]
 (79 :
 Nat))).heap.size,
 [((0 :
 Nat),
 Value.slice
 q114
 n115
 n116),
 ((1 :
 Nat),
 Value.slice
 q117
 n118
 n119)]),
 ((((w7.alloc
 (Obj.cells
 #[Value.map
 none,
 Value.map
 none,
 Value.slice
 none
 (0 :
 Nat)
 (0 :
 Nat)]
 (79 :
 Nat))).alloc
 (Obj.cells
 #[Value.map
 none,
 Value.map
 none,
 Value.slice
 none
 (0 :
 Nat)
 (0 :
 Nat)]
 (79 :
 Nat))).alloc
 (Obj.cells
 #[Value.slice
 none
 (0 :
 Nat)
 (0 :
 Nat),
 Value.slice
 none
 (0 :
 Nat)
 (0 :
 Nat)]
 (83 :
 Nat))).heap.size,
 [((0 :
 Nat),
 Value.slice
 q120
 n121
 n122),
 ((1 :
 Nat),
 Value.slice
 q123
 n124
 n125)])] →
 bif
 decide
 (i251 <
 (↑n217 :
 Int)) then
 ((0 :
 Int) ≤
 i251 ∧
 i251 <
 (↑n217 :
 Int)) ∧
 SX.Ptr
 q216
 fun
 (a253 :
 Addr) =>
 ∃
 (s254
 :
 ByteArray),
 w252.drew.cell?
 (a253.add
 (i251.toNat *
 (1 :
 Nat))) =
 some
 (Value.string
 s254) ∧
 ((0 :
 Int) ≤
 i251 ∧
 i251 <
 (↑n94 :
 Int)) ∧
 SX.Ptr
 q93
 fun
 (a255 :
 Addr) =>
 ∃
 (s256
 :
 ByteArray),
 w252.drew.cell?
 (a255.add
 (i251.toNat *
 (1 :
 Nat))) =
 some
 (Value.string
 s256) ∧
 bif
 !s254.toList ==
 s256.toList then
 Known
 w252.drew
 [(w7.heap.size,
 [((0 :
 Nat),
 Value.map
 q227),
 ((1 :
 Nat),
 Value.map
 q228),
 ((2 :
 Nat),
 Value.slice
 q229
 n230
 n231)]),
 ((w7.alloc
 (Obj.cells
 #[Value.map
 none,
 Value.map
 none,
 Value.slice
 none
 (0 :
 Nat)
 (0 :
 Nat)]
 (79 :
 Nat))).heap.size,
 [((0 :
 Nat),
 Value.map
 q235),
 ((1 :
 Nat),
 Value.map
 q236),
 ((2 :
 Nat),
 Value.slice
 q237
 n238
 n239)]),
 (((w7.alloc
 (Obj.cells
 #[Value.map
 none,
 Value.map
 none,
 Value.slice
 none
 (0 :
 Nat)
 (0 :
 Nat)]
 (79 :
 Nat))).alloc
 (Obj.cells
 #[Value.map
 none,
 Value.map
 none,
 Value.slice
 none
 (0 :
 Nat)
 (0 :
 Nat)]
 (79 :
 Nat))).heap.size,
 [((0 :
 Nat),
 Value.slice
 q114
 n115
 n116),
 ((1 :
 Nat),
 Value.slice
 q117
 n118
 n119)]),
 ((((w7.alloc
 (Obj.cells
 #[Value.map
 none,
 Value.map
 none,
 Value.slice
 none
 (0 :
 Nat)
 (0 :
 Nat)]
 (79 :
 Nat))).alloc
 (Obj.cells
 #[Value.map
 none,
 Value.map
 none,
 Value.slice
 none
 (0 :
 Nat)
 (0 :
 Nat)]
 (79 :
 Nat))).alloc
 (Obj.cells
 #[Value.slice
 none
 (0 :
 Nat)
 (0 :
 Nat),
 Value.slice
 none
 (0 :
 Nat)
 (0 :
 Nat)]
 (83 :
 Nat))).heap.size,
 [((0 :
 Nat),
 Value.slice
 q120
 n121
 n122),
 ((1 :
 Nat),
 Value.slice
 q123
 n124
 n125)])] →
 R
 (Ending.returned
 (Value.bool
 false))
 w252.drew
 else
 Wr
 IntKind.i64
 (i251 +
 (1 :
 Int))
 fun
 (i257 :
 Int) =>
 SameVals
 [Value.map
 q227,
 Value.map
 q228,
 Value.slice
 q229
 n230
 n231,
 Value.map
 q235,
 Value.map
 q236,
 Value.slice
 q237
 n238
 n239,
 Value.slice
 q114
 n115
 n116,
 Value.slice
 q117
 n118
 n119,
 Value.slice
 q120
 n121
 n122,
 Value.slice
 q123
 n124
 n125]
 [Value.map
 q227,
 Value.map
 q228,
 Value.slice
 q229
 n230
 n231,
 Value.map
 q235,
 Value.map
 q236,
 Value.slice
 q237
 n238
 n239,
 Value.slice
 q114
 n115
 n116,
 Value.slice
 q117
 n118
 n119,
 Value.slice
 q120
 n121
 n122,
 Value.slice
 q123
 n124
 n125] ∧
 I249
 i257
 w252.drew ∧
 I250
 i257
 w252.drew <
 I250
 i251
 w252
 else
 Known
 w252
 [(w7.heap.size,
 [((0 :
 Nat),
 Value.map
 q227),
 ((1 :
 Nat),
 Value.map
 q228),
 ((2 :
 Nat),
 Value.slice
 q229
 n230
 n231)]),
 ((w7.alloc
 (Obj.cells
 #[Value.map
 none,
 Value.map
 none,
 Value.slice
 none
 (0 :
 Nat)
 (0 :
 Nat)]
 (79 :
 Nat))).heap.size,
 [((0 :
 Nat),
 Value.map
 q235),
 ((1 :
 Nat),
 Value.map
 q236),
 ((2 :
 Nat),
 Value.slice
 q237
 n238
 n239)]),
 (((w7.alloc
 (Obj.cells
 #[Value.map
 none,
 Value.map
 none,
 Value.slice
 none
 (0 :
 Nat)
 (0 :
 Nat)]
 (79 :
 Nat))).alloc
 (Obj.cells
 #[Value.map
 none,
 Value.map
 none,
 Value.slice
 none
 (0 :
 Nat)
 (0 :
 Nat)]
 (79 :
 Nat))).heap.size,
 [((0 :
 Nat),
 Value.slice
 q114
 n115
 n116),
 ((1 :
 Nat),
 Value.slice
 q117
 n118
 n119)]),
 ((((w7.alloc
 (Obj.cells
 #[Value.map
 none,
 Value.map
 none,
 Value.slice
 none
 (0 :
 Nat)
 (0 :
 Nat)]
 (79 :
 Nat))).alloc
 (Obj.cells
 #[Value.map
 none,
 Value.map
 none,
 Value.slice
 none
 (0 :
 Nat)
 (0 :
 Nat)]
 (79 :
 Nat))).alloc
 (Obj.cells
 #[Value.slice
 none
 (0 :
 Nat)
 (0 :
 Nat),
 Value.slice
 none
 (0 :
 Nat)
 (0 :
 Nat)]
 (83 :
 Nat))).heap.size,
 [((0 :
 Nat),
 Value.slice
 q120
 n121
 n122),
 ((1 :
 Nat),
 Value.slice
 q123
 n124
 n125)])] →
 Rets
 Try.prog
 (36 :
 Nat)
 #[]
 w252
 fun
 (v258 :
 Value)
 (w259 :
 World) =>
 ∃
 (t260
 :
 Bool),
 v258 =
 Value.bool
 t260 ∧
 Keeps
 w252
 w259
 [w7.heap.size,
 (w7.alloc
 (Obj.cells
 #[Value.map
 none,
 Value.map
 none,
 Value.slice
 none
 (0 :
 Nat)
 (0 :
 Nat)]
 (79 :
 Nat))).heap.size,
 ((w7.alloc
 (Obj.cells
 #[Value.map
 none,
 Value.map
 none,
 Value.slice
 none
 (0 :
 Nat)
 (0 :
 Nat)]
 (79 :
 Nat))).alloc
 (Obj.cells
 #[Value.map
 none,
 Value.map
 none,
 Value.slice
 none
 (0 :
 Nat)
 (0 :
 Nat)]
 (79 :
 Nat))).heap.size,
 (((w7.alloc
 (Obj.cells
 #[Value.map
 none,
 Value.map
 none,
 Value.slice
 none
 (0 :
 Nat)
 (0 :
 Nat)]
 (79 :
 Nat))).alloc
 (Obj.cells
 #[Value.map
 none,
 Value.map
 none,
 Value.slice
 none
 (0 :
 Nat)
 (0 :
 Nat)]
 (79 :
 Nat))).alloc
 (Obj.cells
 #[Value.slice
 none
 (0 :
 Nat)
 (0 :
 Nat),
 Value.slice
 none
 (0 :
 Nat)
 (0 :
 Nat)]
 (83 :
 Nat))).heap.size] ∧
 (Known
 w259
 [(w7.heap.size,
 [((0 :
 Nat),
 Value.map
 q227),
 ((1 :
 Nat),
 Value.map
 q228),
 ((2 :
 Nat),
 Value.slice
 q229
 n230
 n231)]),
 ((w7.alloc
 (Obj.cells
 #[Value.map
 none,
 Value.map
 none,
 Value.slice
 none
 (0 :
 Nat)
 (0 :
 Nat)]
 (79 :
 Nat))).heap.size,
 [((0 :
 Nat),
 Value.map
 q235),
 ((1 :
 Nat),
 Value.map
 q236),
 ((2 :
 Nat),
 Value.slice
 q237
 n238
 n239)]),
 (((w7.alloc
 (Obj.cells
 #[Value.map
 none,
 Value.map
 none,
 Value.slice
 none
 (0 :
 Nat)
 (0 :
 Nat)]
 (79 :
 Nat))).alloc
 (Obj.cells
 #[Value.map
 none,
 Value.map
 none,
 Value.slice
 none
 (0 :
 Nat)
 (0 :
 Nat)]
 (79 :
 Nat))).heap.size,
 [((0 :
 Nat),
 Value.slice
 q114
 n115
 n116),
 ((1 :
 Nat),
 Value.slice
 q117
 n118
 n119)]),
 ((((w7.alloc
 (Obj.cells
 #[Value.map
 none,
 Value.map
 none,
 Value.slice
 none
 (0 :
 Nat)
 (0 :
 Nat)]
 (79 :
 Nat))).alloc
 (Obj.cells
 #[Value.map
 none,
 Value.map
 none,
 Value.slice
 none
 (0 :
 Nat)
 (0 :
 Nat)]
 (79 :
 Nat))).alloc
 (Obj.cells
 #[Value.slice
 none
 (0 :
 Nat)
 (0 :
 Nat),
 Value.slice
 none
 (0 :
 Nat)
 (0 :
 Nat)]
 (83 :
 Nat))).heap.size,
 [((0 :
 Nat),
 Value.slice
 q120
 n121
 n122),
 ((1 :
 Nat),
 Value.slice
 q123
 n124
 n125)])] →
 R
 (Ending.returned
 (Value.bool
 t260))
 w259))))))))
theorem vcTry7 (p0 : Option Addr) (n0 c0 : Nat) (p1 : Option Addr) (n1 c1 : Nat) (w : World) (R : Ending → World → Prop) : SX.vcFn Try.prog [(31, ⟨[(16, .int .i64)], [10, 14], []⟩), (26, ⟨[(15, .int .i64)], [12, 13, 10, 14], []⟩), (6, ⟨[(9, .int .i64)], [6, 8, 0, 5, 7, 1], [(0, 0, .map), (0, 1, .map), (0, 2, .slice), (1, 0, .map), (1, 1, .map), (1, 2, .slice), (2, 0, .slice), (2, 1, .slice), (3, 0, .slice), (3, 1, .slice)]⟩), (14, ⟨[(11, .int .i64)], [6, 8, 1, 5, 7, 10], [(0, 0, .map), (0, 1, .map), (0, 2, .slice), (1, 0, .map), (1, 1, .map), (1, 2, .slice), (2, 0, .slice), (2, 1, .slice), (3, 0, .slice), (3, 1, .slice)]⟩)] Try.f7 [.v (.slice p0 n0 c0), .v (.slice p1 n1 c1)] [] w R = VCTry7 p0 n0 c0 p1 n1 c1 w R := by kernel_rfl
end Go.Proofs.Ytlgkcbdpaffigaa
