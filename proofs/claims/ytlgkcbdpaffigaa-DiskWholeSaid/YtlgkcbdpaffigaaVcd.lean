/- The conditions of functions, as the executor computes them: each is equal to what 'vcFn' says. -/
import Derived.Test.YtlgkcbdpaffigaaSxLib
import Derived.Test.YtlgkcbdpaffigaaProg
namespace Go.Proofs.Ytlgkcbdpaffigaa
open Go Go.SX Go.Proofs
set_option maxRecDepth 100000
set_option linter.unusedVariables false
def VCTry4 (q : Option Addr) (n c : Nat) (k x : Int) (qb : Option Addr) (nb cb : Nat) (qk : Option Addr) (nk ck : Nat) (fill : Int) (w : World) (R : Ending → World → Prop) : Prop :=
Known (w.alloc (Obj.cells #[Value.int IntKind.i64 k, Value.int IntKind.i64 x, Value.slice qb nb cb, Value.slice qk nk ck, Value.int IntKind.u8 fill] (39 : Nat)))
 [(w.heap.size, [((0 : Nat), Value.int IntKind.i64 k), ((1 : Nat), Value.int IntKind.i64 x), ((2 : Nat), Value.slice qb nb cb), ((3 : Nat), Value.slice qk nk ck), ((4 : Nat), Value.int IntKind.u8 fill)])] →
 Rets Try.prog (12 : Nat) #[Value.slice q n c] (w.alloc (Obj.cells #[Value.int IntKind.i64 k, Value.int IntKind.i64 x, Value.slice qb nb cb, Value.slice qk nk ck, Value.int IntKind.u8 fill] (39 : Nat)))
 fun (v0 : Value) (w1 : World) =>
 ∃ (t2 : Bool),
 v0 = Value.bool t2 ∧
 Keeps (w.alloc (Obj.cells #[Value.int IntKind.i64 k, Value.int IntKind.i64 x, Value.slice qb nb cb, Value.slice qk nk ck, Value.int IntKind.u8 fill] (39 : Nat))) w1 [w.heap.size] ∧
 bif !t2 then
 Known w1
 [(w.heap.size,
 [((0 : Nat), Value.int IntKind.i64 k), ((1 : Nat), Value.int IntKind.i64 x), ((2 : Nat), Value.slice qb nb cb), ((3 : Nat), Value.slice qk nk ck), ((4 : Nat), Value.int IntKind.u8 fill)])] →
 Rets Try.prog (13 : Nat) #[] w1 fun (v3 : Value) (w4 : World) =>
 ∃ (t5 : Bool),
 v3 = Value.bool t5 ∧
 Keeps w1 w4 [w.heap.size] ∧
 (Known w4
 [(w.heap.size,
 [((0 : Nat), Value.int IntKind.i64 k), ((1 : Nat), Value.int IntKind.i64 x), ((2 : Nat), Value.slice qb nb cb), ((3 : Nat), Value.slice qk nk ck), ((4 : Nat), Value.int IntKind.u8 fill)])] →
 R (Ending.returned (Value.bool t5)) w4)
 else
 Known (w1.alloc (Obj.cells #[Value.int IntKind.i64 k, Value.int IntKind.i64 x, Value.slice qb nb cb, Value.slice qk nk ck, Value.int IntKind.u8 fill] (39 : Nat)))
 [(w.heap.size,
 [((0 : Nat), Value.int IntKind.i64 k), ((1 : Nat), Value.int IntKind.i64 x), ((2 : Nat), Value.slice qb nb cb), ((3 : Nat), Value.slice qk nk ck), ((4 : Nat), Value.int IntKind.u8 fill)])] →
 Rets Try.prog (12 : Nat) #[Value.slice (some { block := w1.heap.size, off := (0 : Nat) }) (1 : Nat) (1 : Nat)]
 (w1.alloc (Obj.cells #[Value.int IntKind.i64 k, Value.int IntKind.i64 x, Value.slice qb nb cb, Value.slice qk nk ck, Value.int IntKind.u8 fill] (39 : Nat))) fun (v6 : Value) (w7 : World) =>
 ∃ (t8 : Bool),
 v6 = Value.bool t8 ∧
 Keeps (w1.alloc (Obj.cells #[Value.int IntKind.i64 k, Value.int IntKind.i64 x, Value.slice qb nb cb, Value.slice qk nk ck, Value.int IntKind.u8 fill] (39 : Nat))) w7 [w.heap.size] ∧
 bif !t8 then
 Known w7
 [(w.heap.size,
 [((0 : Nat), Value.int IntKind.i64 k), ((1 : Nat), Value.int IntKind.i64 x), ((2 : Nat), Value.slice qb nb cb), ((3 : Nat), Value.slice qk nk ck),
 ((4 : Nat), Value.int IntKind.u8 fill)])] →
 Rets Try.prog (13 : Nat) #[] w7 fun (v9 : Value) (w10 : World) =>
 ∃ (t11 : Bool),
 v9 = Value.bool t11 ∧
 Keeps w7 w10 [w.heap.size] ∧
 (Known w10
 [(w.heap.size,
 [((0 : Nat), Value.int IntKind.i64 k), ((1 : Nat), Value.int IntKind.i64 x), ((2 : Nat), Value.slice qb nb cb), ((3 : Nat), Value.slice qk nk ck),
 ((4 : Nat), Value.int IntKind.u8 fill)])] →
 R (Ending.returned (Value.bool t11)) w10)
 else
 bif decide ((↑nk : Int) > (1000 : Int)) then
 Known w7
 [(w.heap.size,
 [((0 : Nat), Value.int IntKind.i64 k), ((1 : Nat), Value.int IntKind.i64 x), ((2 : Nat), Value.slice qb nb cb), ((3 : Nat), Value.slice qk nk ck),
 ((4 : Nat), Value.int IntKind.u8 fill)])] →
 Rets Try.prog (13 : Nat) #[] w7 fun (v12 : Value) (w13 : World) =>
 ∃ (t14 : Bool),
 v12 = Value.bool t14 ∧
 Keeps w7 w13 [w.heap.size] ∧
 (Known w13
 [(w.heap.size,
 [((0 : Nat), Value.int IntKind.i64 k), ((1 : Nat), Value.int IntKind.i64 x), ((2 : Nat), Value.slice qb nb cb), ((3 : Nat), Value.slice qk nk ck),
 ((4 : Nat), Value.int IntKind.u8 fill)])] →
 R (Ending.returned (Value.bool t14)) w13)
 else
 ∃ (I15 :
 Int →
 Option Addr →
 Nat → Nat → Option Addr → Nat → Nat → Option Addr → Nat → Nat → Option Addr → Nat → Nat → Option Addr → Nat → Nat → Option Addr → Nat → Nat → Option Addr → Nat → Nat → World → Prop),
 ∃ (I16 :
 Int →
 Option Addr →
 Nat → Nat → Option Addr → Nat → Nat → Option Addr → Nat → Nat → Option Addr → Nat → Nat → Option Addr → Nat → Nat → Option Addr → Nat → Nat → Option Addr → Nat → Nat → World → Nat),
 I15 (0 : Int) none (0 : Nat) (0 : Nat) none (0 : Nat) (0 : Nat) none (0 : Nat) (0 : Nat) none (0 : Nat) (0 : Nat) none (0 : Nat) (0 : Nat) none (0 : Nat) (0 : Nat) none (0 : Nat) (0 : Nat)
 ((w7.alloc (Obj.cells #[Value.slice none (0 : Nat) (0 : Nat), Value.slice none (0 : Nat) (0 : Nat), Value.slice none (0 : Nat) (0 : Nat)] (29 : Nat))).alloc
 (Obj.cells #[Value.slice none (0 : Nat) (0 : Nat), Value.slice none (0 : Nat) (0 : Nat), Value.slice none (0 : Nat) (0 : Nat), Value.slice none (0 : Nat) (0 : Nat)] (34 : Nat))) ∧
 ∀ (i17 : Int) (q18 : Option Addr) (n19 n20 : Nat) (q21 : Option Addr) (n22 n23 : Nat) (q24 : Option Addr) (n25 n26 : Nat) (q27 : Option Addr) (n28 n29 : Nat) (q30 : Option Addr)
 (n31 n32 : Nat) (q33 : Option Addr) (n34 n35 : Nat) (q36 : Option Addr) (n37 n38 : Nat) (w39 : World),
 I15 i17 q18 n19 n20 q21 n22 n23 q24 n25 n26 q27 n28 n29 q30 n31 n32 q33 n34 n35 q36 n37 n38 w39 →
 Known w39
 [(w.heap.size,
 [((0 : Nat), Value.int IntKind.i64 k), ((1 : Nat), Value.int IntKind.i64 x), ((2 : Nat), Value.slice qb nb cb), ((3 : Nat), Value.slice qk nk ck),
 ((4 : Nat), Value.int IntKind.u8 fill)]),
 (w7.heap.size, [((0 : Nat), Value.slice q18 n19 n20), ((1 : Nat), Value.slice q21 n22 n23), ((2 : Nat), Value.slice q24 n25 n26)]),
 ((w7.alloc (Obj.cells #[Value.slice none (0 : Nat) (0 : Nat), Value.slice none (0 : Nat) (0 : Nat), Value.slice none (0 : Nat) (0 : Nat)] (29 : Nat))).heap.size,
 [((0 : Nat), Value.slice q27 n28 n29), ((1 : Nat), Value.slice q30 n31 n32), ((2 : Nat), Value.slice q33 n34 n35), ((3 : Nat), Value.slice q36 n37 n38)])] →
 bif decide (i17 < (↑n : Int)) then
 ((0 : Int) ≤ i17 ∧ i17 < (↑n : Int)) ∧
 SX.Ptr q fun (a40 : Addr) =>
 ∃ (i41 : Int),
 ∃ (i42 : Int),
 ∃ (q43 : Option Addr),
 ∃ (n44 : Nat),
 ∃ (n45 : Nat),
 ∃ (q46 : Option Addr),
 ∃ (n47 : Nat),
 ∃ (n48 : Nat),
 ∃ (i49 : Int),
 (w39.cell? ((a40.add (i17.toNat * (5 : Nat))).add (0 : Nat)) = some (Value.int IntKind.i64 i41) ∧
 w39.cell? ((a40.add (i17.toNat * (5 : Nat))).add (1 : Nat)) = some (Value.int IntKind.i64 i42) ∧
 w39.cell? ((a40.add (i17.toNat * (5 : Nat))).add (2 : Nat)) = some (Value.slice q43 n44 n45) ∧
 w39.cell? ((a40.add (i17.toNat * (5 : Nat))).add (3 : Nat)) = some (Value.slice q46 n47 n48) ∧
 w39.cell? ((a40.add (i17.toNat * (5 : Nat))).add (4 : Nat)) = some (Value.int IntKind.u8 i49) ∧ True) ∧
 (Known w39
 [(w.heap.size,
 [((0 : Nat), Value.int IntKind.i64 k), ((1 : Nat), Value.int IntKind.i64 x), ((2 : Nat), Value.slice qb nb cb), ((3 : Nat), Value.slice qk nk ck),
 ((4 : Nat), Value.int IntKind.u8 fill)]),
 (w7.heap.size, [((0 : Nat), Value.slice q18 n19 n20), ((1 : Nat), Value.slice q21 n22 n23), ((2 : Nat), Value.slice q24 n25 n26)]),
 ((w7.alloc
 (Obj.cells #[Value.slice none (0 : Nat) (0 : Nat), Value.slice none (0 : Nat) (0 : Nat), Value.slice none (0 : Nat) (0 : Nat)]
 (29 : Nat))).heap.size,
 [((0 : Nat), Value.slice q27 n28 n29), ((1 : Nat), Value.slice q30 n31 n32), ((2 : Nat), Value.slice q33 n34 n35),
 ((3 : Nat), Value.slice q36 n37 n38)])] →
 Rets Try.prog (14 : Nat)
 #[Value.pointer (some { block := w7.heap.size, off := (0 : Nat) }),
 Value.pointer
 (some
 { block := (w7.alloc (Obj.cells #[Value.slice none (0 : Nat) (0 : Nat), Value.slice none (0 : Nat) (0 : Nat), Value.slice none (0 : Nat) (0 : Nat)] (29 : Nat))).heap.size, off := (0 : Nat) }),
 Value.agg #[Value.int IntKind.i64 i41, Value.int IntKind.i64 i42, Value.slice q43 n44 n45, Value.slice q46 n47 n48, Value.int IntKind.u8 i49]]
 w39 fun (v50 : Value) (w51 : World) =>
 ∃ (t52 : Bool),
 v50 = Value.bool t52 ∧
 Keeps w39 w51 [w.heap.size] ∧
 ∃ (q53 : Option Addr),
 ∃ (n54 : Nat),
 ∃ (n55 : Nat),
 w51.cell? { block := w7.heap.size, off := (0 : Nat) } = some (Value.slice q53 n54 n55) ∧
 w51.frozen? { block := w7.heap.size, off := (0 : Nat) } = false ∧
 ∃ (q56 : Option Addr),
 ∃ (n57 : Nat),
 ∃ (n58 : Nat),
 w51.cell? { block := w7.heap.size, off := (1 : Nat) } = some (Value.slice q56 n57 n58) ∧
 w51.frozen? { block := w7.heap.size, off := (1 : Nat) } = false ∧
 ∃ (q59 : Option Addr),
 ∃ (n60 : Nat),
 ∃ (n61 : Nat),
 w51.cell? { block := w7.heap.size, off := (2 : Nat) } = some (Value.slice q59 n60 n61) ∧
 w51.frozen? { block := w7.heap.size, off := (2 : Nat) } = false ∧
 ∃ (q62 : Option Addr),
 ∃ (n63 : Nat),
 ∃ (n64 : Nat),
 w51.cell?
 { block := (w7.alloc (Obj.cells #[Value.slice none (0 : Nat) (0 : Nat), Value.slice none (0 : Nat) (0 : Nat), Value.slice none (0 : Nat) (0 : Nat)] (29 : Nat))).heap.size, off := (0 : Nat) } =
 some (Value.slice q62 n63 n64) ∧
 w51.frozen?
 { block := (w7.alloc (Obj.cells #[Value.slice none (0 : Nat) (0 : Nat), Value.slice none (0 : Nat) (0 : Nat), Value.slice none (0 : Nat) (0 : Nat)] (29 : Nat))).heap.size, off := (0 : Nat) } =
 false ∧
 ∃ (q65 : Option Addr),
 ∃ (n66 : Nat),
 ∃ (n67 : Nat),
 w51.cell?
 { block := (w7.alloc (Obj.cells #[Value.slice none (0 : Nat) (0 : Nat), Value.slice none (0 : Nat) (0 : Nat), Value.slice none (0 : Nat) (0 : Nat)] (29 : Nat))).heap.size, off := (1 : Nat) } =
 some (Value.slice q65 n66 n67) ∧
 w51.frozen?
 { block := (w7.alloc (Obj.cells #[Value.slice none (0 : Nat) (0 : Nat), Value.slice none (0 : Nat) (0 : Nat), Value.slice none (0 : Nat) (0 : Nat)] (29 : Nat))).heap.size, off := (1 : Nat) } =
 false ∧
 ∃ (q68 : Option Addr),
 ∃ (n69 : Nat),
 ∃ (n70 : Nat),
 w51.cell?
 { block := (w7.alloc (Obj.cells #[Value.slice none (0 : Nat) (0 : Nat), Value.slice none (0 : Nat) (0 : Nat), Value.slice none (0 : Nat) (0 : Nat)] (29 : Nat))).heap.size, off := (2 : Nat) } =
 some (Value.slice q68 n69 n70) ∧
 w51.frozen?
 { block := (w7.alloc (Obj.cells #[Value.slice none (0 : Nat) (0 : Nat), Value.slice none (0 : Nat) (0 : Nat), Value.slice none (0 : Nat) (0 : Nat)] (29 : Nat))).heap.size, off := (2 : Nat) } =
 false ∧
 ∃ (q71 : Option Addr),
 ∃ (n72 : Nat),
 ∃ (n73 : Nat),
 w51.cell?
 { block := (w7.alloc (Obj.cells #[Value.slice none (0 : Nat) (0 : Nat), Value.slice none (0 : Nat) (0 : Nat), Value.slice none (0 : Nat) (0 : Nat)] (29 : Nat))).heap.size, off := (3 : Nat) } =
 some (Value.slice q71 n72 n73) ∧
 w51.frozen?
 { block := (w7.alloc (Obj.cells #[Value.slice none (0 : Nat) (0 : Nat), Value.slice none (0 : Nat) (0 : Nat), Value.slice none (0 : Nat) (0 : Nat)] (29 : Nat))).heap.size, off := (3 : Nat) } =
 false ∧
 Wr IntKind.i64 (i17 + (1 : Int)) fun (i74 : Int) =>
 SameVals
 [Value.int IntKind.i64 k, Value.int IntKind.i64 x,
 Value.slice qb nb cb, Value.slice qk nk ck,
 Value.int IntKind.u8 fill]
 [Value.int IntKind.i64 k, Value.int IntKind.i64 x,
 Value.slice qb nb cb, Value.slice qk nk ck,
 Value.int IntKind.u8 fill] ∧
 I15 i74 q53 n54 n55 q56 n57 n58 q59 n60 n61 q62 n63 n64 q65 n66 n67 q68
 n69 n70 q71 n72 n73 w51 ∧
 I16 i74 q53 n54 n55 q56 n57 n58 q59 n60 n61 q62 n63 n64 q65 n66 n67
 q68 n69 n70 q71 n72 n73 w51 <
 I16 i17 q18 n19 n20 q21 n22 n23 q24 n25 n26 q27 n28 n29 q30 n31 n32
 q33 n34 n35 q36 n37 n38 w39)
 else
 Known w39
 [(w.heap.size,
 [((0 : Nat), Value.int IntKind.i64 k), ((1 : Nat), Value.int IntKind.i64 x), ((2 : Nat), Value.slice qb nb cb), ((3 : Nat), Value.slice qk nk ck),
 ((4 : Nat), Value.int IntKind.u8 fill)]),
 (w7.heap.size, [((0 : Nat), Value.slice q18 n19 n20), ((1 : Nat), Value.slice q21 n22 n23), ((2 : Nat), Value.slice q24 n25 n26)]),
 ((w7.alloc (Obj.cells #[Value.slice none (0 : Nat) (0 : Nat), Value.slice none (0 : Nat) (0 : Nat), Value.slice none (0 : Nat) (0 : Nat)] (29 : Nat))).heap.size,
 [((0 : Nat), Value.slice q27 n28 n29), ((1 : Nat), Value.slice q30 n31 n32), ((2 : Nat), Value.slice q33 n34 n35), ((3 : Nat), Value.slice q36 n37 n38)])] →
 Rets Try.prog (16 : Nat) #[Value.pointer (some { block := w7.heap.size, off := (0 : Nat) })] w39 fun (v75 : Value) (w76 : World) =>
 v75 = Value.tuple #[] ∧
 Keeps w39 w76
 [w.heap.size,
 (w7.alloc (Obj.cells #[Value.slice none (0 : Nat) (0 : Nat), Value.slice none (0 : Nat) (0 : Nat), Value.slice none (0 : Nat) (0 : Nat)] (29 : Nat))).heap.size] ∧
 ∃ (q77 : Option Addr),
 ∃ (n78 : Nat),
 ∃ (n79 : Nat),
 w76.cell? { block := w7.heap.size, off := (0 : Nat) } = some (Value.slice q77 n78 n79) ∧
 w76.frozen? { block := w7.heap.size, off := (0 : Nat) } = false ∧
 ∃ (q80 : Option Addr),
 ∃ (n81 : Nat),
 ∃ (n82 : Nat),
 w76.cell? { block := w7.heap.size, off := (1 : Nat) } = some (Value.slice q80 n81 n82) ∧
 w76.frozen? { block := w7.heap.size, off := (1 : Nat) } = false ∧
 ∃ (q83 : Option Addr),
 ∃ (n84 : Nat),
 ∃ (n85 : Nat),
 w76.cell? { block := w7.heap.size, off := (2 : Nat) } = some (Value.slice q83 n84 n85) ∧
 w76.frozen? { block := w7.heap.size, off := (2 : Nat) } = false ∧
 (Known w76
 [(w.heap.size,
 [((0 : Nat), Value.int IntKind.i64 k), ((1 : Nat), Value.int IntKind.i64 x), ((2 : Nat), Value.slice qb nb cb),
 ((3 : Nat), Value.slice qk nk ck), ((4 : Nat), Value.int IntKind.u8 fill)]),
 (w7.heap.size, [((0 : Nat), Value.slice q77 n78 n79), ((1 : Nat), Value.slice q80 n81 n82), ((2 : Nat), Value.slice q83 n84 n85)]),
 ((w7.alloc
 (Obj.cells #[Value.slice none (0 : Nat) (0 : Nat), Value.slice none (0 : Nat) (0 : Nat), Value.slice none (0 : Nat) (0 : Nat)]
 (29 : Nat))).heap.size,
 [((0 : Nat), Value.slice q27 n28 n29), ((1 : Nat), Value.slice q30 n31 n32), ((2 : Nat), Value.slice q33 n34 n35),
 ((3 : Nat), Value.slice q36 n37 n38)])] →
 Rets Try.prog (18 : Nat) #[Value.pointer (some { block := w7.heap.size, off := (0 : Nat) })] w76 fun (v86 : Value) (w87 : World) =>
 ∃ (i88 : Int),
 v86 = Value.int IntKind.i64 i88 ∧
 Keeps w76 w87
 [w.heap.size,
 (w7.alloc
 (Obj.cells
 #[Value.slice none (0 : Nat) (0 : Nat), Value.slice none (0 : Nat) (0 : Nat), Value.slice none (0 : Nat) (0 : Nat)]
 (29 : Nat))).heap.size] ∧
 ∃ (q89 : Option Addr),
 ∃ (n90 : Nat),
 ∃ (n91 : Nat),
 w87.cell? { block := w7.heap.size, off := (0 : Nat) } = some (Value.slice q89 n90 n91) ∧
 w87.frozen? { block := w7.heap.size, off := (0 : Nat) } = false ∧
 ∃ (q92 : Option Addr),
 ∃ (n93 : Nat),
 ∃ (n94 : Nat),
 w87.cell? { block := w7.heap.size, off := (1 : Nat) } = some (Value.slice q92 n93 n94) ∧
 w87.frozen? { block := w7.heap.size, off := (1 : Nat) } = false ∧
 ∃ (q95 : Option Addr),
 ∃ (n96 : Nat),
 ∃ (n97 : Nat),
 w87.cell? { block := w7.heap.size, off := (2 : Nat) } = some (Value.slice q95 n96 n97) ∧
 w87.frozen? { block := w7.heap.size, off := (2 : Nat) } = false ∧
 Wr IntKind.i64 ((512 : Int) * i88) fun (i98 : Int) =>
 Known w87
 [(w.heap.size,
 [((0 : Nat), Value.int IntKind.i64 k), ((1 : Nat), Value.int IntKind.i64 x),
 ((2 : Nat), Value.slice qb nb cb), ((3 : Nat), Value.slice qk nk ck),
 ((4 : Nat), Value.int IntKind.u8 fill)]),
 (w7.heap.size,
 [((0 : Nat), Value.slice q89 n90 n91), ((1 : Nat), Value.slice q92 n93 n94),
 ((2 : Nat), Value.slice q95 n96 n97)]),
 ((w7.alloc
 (Obj.cells
 #[Value.slice none (0 : Nat) (0 : Nat), Value.slice none (0 : Nat) (0 : Nat),
 Value.slice none (0 : Nat) (0 : Nat)]
 (29 : Nat))).heap.size,
 [((0 : Nat), Value.slice q27 n28 n29), ((1 : Nat), Value.slice q30 n31 n32),
 ((2 : Nat), Value.slice q33 n34 n35), ((3 : Nat), Value.slice q36 n37 n38)])] →
 Rets Try.prog (17 : Nat)
 #[Value.pointer (some { block := w7.heap.size, off := (0 : Nat) }),
 Value.int IntKind.i64 (0 : Int), Value.int IntKind.i64 i98]
 w87 fun (v99 : Value) (w100 : World) =>
 ∃ (q101 : Option Addr),
 ∃ (n102 : Nat),
 ∃ (n103 : Nat),
 ∃ (i104 : Int),
 v99 = Value.tuple #[Value.slice q101 n102 n103, Value.int IntKind.i64 i104] ∧
 Keeps w87 w100
 [w.heap.size,
 (w7.alloc
 (Obj.cells
 #[Value.slice none (0 : Nat) (0 : Nat),
 Value.slice none (0 : Nat) (0 : Nat),
 Value.slice none (0 : Nat) (0 : Nat)]
 (29 : Nat))).heap.size] ∧
 ∃ (q105 : Option Addr),
 ∃ (n106 : Nat),
 ∃ (n107 : Nat),
 w100.cell? { block := w7.heap.size, off := (0 : Nat) } =
 some (Value.slice q105 n106 n107) ∧
 w100.frozen? { block := w7.heap.size, off := (0 : Nat) } = false ∧
 ∃ (q108 : Option Addr),
 ∃ (n109 : Nat),
 ∃ (n110 : Nat),
 w100.cell? { block := w7.heap.size, off := (1 : Nat) } =
 some (Value.slice q108 n109 n110) ∧
 w100.frozen? { block := w7.heap.size, off := (1 : Nat) } = false ∧
 ∃ (q111 : Option Addr),
 ∃ (n112 : Nat),
 ∃ (n113 : Nat),
 w100.cell? { block := w7.heap.size, off := (2 : Nat) } =
 some (Value.slice q111 n112 n113) ∧
 w100.frozen?
 {block := w7.heap.size, off := (2 : Nat) } =
 false ∧
 (Known w100
 [(w.heap.size,
 [((0 : Nat), Value.int IntKind.i64 k),
 ((1 : Nat), Value.int IntKind.i64 x),
 ((2 : Nat), Value.slice qb nb cb),
 ((3 : Nat), Value.slice qk nk ck),
 ((4 : Nat), Value.int IntKind.u8 fill)]),
 (w7.heap.size,
 [((0 : Nat), Value.slice q105 n106 n107),
 ((1 : Nat), Value.slice q108 n109 n110),
 ((2 : Nat), Value.slice q111 n112 n113)]),
 ((w7.alloc
 (Obj.cells
 #[Value.slice none (0 : Nat)
 (0 : Nat),
 Value.slice none (0 : Nat)
 (0 : Nat),
 Value.slice none (0 : Nat)
 (0 : Nat)]
 (29 : Nat))).heap.size,
 [((0 : Nat), Value.slice q27 n28 n29),
 ((1 : Nat), Value.slice q30 n31 n32),
 ((2 : Nat), Value.slice q33 n34 n35),
 ((3 : Nat), Value.slice q36 n37 n38)])] →
 Rets Try.prog (19 : Nat)
 #[Value.pointer
 (some
 {block := w7.heap.size, off := (0 : Nat) }),
 Value.slice qk nk ck, Value.int IntKind.u8 fill]
 w100 fun (v114 : Value) (w115 : World) =>
 v114 = Value.tuple #[] ∧
 Keeps w100 w115
 [w.heap.size,
 (w7.alloc
 (Obj.cells
 #[Value.slice none (0 : Nat)
 (0 : Nat),
 Value.slice none (0 : Nat)
 (0 : Nat),
 Value.slice none (0 : Nat)
 (0 : Nat)]
 (29 : Nat))).heap.size] ∧
 ∃ (q116 : Option Addr),
 ∃ (n117 : Nat),
 ∃ (n118 : Nat),
 w115.cell?
 {block := w7.heap.size, off := (0 : Nat) } =
 some (Value.slice q116 n117 n118) ∧
 w115.frozen?
 {block := w7.heap.size, off := (0 : Nat) } =
 false ∧
 ∃ (q119 : Option Addr),
 ∃ (n120 : Nat),
 ∃ (n121 : Nat),
 w115.cell?
 {block := w7.heap.size, off := (1 : Nat) } =
 some
 (Value.slice q119 n120
 n121) ∧
 w115.frozen?
 { block := w7.heap.size, off := (1 : Nat) } =
 false ∧
 ∃ (q122 : Option Addr),
 ∃ (n123 : Nat),
 ∃ (n124 : Nat),
 w115.cell?
 { block := w7.heap.size, off := (2 : Nat) } =
 some
 (Value.slice
 q122 n123
 n124) ∧
 w115.frozen?
 { block := w7.heap.size, off := (2 : Nat) } =
 false ∧
 (Known w115
 [(w.heap.size,
 [((0 :
 Nat),
 Value.int
 IntKind.i64
 k),
 ((1 :
 Nat),
 Value.int
 IntKind.i64
 x),
 ((2 :
 Nat),
 Value.slice
 qb
 nb
 cb),
 ((3 :
 Nat),
 Value.slice
 qk
 nk
 ck),
 ((4 :
 Nat),
 Value.int
 IntKind.u8
 fill)]),
 (w7.heap.size,
 [((0 :
 Nat),
 Value.slice
 q116
 n117
 n118),
 ((1 :
 Nat),
 Value.slice
 q119
 n120
 n121),
 ((2 :
 Nat),
 Value.slice
 q122
 n123
 n124)]),
 ((w7.alloc
 (Obj.cells
 #[Value.slice
 none
 (0 :
 Nat)
 (0 :
 Nat),
 Value.slice
 none
 (0 :
 Nat)
 (0 :
 Nat),
 Value.slice
 none
 (0 :
 Nat)
 (0 :
 Nat)]
 (29 :
 Nat))).heap.size,
 [((0 :
 Nat),
 Value.slice
 q27
 n28
 n29),
 ((1 :
 Nat),
 Value.slice
 q30
 n31
 n32),
 ((2 :
 Nat),
 Value.slice
 q33
 n34
 n35),
 ((3 :
 Nat),
 Value.slice
 q36
 n37
 n38)])] →
 Rets Try.prog
 (18 : Nat)
 #[Value.pointer
 (some
 { block := w7.heap.size, off := (0 : Nat) })]
 w115
 fun
 (v125 :
 Value)
 (w126 :
 World) =>
 ∃ (i127 :
 Int),
 v125 =
 Value.int
 IntKind.i64
 i127 ∧
 Keeps
 w115
 w126
 [w.heap.size,
 (w7.alloc
 (Obj.cells
 #[Value.slice
 none
 (0 :
 Nat)
 (0 :
 Nat),
 Value.slice
 none
 (0 :
 Nat)
 (0 :
 Nat),
 Value.slice
 none
 (0 :
 Nat)
 (0 :
 Nat)]
 (29 :
 Nat))).heap.size] ∧
 ∃
 (q128
 :
 Option
 Addr),
 ∃
 (n129
 :
 Nat),
 ∃
 (n130
 :
 Nat),
 w126.cell?
 { block := w7.heap.size, off := (0 : Nat) } =
 some
 (Value.slice
 q128
 n129
 n130) ∧
 w126.frozen?
 { block := w7.heap.size, off := (0 : Nat) } =
 false ∧
 ∃
 (q131
 :
 Option
 Addr),
 ∃
 (n132
 :
 Nat),
 ∃
 (n133
 :
 Nat),
 w126.cell?
 { block := w7.heap.size, off := (1 : Nat) } =
 some
 (Value.slice
 q131
 n132
 n133) ∧
 w126.frozen?
 { block := w7.heap.size, off := (1 : Nat) } =
 false ∧
 ∃
 (q134
 :
 Option
 Addr),
 ∃
 (n135
 :
 Nat),
 ∃
 (n136
 :
 Nat),
 w126.cell?
 { block := w7.heap.size, off := (2 : Nat) } =
 some
 (Value.slice
 q134
 n135
 n136) ∧
 w126.frozen?
 { block := w7.heap.size, off := (2 : Nat) } =
 false ∧
 Wr
 IntKind.i64
 ((512 :
 Int) *
 i127)
 fun
 (i137 :
 Int) =>
 Known
 w126
 [(w.heap.size,
 [((0 :
 Nat),
 Value.int
 IntKind.i64
 k),
 ((1 :
 Nat),
 Value.int
 IntKind.i64
 x),
 ((2 :
 Nat),
 Value.slice
 qb
 nb
 cb),
 ((3 :
 Nat),
 Value.slice
 qk
 nk
 ck),
 ((4 :
 Nat),
 Value.int
 IntKind.u8
 fill)]),
 (w7.heap.size,
 [((0 :
 Nat),
 Value.slice
 q128
 n129
 n130),
 ((1 :
 Nat),
 Value.slice
 q131
 n132
 n133),
 ((2 :
 Nat),
 Value.slice
 q134
 n135
 n136)]),
 ((w7.alloc
 (Obj.cells
 #[Value.slice
 none
 (0 :
 Nat)
 (0 :
 Nat),
 Value.slice
 none
 (0 :
 Nat)
 (0 :
 Nat),
 Value.slice
 none
 (0 :
 Nat)
 (0 :
 Nat)]
 (29 :
 Nat))).heap.size,
 [((0 :
 Nat),
 Value.slice
 q27
 n28
 n29),
 ((1 :
 Nat),
 Value.slice
 q30
 n31
 n32),
 ((2 :
 Nat),
 Value.slice
 q33
 n34
 n35),
 ((3 :
 Nat),
 Value.slice
 q36
 n37
 n38)])] →
 Rets
 Try.prog
 (17 :
 Nat)
 #[Value.pointer
 (some
 { block := w7.heap.size, off := (0 : Nat) }),
 Value.int
 IntKind.i64
 (0 :
 Int),
 Value.int
 IntKind.i64
 i137]
 w126
 fun
 (v138 :
 Value)
 (w139 :
 World) =>
 ∃
 (q140
 :
 Option
 Addr),
 ∃
 (n141
 :
 Nat),
 ∃
 (n142
 :
 Nat),
 ∃
 (i143
 :
 Int),
 v138 =
 Value.tuple
 #[Value.slice
 q140
 n141
 n142,
 Value.int
 IntKind.i64
 i143] ∧
 Keeps
 w126
 w139
 [w.heap.size,
 (w7.alloc
 (Obj.cells
 #[Value.slice
 none
 (0 :
 Nat)
 (0 :
 Nat),
 Value.slice
 none
 (0 :
 Nat)
 (0 :
 Nat),
 Value.slice
 none
 (0 :
 Nat)
 (0 :
 Nat)]
 (29 :
 Nat))).heap.size] ∧
 ∃
 (q144
 :
 Option
 Addr),
 ∃
 (n145
 :
 Nat),
 ∃
 (n146
 :
 Nat),
 w139.cell?
 { block := w7.heap.size, off := (0 : Nat) } =
 some
 (Value.slice
 q144
 n145
 n146) ∧
 w139.frozen?
 { block := w7.heap.size, off := (0 : Nat) } =
 false ∧
 ∃
 (q147
 :
 Option
 Addr),
 ∃
 (n148
 :
 Nat),
 ∃
 (n149
 :
 Nat),
 w139.cell?
 { block := w7.heap.size, off := (1 : Nat) } =
 some
 (Value.slice
 q147
 n148
 n149) ∧
 w139.frozen?
 { block := w7.heap.size, off := (1 : Nat) } =
 false ∧
 ∃
 (q150
 :
 Option
 Addr),
 ∃
 (n151
 :
 Nat),
 ∃
 (n152
 :
 Nat),
 w139.cell?
 { block := w7.heap.size, off := (2 : Nat) } =
 some
 (Value.slice
 q150
 n151
 n152) ∧
 w139.frozen?
 { block := w7.heap.size, off := (2 : Nat) } =
 false ∧
 ∃
 (s153
 :
 ByteArray),
 s153.size =
 n102 ∧
 BytesAt
 w139
 q101
 s153 ∧
 ∃
 (s154
 :
 ByteArray),
 s154.size =
 n141 ∧
 BytesAt
 w139
 q140
 s154 ∧
 bif
 !s153.toList ==
 s154.toList then
 Known
 w139
 [(w.heap.size,
 [((0 :
 Nat),
 Value.int
 IntKind.i64
 k),
 ((1 :
 Nat),
 Value.int
 IntKind.i64
 x),
 ((2 :
 Nat),
 Value.slice
 qb
 nb
 cb),
 ((3 :
 Nat),
 Value.slice
 qk
 nk
 ck),
 ((4 :
 Nat),
 Value.int
 IntKind.u8
 fill)]),
 (w7.heap.size,
 [((0 :
 Nat),
 Value.slice
 q144
 n145
 n146),
 ((1 :
 Nat),
 Value.slice
 q147
 n148
 n149),
 ((2 :
 Nat),
 Value.slice
 q150
 n151
 n152)]),
 ((w7.alloc
 (Obj.cells
 #[Value.slice
 none
 (0 :
 Nat)
 (0 :
 Nat),
 Value.slice
 none
 (0 :
 Nat)
 (0 :
 Nat),
 Value.slice
 none
 (0 :
 Nat)
 (0 :
 Nat)]
 (29 :
 Nat))).heap.size,
 [((0 :
 Nat),
 Value.slice
 q27
 n28
 n29),
 ((1 :
 Nat),
 Value.slice
 q30
 n31
 n32),
 ((2 :
 Nat),
 Value.slice
 q33
 n34
 n35),
 ((3 :
 Nat),
 Value.slice
 q36
 n37
 n38)])] →
 R
 (Ending.returned
 (Value.bool
 false))
 w139
 else
 Known
 w139
 [(w.heap.size,
 [((0 :
 Nat),
 Value.int
 IntKind.i64
 k),
 ((1 :
 Nat),
 Value.int
 IntKind.i64
 x),
 ((2 :
 Nat),
 Value.slice
 qb
 nb
 cb),
 ((3 :
 Nat),
 Value.slice
 qk
 nk
 ck),
 ((4 :
 Nat),
 Value.int
 IntKind.u8
 fill)]),
 (w7.heap.size,
 [((0 :
 Nat),
 Value.slice
 q144
 n145
 n146),
 ((1 :
 Nat),
 Value.slice
 q147
 n148
 n149),
 ((2 :
 Nat),
 Value.slice
 q150
 n151
 n152)]),
 ((w7.alloc
 (Obj.cells
 #[Value.slice
 none
 (0 :
 Nat)
 (0 :
 Nat),
 Value.slice
 none
 (0 :
 Nat)
 (0 :
 Nat),
 Value.slice
 none
 (0 :
 Nat)
 (0 :
 Nat)]
 (29 :
 Nat))).heap.size,
 [((0 :
 Nat),
 Value.slice
 q27
 n28
 n29),
 ((1 :
 Nat),
 Value.slice
 q30
 n31
 n32),
 ((2 :
 Nat),
 Value.slice
 q33
 n34
 n35),
 ((3 :
 Nat),
 Value.slice
 q36
 n37
 n38)])] →
 Rets
 Try.prog
 (20 :
 Nat)
 #[Value.pointer
 (some
 { block := w7.heap.size, off := (0 : Nat) }),
 Value.int
 IntKind.i64
 x,
 Value.slice
 qb
 nb
 cb]
 w139
 fun
 (v155 :
 Value)
 (w156 :
 World) =>
 ∃
 (i157
 :
 Int),
 v155 =
 Value.int
 IntKind.i64
 i157 ∧
 Keeps
 w139
 w156
 [w.heap.size,
 (w7.alloc
 (Obj.cells
 #[Value.slice
 none
 (0 :
 Nat)
 (0 :
 Nat),
 Value.slice
 none
 (0 :
 Nat)
 (0 :
 Nat),
 Value.slice
 none
 (0 :
 Nat)
 (0 :
 Nat)]
 (29 :
 Nat))).heap.size] ∧
 ∃
 (q158
 :
 Option
 Addr),
 ∃
 (n159
 :
 Nat),
 ∃
 (n160
 :
 Nat),
 w156.cell?
 { block := w7.heap.size, off := (0 : Nat) } =
 some
 (Value.slice
 q158
 n159
 n160) ∧
 w156.frozen?
 { block := w7.heap.size, off := (0 : Nat) } =
 false ∧
 ∃
 (q161
 :
 Option
 Addr),
 ∃
 (n162
 :
 Nat),
 ∃
 (n163
 :
 Nat),
 w156.cell?
 { block := w7.heap.size, off := (1 : Nat) } =
 some
 (Value.slice
 q161
 n162
 n163) ∧
 w156.frozen?
 { block := w7.heap.size, off := (1 : Nat) } =
 false ∧
 ∃
 (q164
 :
 Option
 Addr),
 ∃
 (n165
 :
 Nat),
 ∃
 (n166
 :
 Nat),
 w156.cell?
 { block := w7.heap.size, off := (2 : Nat) } =
 some
 (Value.slice
 q164
 n165
 n166) ∧
 w156.frozen?
 { block := w7.heap.size, off := (2 : Nat) } =
 false ∧
 (Known
 w156
 [(w.heap.size,
 [((0 :
 Nat),
 Value.int
 IntKind.i64
 k),
 ((1 :
 Nat),
 Value.int
 IntKind.i64
 x),
 ((2 :
 Nat),
 Value.slice
 qb
 nb
 cb),
 ((3 :
 Nat),
 Value.slice
 qk
 nk
 ck),
 ((4 :
 Nat),
 Value.int
 IntKind.u8
 fill)]),
 (w7.heap.size,
 [((0 :
 Nat),
 Value.slice
 q158
 n159
 n160),
 ((1 :
 Nat),
 Value.slice
 q161
 n162
 n163),
 ((2 :
 Nat),
 Value.slice
 q164
 n165
 n166)]),
 ((w7.alloc
 (Obj.cells
 #[Value.slice
 none
 (0 :
 Nat)
 (0 :
 Nat),
 Value.slice
 none
 (0 :
 Nat)
 (0 :
 Nat),
 Value.slice
 none
 (0 :
 Nat)
 (0 :
 Nat)]
 (29 :
 Nat))).heap.size,
 [((0 :
 Nat),
 Value.slice
 q27
 n28
 n29),
 ((1 :
 Nat),
 Value.slice
 q30
 n31
 n32),
 ((2 :
 Nat),
 Value.slice
 q33
 n34
 n35),
 ((3 :
 Nat),
 Value.slice
 q36
 n37
 n38)])] →
 Rets
 Try.prog
 (18 :
 Nat)
 #[Value.pointer
 (some
 { block := w7.heap.size, off := (0 : Nat) })]
 w156
 fun
 (v167 :
 Value)
 (w168 :
 World) =>
 ∃
 (i169
 :
 Int),
 v167 =
 Value.int
 IntKind.i64
 i169 ∧
 Keeps
 w156
 w168
 [w.heap.size,
 (w7.alloc
 (Obj.cells
 #[Value.slice
 none
 (0 :
 Nat)
 (0 :
 Nat),
 Value.slice
 none
 (0 :
 Nat)
 (0 :
 Nat),
 Value.slice
 none
 (0 :
 Nat)
 (0 :
 Nat)]
 (29 :
 Nat))).heap.size] ∧
 ∃
 (q170
 :
 Option
 Addr),
 ∃
 (n171
 :
 Nat),
 ∃
 (n172
 :
 Nat),
 w168.cell?
 { block := w7.heap.size, off := (0 : Nat) } =
 some
 (Value.slice
 q170
 n171
 n172) ∧
 w168.frozen?
 { block := w7.heap.size, off := (0 : Nat) } =
 false ∧
 ∃
 (q173
 :
 Option
 Addr),
 ∃
 (n174
 :
 Nat),
 ∃
 (n175
 :
 Nat),
 w168.cell?
 { block := w7.heap.size, off := (1 : Nat) } =
 some
 (Value.slice
 q173
 n174
 n175) ∧
 w168.frozen?
 { block := w7.heap.size, off := (1 : Nat) } =
 false ∧
 ∃
 (q176
 :
 Option
 Addr),
 ∃
 (n177
 :
 Nat),
 ∃
 (n178
 :
 Nat),
 w168.cell?
 { block := w7.heap.size, off := (2 : Nat) } =
 some
 (Value.slice
 q176
 n177
 n178) ∧
 w168.frozen?
 { block := w7.heap.size, off := (2 : Nat) } =
 false ∧
 Wr
 IntKind.i64
 ((512 :
 Int) *
 i169)
 fun
 (i179 :
 Int) =>
 Known
 w168
 [(w.heap.size,
 [((0 :
 Nat),
 Value.int
 IntKind.i64
 k),
 ((1 :
 Nat),
 Value.int
 IntKind.i64
 x),
 ((2 :
 Nat),
 Value.slice
 qb
 nb
 cb),
 ((3 :
 Nat),
 Value.slice
 qk
 nk
 ck),
 ((4 :
 Nat),
 Value.int
 IntKind.u8
 fill)]),
 (w7.heap.size,
 [((0 :
 Nat),
 Value.slice
 q170
 n171
 n172),
 ((1 :
 Nat),
 Value.slice
 q173
 n174
 n175),
 ((2 :
 Nat),
 Value.slice
 q176
 n177
 n178)]),
 ((w7.alloc
 (Obj.cells
 #[Value.slice
 none
 (0 :
 Nat)
 (0 :
 Nat),
 Value.slice
 none
 (0 :
 Nat)
 (0 :
 Nat),
 Value.slice
 none
 (0 :
 Nat)
 (0 :
 Nat)]
 (29 :
 Nat))).heap.size,
 [((0 :
 Nat),
 Value.slice
 q27
 n28
 n29),
 ((1 :
 Nat),
 Value.slice
 q30
 n31
 n32),
 ((2 :
 Nat),
 Value.slice
 q33
 n34
 n35),
 ((3 :
 Nat),
 Value.slice
 q36
 n37
 n38)])] →
 Rets
 Try.prog
 (17 :
 Nat)
 #[Value.pointer
 (some
 { block := w7.heap.size, off := (0 : Nat) }),
 Value.int
 IntKind.i64
 (0 :
 Int),
 Value.int
 IntKind.i64
 i179]
 w168
 fun
 (v180 :
 Value)
 (w181 :
 World) =>
 ∃
 (q182
 :
 Option
 Addr),
 ∃
 (n183
 :
 Nat),
 ∃
 (n184
 :
 Nat),
 ∃
 (i185
 :
 Int),
 v180 =
 Value.tuple
 #[Value.slice
 q182
 n183
 n184,
 Value.int
 IntKind.i64
 i185] ∧
 Keeps
 w168
 w181
 [w.heap.size,
 (w7.alloc
 (Obj.cells
 #[Value.slice
 none
 (0 :
 Nat)
 (0 :
 Nat),
 Value.slice
 none
 (0 :
 Nat)
 (0 :
 Nat),
 Value.slice
 none
 (0 :
 Nat)
 (0 :
 Nat)]
 (29 :
 Nat))).heap.size] ∧
 ∃
 (q186
 :
 Option
 Addr),
 ∃
 (n187
 :
 Nat),
 ∃
 (n188
 :
 Nat),
 w181.cell?
 { block := w7.heap.size, off := (0 : Nat) } =
 some
 (Value.slice
 q186
 n187
 n188) ∧
 w181.frozen?
 { block := w7.heap.size, off := (0 : Nat) } =
 false ∧
 ∃
 (q189
 :
 Option
 Addr),
 ∃
 (n190
 :
 Nat),
 ∃
 (n191
 :
 Nat),
 w181.cell?
 { block := w7.heap.size, off := (1 : Nat) } =
 some
 (Value.slice
 q189
 n190
 n191) ∧
 w181.frozen?
 { block := w7.heap.size, off := (1 : Nat) } =
 false ∧
 ∃
 (q192
 :
 Option
 Addr),
 ∃
 (n193
 :
 Nat),
 ∃
 (n194
 :
 Nat),
 w181.cell?
 { block := w7.heap.size, off := (2 : Nat) } =
 some
 (Value.slice
 q192
 n193
 n194) ∧
 w181.frozen?
 { block := w7.heap.size, off := (2 : Nat) } =
 false ∧
 (Known
 w181
 [(w.heap.size,
 [((0 :
 Nat),
 Value.int
 IntKind.i64
 k),
 ((1 :
 Nat),
 Value.int
 IntKind.i64
 x),
 ((2 :
 Nat),
 Value.slice
 qb
 nb
 cb),
 ((3 :
 Nat),
 Value.slice
 qk
 nk
 ck),
 ((4 :
 Nat),
 Value.int
 IntKind.u8
 fill)]),
 (w7.heap.size,
 [((0 :
 Nat),
 Value.slice
 q186
 n187
 n188),
 ((1 :
 Nat),
 Value.slice
 q189
 n190
 n191),
 ((2 :
 Nat),
 Value.slice
 q192
 n193
 n194)]),
 ((w7.alloc
 (Obj.cells
 #[Value.slice
 none
 (0 :
 Nat)
 (0 :
 Nat),
 Value.slice
 none
 (0 :
 Nat)
 (0 :
 Nat),
 Value.slice
 none
 (0 :
 Nat)
 (0 :
 Nat)]
 (29 :
 Nat))).heap.size,
 [((0 :
 Nat),
 Value.slice
 q27
 n28
 n29),
 ((1 :
 Nat),
 Value.slice
 q30
 n31
 n32),
 ((2 :
 Nat),
 Value.slice
 q33
 n34
 n35),
 ((3 :
 Nat),
 Value.slice
 q36
 n37
 n38)])] →
 Rets
 Try.prog
 (18 :
 Nat)
 #[Value.pointer
 (some
 { block := w7.heap.size, off := (0 : Nat) })]
 w181
 fun
 (v195 :
 Value)
 (w196 :
 World) =>
 ∃
 (i197
 :
 Int),
 v195 =
 Value.int
 IntKind.i64
 i197 ∧
 Keeps
 w181
 w196
 [w.heap.size,
 (w7.alloc
 (Obj.cells
 #[Value.slice
 none
 (0 :
 Nat)
 (0 :
 Nat),
 Value.slice
 none
 (0 :
 Nat)
 (0 :
 Nat),
 Value.slice
 none
 (0 :
 Nat)
 (0 :
 Nat)]
 (29 :
 Nat))).heap.size] ∧
 ∃
 (q198
 :
 Option
 Addr),
 ∃
 (n199
 :
 Nat),
 ∃
 (n200
 :
 Nat),
 w196.cell?
 { block := w7.heap.size, off := (0 : Nat) } =
 some
 (Value.slice
 q198
 n199
 n200) ∧
 w196.frozen?
 { block := w7.heap.size, off := (0 : Nat) } =
 false ∧
 ∃
 (q201
 :
 Option
 Addr),
 ∃
 (n202
 :
 Nat),
 ∃
 (n203
 :
 Nat),
 w196.cell?
 { block := w7.heap.size, off := (1 : Nat) } =
 some
 (Value.slice
 q201
 n202
 n203) ∧
 w196.frozen?
 { block := w7.heap.size, off := (1 : Nat) } =
 false ∧
 ∃
 (q204
 :
 Option
 Addr),
 ∃
 (n205
 :
 Nat),
 ∃
 (n206
 :
 Nat),
 w196.cell?
 { block := w7.heap.size, off := (2 : Nat) } =
 some
 (Value.slice
 q204
 n205
 n206) ∧
 w196.frozen?
 { block := w7.heap.size, off := (2 : Nat) } =
 false ∧
 (Known
 w196
 [(w.heap.size,
 [((0 :
 Nat),
 Value.int
 IntKind.i64
 k),
 ((1 :
 Nat),
 Value.int
 IntKind.i64
 x),
 ((2 :
 Nat),
 Value.slice
 qb
 nb
 cb),
 ((3 :
 Nat),
 Value.slice
 qk
 nk
 ck),
 ((4 :
 Nat),
 Value.int
 IntKind.u8
 fill)]),
 (w7.heap.size,
 [((0 :
 Nat),
 Value.slice
 q198
 n199
 n200),
 ((1 :
 Nat),
 Value.slice
 q201
 n202
 n203),
 ((2 :
 Nat),
 Value.slice
 q204
 n205
 n206)]),
 ((w7.alloc
 (Obj.cells
 #[Value.slice
 none
 (0 :
 Nat)
 (0 :
 Nat),
 Value.slice
 none
 (0 :
 Nat)
 (0 :
 Nat),
 Value.slice
 none
 (0 :
 Nat)
 (0 :
 Nat)]
 (29 :
 Nat))).heap.size,
 [((0 :
 Nat),
 Value.slice
 q27
 n28
 n29),
 ((1 :
 Nat),
 Value.slice
 q30
 n31
 n32),
 ((2 :
 Nat),
 Value.slice
 q33
 n34
 n35),
 ((3 :
 Nat),
 Value.slice
 q36
 n37
 n38)])] →
 Rets
 Try.prog
 (21 :
 Nat)
 #[Value.pointer
 (some
 { block := w7.heap.size, off := (0 : Nat) })]
 w196
 fun
 (v207 :
 Value)
 (w208 :
 World) =>
 ∃
 (i209
 :
 Int),
 v207 =
 Value.int
 IntKind.i64
 i209 ∧
 Keeps
 w196
 w208
 [w.heap.size,
 (w7.alloc
 (Obj.cells
 #[Value.slice
 none
 (0 :
 Nat)
 (0 :
 Nat),
 Value.slice
 none
 (0 :
 Nat)
 (0 :
 Nat),
 Value.slice
 none
 (0 :
 Nat)
 (0 :
 Nat)]
 (29 :
 Nat))).heap.size] ∧
 ∃
 (q210
 :
 Option
 Addr),
 ∃
 (n211
 :
 Nat),
 ∃
 (n212
 :
 Nat),
 w208.cell?
 { block := w7.heap.size, off := (0 : Nat) } =
 some
 (Value.slice
 q210
 n211
 n212) ∧
 w208.frozen?
 { block := w7.heap.size, off := (0 : Nat) } =
 false ∧
 ∃
 (q213
 :
 Option
 Addr),
 ∃
 (n214
 :
 Nat),
 ∃
 (n215
 :
 Nat),
 w208.cell?
 { block := w7.heap.size, off := (1 : Nat) } =
 some
 (Value.slice
 q213
 n214
 n215) ∧
 w208.frozen?
 { block := w7.heap.size, off := (1 : Nat) } =
 false ∧
 ∃
 (q216
 :
 Option
 Addr),
 ∃
 (n217
 :
 Nat),
 ∃
 (n218
 :
 Nat),
 w208.cell?
 { block := w7.heap.size, off := (2 : Nat) } =
 some
 (Value.slice
 q216
 n217
 n218) ∧
 w208.frozen?
 { block := w7.heap.size, off := (2 : Nat) } =
 false ∧
 Runs
 Try.prog
 (Instr.makeSlice
 (31 :
 Nat)
 (Value.int
 IntKind.i64
 i209)
 (Value.int
 IntKind.i64
 i209))
 w208
 fun
 (v219 :
 Value)
 (w220 :
 World) =>
 ∃
 (q221
 :
 Option
 Addr),
 ∃
 (n222
 :
 Nat),
 ∃
 (n223
 :
 Nat),
 v219 =
 Value.slice
 q221
 n222
 n223 ∧
 Keeps
 w208
 w220
 [w.heap.size,
 w7.heap.size,
 (w7.alloc
 (Obj.cells
 #[Value.slice
 none
 (0 :
 Nat)
 (0 :
 Nat),
 Value.slice
 none
 (0 :
 Nat)
 (0 :
 Nat),
 Value.slice
 none
 (0 :
 Nat)
 (0 :
 Nat)]
 (29 :
 Nat))).heap.size] ∧
 ∃
 (I224
 :
 Int →
 World →
 Prop),
 ∃
 (I225
 :
 Int →
 World →
 Nat),
 I224
 (0 :
 Int)
 w220 ∧
 ∀
 (i226 :
 Int)
 (w227 :
 World),
 I224
 i226
 w227 →
 Known
 w227
 [(w.heap.size,
 [((0 :
 Nat),
 Value.int
 IntKind.i64
 k),
 ((1 :
 Nat),
 Value.int
 IntKind.i64
 x),
 ((2 :
 Nat),
 Value.slice
 qb
 nb
 cb),
 ((3 :
 Nat),
 Value.slice
 qk
 nk
 ck),
 ((4 :
 Nat),
 Value.int
 IntKind.u8
 fill)]),
 (w7.heap.size,
 [((0 :
 Nat),
 Value.slice
 q210
 n211
 n212),
 ((1 :
 Nat),
 Value.slice
 q213
 n214
 n215),
 ((2 :
 Nat),
 Value.slice
 q216
 n217
 n218)]),
 ((w7.alloc
 (Obj.cells
 #[Value.slice
 none
 (0 :
 Nat)
 (0 :
 Nat),
 Value.slice
 none
 (0 :
 Nat)
 (0 :
 Nat),
 Value.slice
 none
 (0 :
 Nat)
 (0 :
 Nat)]
 (29 :
 Nat))).heap.size,
 [((0 :
 Nat),
 Value.slice
 q27
 n28
 n29),
 ((1 :
 Nat),
 Value.slice
 q30
 n31
 n32),
 ((2 :
 Nat),
 Value.slice
 q33
 n34
 n35),
 ((3 :
 Nat),
 Value.slice
 q36
 n37
 n38)])] →
 bif
 decide
 (i226 <
 (↑n222 :
 Int)) then
 ((0 :
 Int) ≤
 i226 ∧
 i226 <
 (↑n222 :
 Int)) ∧
 SX.Ptr
 q221
 fun
 (a228 :
 Addr) =>
 (∃
 (v229
 :
 Value),
 w227.cell?
 ((a228.add
 (i226.toNat *
 (1 :
 Nat))).add
 (0 :
 Nat)) =
 some
 v229) ∧
 w227.frozen?
 ((a228.add
 (i226.toNat *
 (1 :
 Nat))).add
 (0 :
 Nat)) =
 false ∧
 Apart
 ((a228.add
 (i226.toNat *
 (1 :
 Nat))).add
 (0 :
 Nat))
 w.heap.size
 [(0 :
 Nat),
 (1 :
 Nat),
 (2 :
 Nat),
 (3 :
 Nat),
 (4 :
 Nat)] ∧
 Apart
 ((a228.add
 (i226.toNat *
 (1 :
 Nat))).add
 (0 :
 Nat))
 w7.heap.size
 [(0 :
 Nat),
 (1 :
 Nat),
 (2 :
 Nat)] ∧
 Apart
 ((a228.add
 (i226.toNat *
 (1 :
 Nat))).add
 (0 :
 Nat))
 (w7.alloc
 (Obj.cells
 #[Value.slice
 none
 (0 :
 Nat)
 (0 :
 Nat),
 Value.slice
 none
 (0 :
 Nat)
 (0 :
 Nat),
 Value.slice
 none
 (0 :
 Nat)
 (0 :
 Nat)]
 (29 :
 Nat))).heap.size
 [(0 :
 Nat),
 (1 :
 Nat),
 (2 :
 Nat),
 (3 :
 Nat)] ∧
 Wr
 IntKind.i64
 (i226 +
 (1 :
 Int))
 fun
 (i230 :
 Int) =>
 SameVals
 [Value.int
 IntKind.i64
 k,
 Value.int
 IntKind.i64
 x,
 Value.slice
 qb
 nb
 cb,
 Value.slice
 qk
 nk
 ck,
 Value.int
 IntKind.u8
 fill,
 Value.slice
 q210
 n211
 n212,
 Value.slice
 q213
 n214
 n215,
 Value.slice
 q216
 n217
 n218,
 Value.slice
 q27
 n28
 n29,
 Value.slice
 q30
 n31
 n32,
 Value.slice
 q33
 n34
 n35,
 Value.slice
 q36
 n37
 n38]
 [Value.int
 IntKind.i64
 k,
 Value.int
 IntKind.i64
 x,
 Value.slice
 qb
 nb
 cb,
 Value.slice
 qk
 nk
 ck,
 Value.int
 IntKind.u8
 fill,
 Value.slice
 q210
 n211
 n212,
 Value.slice
 q213
 n214
 n215,
 Value.slice
 q216
 n217
 n218,
 Value.slice
 q27
 n28
 n29,
 Value.slice
 q30
 n31
 n32,
 Value.slice
 q33
 n34
 n35,
 Value.slice
 q36
 n37
 n38] ∧
 I224
 i230
 (w227.setCell
 ((a228.add
 (i226.toNat *
 (1 :
 Nat))).add
 (0 :
 Nat))
 (Value.bool
 true)) ∧
 I225
 i230
 (w227.setCell
 ((a228.add
 (i226.toNat *
 (1 :
 Nat))).add
 (0 :
 Nat))
 (Value.bool
 true)) <
 I225
 i226
 w227
 else
 (512 :
 Int) ≠
 (0 :
 Int) ∧
 Wr
 IntKind.i64
 ((↑n141 :
 Int).tdiv
 (512 :
 Int))
 fun
 (i231 :
 Int) =>
 bif
 i231 ==
 i197 then
 Known
 w227
 [(w.heap.size,
 [((0 :
 Nat),
 Value.int
 IntKind.i64
 k),
 ((1 :
 Nat),
 Value.int
 IntKind.i64
 x),
 ((2 :
 Nat),
 Value.slice
 qb
 nb
 cb),
 ((3 :
 Nat),
 Value.slice
 qk
 nk
 ck),
 ((4 :
 Nat),
 Value.int
 IntKind.u8
 fill)]),
 (w7.heap.size,
 [((0 :
 Nat),
 Value.slice
 q210
 n211
 n212),
 ((1 :
 Nat),
 Value.slice
 q213
 n214
 n215),
 ((2 :
 Nat),
 Value.slice
 q216
 n217
 n218)]),
 ((w7.alloc
 (Obj.cells
 #[Value.slice
 none
 (0 :
 Nat)
 (0 :
 Nat),
 Value.slice
 none
 (0 :
 Nat)
 (0 :
 Nat),
 Value.slice
 none
 (0 :
 Nat)
 (0 :
 Nat)]
 (29 :
 Nat))).heap.size,
 [((0 :
 Nat),
 Value.slice
 q27
 n28
 n29),
 ((1 :
 Nat),
 Value.slice
 q30
 n31
 n32),
 ((2 :
 Nat),
 Value.slice
 q33
 n34
 n35),
 ((3 :
 Nat),
 Value.slice
 q36
 n37
 n38)])] →
 Rets
 Try.prog
 (19 :
 Nat)
 #[Value.pointer
 (some
 { block := w7.heap.size, off := (0 : Nat) }),
 Value.slice
 q221
 n222
 n223,
 Value.int
 IntKind.u8
 fill]
 w227
 fun
 (v232 :
 Value)
 (w233 :
 World) =>
 v232 =
 Value.tuple
 #[] ∧
 Keeps
 w227
 w233
 [w.heap.size,
 (w7.alloc
 (Obj.cells
 #[Value.slice
 none
 (0 :
 Nat)
 (0 :
 Nat),
 Value.slice
 none
 (0 :
 Nat)
 (0 :
 Nat),
 Value.slice
 none
 (0 :
 Nat)
 (0 :
 Nat)]
 (29 :
 Nat))).heap.size] ∧
 ∃
 (q234
 :
 Option
 Addr),
 ∃
 (n235
 :
 Nat),
 ∃
 (n236
 :
 Nat),
 w233.cell?
 { block := w7.heap.size, off := (0 : Nat) } =
 some
 (Value.slice
 q234
 n235
 n236) ∧
 w233.frozen?
 { block := w7.heap.size, off := (0 : Nat) } =
 false ∧
 ∃
 (q237
 :
 Option
 Addr),
 ∃
 (n238
 :
 Nat),
 ∃
 (n239
 :
 Nat),
 w233.cell?
 { block := w7.heap.size, off := (1 : Nat) } =
 some
 (Value.slice
 q237
 n238
 n239) ∧
 w233.frozen?
 { block := w7.heap.size, off := (1 : Nat) } =
 false ∧
 ∃
 (q240
 :
 Option
 Addr),
 ∃
 (n241
 :
 Nat),
 ∃
 (n242
 :
 Nat),
 w233.cell?
 { block := w7.heap.size, off := (2 : Nat) } =
 some
 (Value.slice
 q240
 n241
 n242) ∧
 w233.frozen?
 { block := w7.heap.size, off := (2 : Nat) } =
 false ∧
 (Known
 w233
 [(w.heap.size,
 [((0 :
 Nat),
 Value.int
 IntKind.i64
 k),
 ((1 :
 Nat),
 Value.int
 IntKind.i64
 x),
 ((2 :
 Nat),
 Value.slice
 qb
 nb
 cb),
 ((3 :
 Nat),
 Value.slice
 qk
 nk
 ck),
 ((4 :
 Nat),
 Value.int
 IntKind.u8
 fill)]),
 (w7.heap.size,
 [((0 :
 Nat),
 Value.slice
 q234
 n235
 n236),
 ((1 :
 Nat),
 Value.slice
 q237
 n238
 n239),
 ((2 :
 Nat),
 Value.slice
 q240
 n241
 n242)]),
 ((w7.alloc
 (Obj.cells
 #[Value.slice
 none
 (0 :
 Nat)
 (0 :
 Nat),
 Value.slice
 none
 (0 :
 Nat)
 (0 :
 Nat),
 Value.slice
 none
 (0 :
 Nat)
 (0 :
 Nat)]
 (29 :
 Nat))).heap.size,
 [((0 :
 Nat),
 Value.slice
 q27
 n28
 n29),
 ((1 :
 Nat),
 Value.slice
 q30
 n31
 n32),
 ((2 :
 Nat),
 Value.slice
 q33
 n34
 n35),
 ((3 :
 Nat),
 Value.slice
 q36
 n37
 n38)])] →
 Rets
 Try.prog
 (18 :
 Nat)
 #[Value.pointer
 (some
 { block := w7.heap.size, off := (0 : Nat) })]
 w233
 fun
 (v243 :
 Value)
 (w244 :
 World) =>
 ∃
 (i245
 :
 Int),
 v243 =
 Value.int
 IntKind.i64
 i245 ∧
 Keeps
 w233
 w244
 [w.heap.size,
 (w7.alloc
 (Obj.cells
 #[Value.slice
 none
 (0 :
 Nat)
 (0 :
 Nat),
 Value.slice
 none
 (0 :
 Nat)
 (0 :
 Nat),
 Value.slice
 none
 (0 :
 Nat)
 (0 :
 Nat)]
 (29 :
 Nat))).heap.size] ∧
 ∃
 (q246
 :
 Option
 Addr),
 ∃
 (n247
 :
 Nat),
 ∃
 (n248
 :
 Nat),
 w244.cell?
 { block := w7.heap.size, off := (0 : Nat) } =
 some
 (Value.slice
 q246
 n247
 n248) ∧
 w244.frozen?
 { block := w7.heap.size, off := (0 : Nat) } =
 false ∧
 ∃
 (q249
 :
 Option
 Addr),
 ∃
 (n250
 :
 Nat),
 ∃
 (n251
 :
 Nat),
 w244.cell?
 { block := w7.heap.size, off := (1 : Nat) } =
 some
 (Value.slice
 q249
 n250
 n251) ∧
 w244.frozen?
 { block := w7.heap.size, off := (1 : Nat) } =
 false ∧
 ∃
 (q252
 :
 Option
 Addr),
 ∃
 (n253
 :
 Nat),
 ∃
 (n254
 :
 Nat),
 w244.cell?
 { block := w7.heap.size, off := (2 : Nat) } =
 some
 (Value.slice
 q252
 n253
 n254) ∧
 w244.frozen?
 { block := w7.heap.size, off := (2 : Nat) } =
 false ∧
 Wr
 IntKind.i64
 ((512 :
 Int) *
 i245)
 fun
 (i255 :
 Int) =>
 Known
 w244
 [(w.heap.size,
 [((0 :
 Nat),
 Value.int
 IntKind.i64
 k),
 ((1 :
 Nat),
 Value.int
 IntKind.i64
 x),
 ((2 :
 Nat),
 Value.slice
 qb
 nb
 cb),
 ((3 :
 Nat),
 Value.slice
 qk
 nk
 ck),
 ((4 :
 Nat),
 Value.int
 IntKind.u8
 fill)]),
 (w7.heap.size,
 [((0 :
 Nat),
 Value.slice
 q246
 n247
 n248),
 ((1 :
 Nat),
 Value.slice
 q249
 n250
 n251),
 ((2 :
 Nat),
 Value.slice
 q252
 n253
 n254)]),
 ((w7.alloc
 (Obj.cells
 #[Value.slice
 none
 (0 :
 Nat)
 (0 :
 Nat),
 Value.slice
 none
 (0 :
 Nat)
 (0 :
 Nat),
 Value.slice
 none
 (0 :
 Nat)
 (0 :
 Nat)]
 (29 :
 Nat))).heap.size,
 [((0 :
 Nat),
 Value.slice
 q27
 n28
 n29),
 ((1 :
 Nat),
 Value.slice
 q30
 n31
 n32),
 ((2 :
 Nat),
 Value.slice
 q33
 n34
 n35),
 ((3 :
 Nat),
 Value.slice
 q36
 n37
 n38)])] →
 Rets
 Try.prog
 (17 :
 Nat)
 #[Value.pointer
 (some
 { block := w7.heap.size, off := (0 : Nat) }),
 Value.int
 IntKind.i64
 (0 :
 Int),
 Value.int
 IntKind.i64
 i255]
 w244
 fun
 (v256 :
 Value)
 (w257 :
 World) =>
 ∃
 (q258
 :
 Option
 Addr),
 ∃
 (n259
 :
 Nat),
 ∃
 (n260
 :
 Nat),
 ∃
 (i261
 :
 Int),
 v256 =
 Value.tuple
 #[Value.slice
 q258
 n259
 n260,
 Value.int
 IntKind.i64
 i261] ∧
 Keeps
 w244
 w257
 [w.heap.size,
 (w7.alloc
 (Obj.cells
 #[Value.slice
 none
 (0 :
 Nat)
 (0 :
 Nat),
 Value.slice
 none
 (0 :
 Nat)
 (0 :
 Nat),
 Value.slice
 none
 (0 :
 Nat)
 (0 :
 Nat)]
 (29 :
 Nat))).heap.size] ∧
 ∃
 (q262
 :
 Option
 Addr),
 ∃
 (n263
 :
 Nat),
 ∃
 (n264
 :
 Nat),
 w257.cell?
 { block := w7.heap.size, off := (0 : Nat) } =
 some
 (Value.slice
 q262
 n263
 n264) ∧
 w257.frozen?
 { block := w7.heap.size, off := (0 : Nat) } =
 false ∧
 ∃
 (q265
 :
 Option
 Addr),
 ∃
 (n266
 :
 Nat),
 ∃
 (n267
 :
 Nat),
 w257.cell?
 { block := w7.heap.size, off := (1 : Nat) } =
 some
 (Value.slice
 q265
 n266
 n267) ∧
 w257.frozen?
 { block := w7.heap.size, off := (1 : Nat) } =
 false ∧
 ∃
 (q268
 :
 Option
 Addr),
 ∃
 (n269
 :
 Nat),
 ∃
 (n270
 :
 Nat),
 w257.cell?
 { block := w7.heap.size, off := (2 : Nat) } =
 some
 (Value.slice
 q268
 n269
 n270) ∧
 w257.frozen?
 { block := w7.heap.size, off := (2 : Nat) } =
 false ∧
 ∃
 (s271
 :
 ByteArray),
 s271.size =
 n183 ∧
 BytesAt
 w257
 q182
 s271 ∧
 ∃
 (s272
 :
 ByteArray),
 s272.size =
 n259 ∧
 BytesAt
 w257
 q258
 s272 ∧
 bif
 !s271.toList ==
 s272.toList then
 Known
 w257
 [(w.heap.size,
 [((0 :
 Nat),
 Value.int
 IntKind.i64
 k),
 ((1 :
 Nat),
 Value.int
 IntKind.i64
 x),
 ((2 :
 Nat),
 Value.slice
 qb
 nb
 cb),
 ((3 :
 Nat),
 Value.slice
 qk
 nk
 ck),
 ((4 :
 Nat),
 Value.int
 IntKind.u8
 fill)]),
 (w7.heap.size,
 [((0 :
 Nat),
 Value.slice
 q262
 n263
 n264),
 ((1 :
 Nat),
 Value.slice
 q265
 n266
 n267),
 ((2 :
 Nat),
 Value.slice
 q268
 n269
 n270)]),
 ((w7.alloc
 (Obj.cells
 #[Value.slice
 none
 (0 :
 Nat)
 (0 :
 Nat),
 Value.slice
 none
 (0 :
 Nat)
 (0 :
 Nat),
 Value.slice
 none
 (0 :
 Nat)
 (0 :
 Nat)]
 (29 :
 Nat))).heap.size,
 [((0 :
 Nat),
 Value.slice
 q27
 n28
 n29),
 ((1 :
 Nat),
 Value.slice
 q30
 n31
 n32),
 ((2 :
 Nat),
 Value.slice
 q33
 n34
 n35),
 ((3 :
 Nat),
 Value.slice
 q36
 n37
 n38)])] →
 R
 (Ending.returned
 (Value.bool
 false))
 w257
 else
 Known
 w257
 [(w.heap.size,
 [((0 :
 Nat),
 Value.int
 IntKind.i64
 k),
 ((1 :
 Nat),
 Value.int
 IntKind.i64
 x),
 ((2 :
 Nat),
 Value.slice
 qb
 nb
 cb),
 ((3 :
 Nat),
 Value.slice
 qk
 nk
 ck),
 ((4 :
 Nat),
 Value.int
 IntKind.u8
 fill)]),
 (w7.heap.size,
 [((0 :
 Nat),
 Value.slice
 q262
 n263
 n264),
 ((1 :
 Nat),
 Value.slice
 q265
 n266
 n267),
 ((2 :
 Nat),
 Value.slice
 q268
 n269
 n270)]),
 ((w7.alloc
 (Obj.cells
 #[Value.slice
 none
 (0 :
 Nat)
 (0 :
 Nat),
 Value.slice
 none
 (0 :
 Nat)
 (0 :
 Nat),
 Value.slice
 none
 (0 :
 Nat)
 (0 :
 Nat)]
 (29 :
 Nat))).heap.size,
 [((0 :
 Nat),
 Value.slice
 q27
 n28
 n29),
 ((1 :
 Nat),
 Value.slice
 q30
 n31
 n32),
 ((2 :
 Nat),
 Value.slice
 q33
 n34
 n35),
 ((3 :
 Nat),
 Value.slice
 q36
 n37
 n38)])] →
 Rets
 Try.prog
 (19 :
 Nat)
 #[Value.pointer
 (some
 { block := w7.heap.size, off := (0 : Nat) }),
 Value.slice
 qk
 nk
 ck,
 Value.int
 IntKind.u8
 fill]
 w257
 fun
 (v273 :
 Value)
 (w274 :
 World) =>
 v273 =
 Value.tuple
 #[] ∧
 Keeps
 w257
 w274
 [w.heap.size,
 (w7.alloc
 (Obj.cells
 #[Value.slice
 none
 (0 :
 Nat)
 (0 :
 Nat),
 Value.slice
 none
 (0 :
 Nat)
 (0 :
 Nat),
 Value.slice
 none
 (0 :
 Nat)
 (0 :
 Nat)]
 (29 :
 Nat))).heap.size] ∧
 ∃
 (q275
 :
 Option
 Addr),
 ∃
 (n276
 :
 Nat),
 ∃
 (n277
 :
 Nat),
 w274.cell?
 { block := w7.heap.size, off := (0 : Nat) } =
 some
 (Value.slice
 q275
 n276
 n277) ∧
 w274.frozen?
 { block := w7.heap.size, off := (0 : Nat) } =
 false ∧
 ∃
 (q278
 :
 Option
 Addr),
 ∃
 (n279
 :
 Nat),
 ∃
 (n280
 :
 Nat),
 w274.cell?
 { block := w7.heap.size, off := (1 : Nat) } =
 some
 (Value.slice
 q278
 n279
 n280) ∧
 w274.frozen?
 { block := w7.heap.size, off := (1 : Nat) } =
 false ∧
 ∃
 (q281
 :
 Option
 Addr),
 ∃
 (n282
 :
 Nat),
 ∃
 (n283
 :
 Nat),
 w274.cell?
 { block := w7.heap.size, off := (2 : Nat) } =
 some
 (Value.slice
 q281
 n282
 n283) ∧
 w274.frozen?
 { block := w7.heap.size, off := (2 : Nat) } =
 false ∧
 (Known
 w274
 [(w.heap.size,
 [((0 :
 Nat),
 Value.int
 IntKind.i64
 k),
 ((1 :
 Nat),
 Value.int
 IntKind.i64
 x),
 ((2 :
 Nat),
 Value.slice
 qb
 nb
 cb),
 ((3 :
 Nat),
 Value.slice
 qk
 nk
 ck),
 ((4 :
 Nat),
 Value.int
 IntKind.u8
 fill)]),
 (w7.heap.size,
 [((0 :
 Nat),
 Value.slice
 q275
 n276
 n277),
 ((1 :
 Nat),
 Value.slice
 q278
 n279
 n280),
 ((2 :
 Nat),
 Value.slice
 q281
 n282
 n283)]),
 ((w7.alloc
 (Obj.cells
 #[Value.slice
 none
 (0 :
 Nat)
 (0 :
 Nat),
 Value.slice
 none
 (0 :
 Nat)
 (0 :
 Nat),
 Value.slice
 none
 (0 :
 Nat)
 (0 :
 Nat)]
 (29 :
 Nat))).heap.size,
 [((0 :
 Nat),
 Value.slice
 q27
 n28
 n29),
 ((1 :
 Nat),
 Value.slice
 q30
 n31
 n32),
 ((2 :
 Nat),
 Value.slice
 q33
 n34
 n35),
 ((3 :
 Nat),
 Value.slice
 q36
 n37
 n38)])] →
 Rets
 Try.prog
 (18 :
 Nat)
 #[Value.pointer
 (some
 { block := w7.heap.size, off := (0 : Nat) })]
 w274
 fun
 (v284 :
 Value)
 (w285 :
 World) =>
 ∃
 (i286
 :
 Int),
 v284 =
 Value.int
 IntKind.i64
 i286 ∧
 Keeps
 w274
 w285
 [w.heap.size,
 (w7.alloc
 (Obj.cells
 #[Value.slice
 none
 (0 :
 Nat)
 (0 :
 Nat),
 Value.slice
 none
 (0 :
 Nat)
 (0 :
 Nat),
 Value.slice
 none
 (0 :
 Nat)
 (0 :
 Nat)]
 (29 :
 Nat))).heap.size] ∧
 ∃
 (q287
 :
 Option
 Addr),
 ∃
 (n288
 :
 Nat),
 ∃
 (n289
 :
 Nat),
 w285.cell?
 { block := w7.heap.size, off := (0 : Nat) } =
 some
 (Value.slice
 q287
 n288
 n289) ∧
 w285.frozen?
 { block := w7.heap.size, off := (0 : Nat) } =
 false ∧
 ∃
 (q290
 :
 Option
 Addr),
 ∃
 (n291
 :
 Nat),
 ∃
 (n292
 :
 Nat),
 w285.cell?
 { block := w7.heap.size, off := (1 : Nat) } =
 some
 (Value.slice
 q290
 n291
 n292) ∧
 w285.frozen?
 { block := w7.heap.size, off := (1 : Nat) } =
 false ∧
 ∃
 (q293
 :
 Option
 Addr),
 ∃
 (n294
 :
 Nat),
 ∃
 (n295
 :
 Nat),
 w285.cell?
 { block := w7.heap.size, off := (2 : Nat) } =
 some
 (Value.slice
 q293
 n294
 n295) ∧
 w285.frozen?
 { block := w7.heap.size, off := (2 : Nat) } =
 false ∧
 Wr
 IntKind.i64
 ((512 :
 Int) *
 i286)
 fun
 (i296 :
 Int) =>
 Known
 w285
 [(w.heap.size,
 [((0 :
 Nat),
 Value.int
 IntKind.i64
 k),
 ((1 :
 Nat),
 Value.int
 IntKind.i64
 x),
 ((2 :
 Nat),
 Value.slice
 qb
 nb
 cb),
 ((3 :
 Nat),
 Value.slice
 qk
 nk
 ck),
 ((4 :
 Nat),
 Value.int
 IntKind.u8
 fill)]),
 (w7.heap.size,
 [((0 :
 Nat),
 Value.slice
 q287
 n288
 n289),
 ((1 :
 Nat),
 Value.slice
 q290
 n291
 n292),
 ((2 :
 Nat),
 Value.slice
 q293
 n294
 n295)]),
 ((w7.alloc
 (Obj.cells
 #[Value.slice
 none
 (0 :
 Nat)
 (0 :
 Nat),
 Value.slice
 none
 (0 :
 Nat)
 (0 :
 Nat),
 Value.slice
 none
 (0 :
 Nat)
 (0 :
 Nat)]
 (29 :
 Nat))).heap.size,
 [((0 :
 Nat),
 Value.slice
 q27
 n28
 n29),
 ((1 :
 Nat),
 Value.slice
 q30
 n31
 n32),
 ((2 :
 Nat),
 Value.slice
 q33
 n34
 n35),
 ((3 :
 Nat),
 Value.slice
 q36
 n37
 n38)])] →
 Rets
 Try.prog
 (17 :
 Nat)
 #[Value.pointer
 (some
 { block := w7.heap.size, off := (0 : Nat) }),
 Value.int
 IntKind.i64
 (0 :
 Int),
 Value.int
 IntKind.i64
 i296]
 w285
 fun
 (v297 :
 Value)
 (w298 :
 World) =>
 ∃
 (q299
 :
 Option
 Addr),
 ∃
 (n300
 :
 Nat),
 ∃
 (n301
 :
 Nat),
 ∃
 (i302
 :
 Int),
 v297 =
 Value.tuple
 #[Value.slice
 q299
 n300
 n301,
 Value.int
 IntKind.i64
 i302] ∧
 Keeps
 w285
 w298
 [w.heap.size,
 (w7.alloc
 (Obj.cells
 #[Value.slice
 none
 (0 :
 Nat)
 (0 :
 Nat),
 Value.slice
 none
 (0 :
 Nat)
 (0 :
 Nat),
 Value.slice
 none
 (0 :
 Nat)
 (0 :
 Nat)]
 (29 :
 Nat))).heap.size] ∧
 ∃
 (q303
 :
 Option
 Addr),
 ∃
 (n304
 :
 Nat),
 ∃
 (n305
 :
 Nat),
 w298.cell?
 { block := w7.heap.size, off := (0 : Nat) } =
 some
 (Value.slice
 q303
 n304
 n305) ∧
 w298.frozen?
 { block := w7.heap.size, off := (0 : Nat) } =
 false ∧
 ∃
 (q306
 :
 Option
 Addr),
 ∃
 (n307
 :
 Nat),
 ∃
 (n308
 :
 Nat),
 w298.cell?
 { block := w7.heap.size, off := (1 : Nat) } =
 some
 (Value.slice
 q306
 n307
 n308) ∧
 w298.frozen?
 { block := w7.heap.size, off := (1 : Nat) } =
 false ∧
 ∃
 (q309
 :
 Option
 Addr),
 ∃
 (n310
 :
 Nat),
 ∃
 (n311
 :
 Nat),
 w298.cell?
 { block := w7.heap.size, off := (2 : Nat) } =
 some
 (Value.slice
 q309
 n310
 n311) ∧
 w298.frozen?
 { block := w7.heap.size, off := (2 : Nat) } =
 false ∧
 Wr
 IntKind.u8
 (fill +
 (1 :
 Int))
 fun
 (i312 :
 Int) =>
 Known
 w298
 [(w.heap.size,
 [((0 :
 Nat),
 Value.int
 IntKind.i64
 k),
 ((1 :
 Nat),
 Value.int
 IntKind.i64
 x),
 ((2 :
 Nat),
 Value.slice
 qb
 nb
 cb),
 ((3 :
 Nat),
 Value.slice
 qk
 nk
 ck),
 ((4 :
 Nat),
 Value.int
 IntKind.u8
 fill)]),
 (w7.heap.size,
 [((0 :
 Nat),
 Value.slice
 q303
 n304
 n305),
 ((1 :
 Nat),
 Value.slice
 q306
 n307
 n308),
 ((2 :
 Nat),
 Value.slice
 q309
 n310
 n311)]),
 ((w7.alloc
 (Obj.cells
 #[Value.slice
 none
 (0 :
 Nat)
 (0 :
 Nat),
 Value.slice
 none
 (0 :
 Nat)
 (0 :
 Nat),
 Value.slice
 none
 (0 :
 Nat)
 (0 :
 Nat)]
 (29 :
 Nat))).heap.size,
 [((0 :
 Nat),
 Value.slice
 q27
 n28
 n29),
 ((1 :
 Nat),
 Value.slice
 q30
 n31
 n32),
 ((2 :
 Nat),
 Value.slice
 q33
 n34
 n35),
 ((3 :
 Nat),
 Value.slice
 q36
 n37
 n38)])] →
 Rets
 Try.prog
 (19 :
 Nat)
 #[Value.pointer
 (some
 { block := w7.heap.size, off := (0 : Nat) }),
 Value.slice
 none
 (0 :
 Nat)
 (0 :
 Nat),
 Value.int
 IntKind.u8
 i312]
 w298
 fun
 (v313 :
 Value)
 (w314 :
 World) =>
 v313 =
 Value.tuple
 #[] ∧
 Keeps
 w298
 w314
 [w.heap.size,
 (w7.alloc
 (Obj.cells
 #[Value.slice
 none
 (0 :
 Nat)
 (0 :
 Nat),
 Value.slice
 none
 (0 :
 Nat)
 (0 :
 Nat),
 Value.slice
 none
 (0 :
 Nat)
 (0 :
 Nat)]
 (29 :
 Nat))).heap.size] ∧
 ∃
 (q315
 :
 Option
 Addr),
 ∃
 (n316
 :
 Nat),
 ∃
 (n317
 :
 Nat),
 w314.cell?
 { block := w7.heap.size, off := (0 : Nat) } =
 some
 (Value.slice
 q315
 n316
 n317) ∧
 w314.frozen?
 { block := w7.heap.size, off := (0 : Nat) } =
 false ∧
 ∃
 (q318
 :
 Option
 Addr),
 ∃
 (n319
 :
 Nat),
 ∃
 (n320
 :
 Nat),
 w314.cell?
 { block := w7.heap.size, off := (1 : Nat) } =
 some
 (Value.slice
 q318
 n319
 n320) ∧
 w314.frozen?
 { block := w7.heap.size, off := (1 : Nat) } =
 false ∧
 ∃
 (q321
 :
 Option
 Addr),
 ∃
 (n322
 :
 Nat),
 ∃
 (n323
 :
 Nat),
 w314.cell?
 { block := w7.heap.size, off := (2 : Nat) } =
 some
 (Value.slice
 q321
 n322
 n323) ∧
 w314.frozen?
 { block := w7.heap.size, off := (2 : Nat) } =
 false ∧
 (Known
 w314
 [(w.heap.size,
 [((0 :
 Nat),
 Value.int
 IntKind.i64
 k),
 ((1 :
 Nat),
 Value.int
 IntKind.i64
 x),
 ((2 :
 Nat),
 Value.slice
 qb
 nb
 cb),
 ((3 :
 Nat),
 Value.slice
 qk
 nk
 ck),
 ((4 :
 Nat),
 Value.int
 IntKind.u8
 fill)]),
 (w7.heap.size,
 [((0 :
 Nat),
 Value.slice
 q315
 n316
 n317),
 ((1 :
 Nat),
 Value.slice
 q318
 n319
 n320),
 ((2 :
 Nat),
 Value.slice
 q321
 n322
 n323)]),
 ((w7.alloc
 (Obj.cells
 #[Value.slice
 none
 (0 :
 Nat)
 (0 :
 Nat),
 Value.slice
 none
 (0 :
 Nat)
 (0 :
 Nat),
 Value.slice
 none
 (0 :
 Nat)
 (0 :
 Nat)]
 (29 :
 Nat))).heap.size,
 [((0 :
 Nat),
 Value.slice
 q27
 n28
 n29),
 ((1 :
 Nat),
 Value.slice
 q30
 n31
 n32),
 ((2 :
 Nat),
 Value.slice
 q33
 n34
 n35),
 ((3 :
 Nat),
 Value.slice
 q36
 n37
 n38)])] →
 Rets
 Try.prog
 (18 :
 Nat)
 #[Value.pointer
 (some
 { block := w7.heap.size, off := (0 : Nat) })]
 w314
 fun
 (v324 :
 Value)
 (w325 :
 World) =>
 ∃
 (i326
 :
 Int),
 v324 =
 Value.int
 IntKind.i64
 i326 ∧
 Keeps
 w314
 w325
 [w.heap.size,
 (w7.alloc
 (Obj.cells
 #[Value.slice
 none
 (0 :
 Nat)
 (0 :
 Nat),
 Value.slice
 none
 (0 :
 Nat)
 (0 :
 Nat),
 Value.slice
 none
 (0 :
 Nat)
 (0 :
 Nat)]
 (29 :
 Nat))).heap.size] ∧
 ∃
 (q327
 :
 Option
 Addr),
 ∃
 (n328
 :
 Nat),
 ∃
 (n329
 :
 Nat),
 w325.cell?
 { block := w7.heap.size, off := (0 : Nat) } =
 some
 (Value.slice
 q327
 n328
 n329) ∧
 w325.frozen?
 { block := w7.heap.size, off := (0 : Nat) } =
 false ∧
 ∃
 (q330
 :
 Option
 Addr),
 ∃
 (n331
 :
 Nat),
 ∃
 (n332
 :
 Nat),
 w325.cell?
 { block := w7.heap.size, off := (1 : Nat) } =
 some
 (Value.slice
 q330
 n331
 n332) ∧
 w325.frozen?
 { block := w7.heap.size, off := (1 : Nat) } =
 false ∧
 ∃
 (q333
 :
 Option
 Addr),
 ∃
 (n334
 :
 Nat),
 ∃
 (n335
 :
 Nat),
 w325.cell?
 { block := w7.heap.size, off := (2 : Nat) } =
 some
 (Value.slice
 q333
 n334
 n335) ∧
 w325.frozen?
 { block := w7.heap.size, off := (2 : Nat) } =
 false ∧
 Wr
 IntKind.i64
 ((512 :
 Int) *
 i326)
 fun
 (i336 :
 Int) =>
 Known
 w325
 [(w.heap.size,
 [((0 :
 Nat),
 Value.int
 IntKind.i64
 k),
 ((1 :
 Nat),
 Value.int
 IntKind.i64
 x),
 ((2 :
 Nat),
 Value.slice
 qb
 nb
 cb),
 ((3 :
 Nat),
 Value.slice
 qk
 nk
 ck),
 ((4 :
 Nat),
 Value.int
 IntKind.u8
 fill)]),
 (w7.heap.size,
 [((0 :
 Nat),
 Value.slice
 q327
 n328
 n329),
 ((1 :
 Nat),
 Value.slice
 q330
 n331
 n332),
 ((2 :
 Nat),
 Value.slice
 q333
 n334
 n335)]),
 ((w7.alloc
 (Obj.cells
 #[Value.slice
 none
 (0 :
 Nat)
 (0 :
 Nat),
 Value.slice
 none
 (0 :
 Nat)
 (0 :
 Nat),
 Value.slice
 none
 (0 :
 Nat)
 (0 :
 Nat)]
 (29 :
 Nat))).heap.size,
 [((0 :
 Nat),
 Value.slice
 q27
 n28
 n29),
 ((1 :
 Nat),
 Value.slice
 q30
 n31
 n32),
 ((2 :
 Nat),
 Value.slice
 q33
 n34
 n35),
 ((3 :
 Nat),
 Value.slice
 q36
 n37
 n38)])] →
 Rets
 Try.prog
 (17 :
 Nat)
 #[Value.pointer
 (some
 { block := w7.heap.size, off := (0 : Nat) }),
 Value.int
 IntKind.i64
 (0 :
 Int),
 Value.int
 IntKind.i64
 i336]
 w325
 fun
 (v337 :
 Value)
 (w338 :
 World) =>
 ∃
 (q339
 :
 Option
 Addr),
 ∃
 (n340
 :
 Nat),
 ∃
 (n341
 :
 Nat),
 ∃
 (i342
 :
 Int),
 v337 =
 Value.tuple
 #[Value.slice
 q339
 n340
 n341,
 Value.int
 IntKind.i64
 i342] ∧
 Keeps
 w325
 w338
 [w.heap.size,
 (w7.alloc
 (Obj.cells
 #[Value.slice
 none
 (0 :
 Nat)
 (0 :
 Nat),
 Value.slice
 none
 (0 :
 Nat)
 (0 :
 Nat),
 Value.slice
 none
 (0 :
 Nat)
 (0 :
 Nat)]
 (29 :
 Nat))).heap.size] ∧
 ∃
 (q343
 :
 Option
 Addr),
 ∃
 (n344
 :
 Nat),
 ∃
 (n345
 :
 Nat),
 w338.cell?
 { block := w7.heap.size, off := (0 : Nat) } =
 some
 (Value.slice
 q343
 n344
 n345) ∧
 w338.frozen?
 { block := w7.heap.size, off := (0 : Nat) } =
 false ∧
 ∃
 (q346
 :
 Option
 Addr),
 ∃
 (n347
 :
 Nat),
 ∃
 (n348
 :
 Nat),
 w338.cell?
 { block := w7.heap.size, off := (1 : Nat) } =
 some
 (Value.slice
 q346
 n347
 n348) ∧
 w338.frozen?
 { block := w7.heap.size, off := (1 : Nat) } =
 false ∧
 ∃
 (q349
 :
 Option
 Addr),
 ∃
 (n350
 :
 Nat),
 ∃
 (n351
 :
 Nat),
 w338.cell?
 { block := w7.heap.size, off := (2 : Nat) } =
 some
 (Value.slice
 q349
 n350
 n351) ∧
 w338.frozen?
 { block := w7.heap.size, off := (2 : Nat) } =
 false ∧
 ∃
 (s352
 :
 ByteArray),
 s352.size =
 n300 ∧
 BytesAt
 w338
 q299
 s352 ∧
 ∃
 (s353
 :
 ByteArray),
 s353.size =
 n340 ∧
 BytesAt
 w338
 q339
 s353 ∧
 bif
 s352.toList ==
 s353.toList then
 Known
 w338
 [(w.heap.size,
 [((0 :
 Nat),
 Value.int
 IntKind.i64
 k),
 ((1 :
 Nat),
 Value.int
 IntKind.i64
 x),
 ((2 :
 Nat),
 Value.slice
 qb
 nb
 cb),
 ((3 :
 Nat),
 Value.slice
 qk
 nk
 ck),
 ((4 :
 Nat),
 Value.int
 IntKind.u8
 fill)]),
 (w7.heap.size,
 [((0 :
 Nat),
 Value.slice
 q343
 n344
 n345),
 ((1 :
 Nat),
 Value.slice
 q346
 n347
 n348),
 ((2 :
 Nat),
 Value.slice
 q349
 n350
 n351)]),
 ((w7.alloc
 (Obj.cells
 #[Value.slice
 none
 (0 :
 Nat)
 (0 :
 Nat),
 Value.slice
 none
 (0 :
 Nat)
 (0 :
 Nat),
 Value.slice
 none
 (0 :
 Nat)
 (0 :
 Nat)]
 (29 :
 Nat))).heap.size,
 [((0 :
 Nat),
 Value.slice
 q27
 n28
 n29),
 ((1 :
 Nat),
 Value.slice
 q30
 n31
 n32),
 ((2 :
 Nat),
 Value.slice
 q33
 n34
 n35),
 ((3 :
 Nat),
 Value.slice
 q36
 n37
 n38)])] →
 Rets
 Try.prog
 (21 :
 Nat)
 #[Value.pointer
 (some
 { block := w7.heap.size, off := (0 : Nat) })]
 w338
 fun
 (v354 :
 Value)
 (w355 :
 World) =>
 ∃
 (i356
 :
 Int),
 v354 =
 Value.int
 IntKind.i64
 i356 ∧
 Keeps
 w338
 w355
 [w.heap.size,
 (w7.alloc
 (Obj.cells
 #[Value.slice
 none
 (0 :
 Nat)
 (0 :
 Nat),
 Value.slice
 none
 (0 :
 Nat)
 (0 :
 Nat),
 Value.slice
 none
 (0 :
 Nat)
 (0 :
 Nat)]
 (29 :
 Nat))).heap.size] ∧
 ∃
 (q357
 :
 Option
 Addr),
 ∃
 (n358
 :
 Nat),
 ∃
 (n359
 :
 Nat),
 w355.cell?
 { block := w7.heap.size, off := (0 : Nat) } =
 some
 (Value.slice
 q357
 n358
 n359) ∧
 w355.frozen?
 { block := w7.heap.size, off := (0 : Nat) } =
 false ∧
 ∃
 (q360
 :
 Option
 Addr),
 ∃
 (n361
 :
 Nat),
 ∃
 (n362
 :
 Nat),
 w355.cell?
 { block := w7.heap.size, off := (1 : Nat) } =
 some
 (Value.slice
 q360
 n361
 n362) ∧
 w355.frozen?
 { block := w7.heap.size, off := (1 : Nat) } =
 false ∧
 ∃
 (q363
 :
 Option
 Addr),
 ∃
 (n364
 :
 Nat),
 ∃
 (n365
 :
 Nat),
 w355.cell?
 { block := w7.heap.size, off := (2 : Nat) } =
 some
 (Value.slice
 q363
 n364
 n365) ∧
 w355.frozen?
 { block := w7.heap.size, off := (2 : Nat) } =
 false ∧
 bif
 i356 ==
 (0 :
 Int) then
 Known
 w355
 [(w.heap.size,
 [((0 :
 Nat),
 Value.int
 IntKind.i64
 k),
 ((1 :
 Nat),
 Value.int
 IntKind.i64
 x),
 ((2 :
 Nat),
 Value.slice
 qb
 nb
 cb),
 ((3 :
 Nat),
 Value.slice
 qk
 nk
 ck),
 ((4 :
 Nat),
 Value.int
 IntKind.u8
 fill)]),
 (w7.heap.size,
 [((0 :
 Nat),
 Value.slice
 q357
 n358
 n359),
 ((1 :
 Nat),
 Value.slice
 q360
 n361
 n362),
 ((2 :
 Nat),
 Value.slice
 q363
 n364
 n365)]),
 ((w7.alloc
 (Obj.cells
 #[Value.slice
 none
 (0 :
 Nat)
 (0 :
 Nat),
 Value.slice
 none
 (0 :
 Nat)
 (0 :
 Nat),
 Value.slice
 none
 (0 :
 Nat)
 (0 :
 Nat)]
 (29 :
 Nat))).heap.size,
 [((0 :
 Nat),
 Value.slice
 q27
 n28
 n29),
 ((1 :
 Nat),
 Value.slice
 q30
 n31
 n32),
 ((2 :
 Nat),
 Value.slice
 q33
 n34
 n35),
 ((3 :
 Nat),
 Value.slice
 q36
 n37
 n38)])] →
 Rets
 Try.prog
 (18 :
 Nat)
 #[Value.pointer
 (some
 { block := w7.heap.size, off := (0 : Nat) })]
 w355
 fun
 (v366 :
 Value)
 (w367 :
 World) =>
 ∃
 (i368
 :
 Int),
 v366 =
 Value.int
 IntKind.i64
 i368 ∧
 Keeps
 w355
 w367
 [w.heap.size,
 (w7.alloc
 (Obj.cells
 #[Value.slice
 none
 (0 :
 Nat)
 (0 :
 Nat),
 Value.slice
 none
 (0 :
 Nat)
 (0 :
 Nat),
 Value.slice
 none
 (0 :
 Nat)
 (0 :
 Nat)]
 (29 :
 Nat))).heap.size] ∧
 ∃
 (q369
 :
 Option
 Addr),
 ∃
 (n370
 :
 Nat),
 ∃
 (n371
 :
 Nat),
 w367.cell?
 { block := w7.heap.size, off := (0 : Nat) } =
 some
 (Value.slice
 q369
 n370
 n371) ∧
 w367.frozen?
 { block := w7.heap.size, off := (0 : Nat) } =
 false ∧
 ∃
 (q372
 :
 Option
 Addr),
 ∃
 (n373
 :
 Nat),
 ∃
 (n374
 :
 Nat),
 w367.cell?
 { block := w7.heap.size, off := (1 : Nat) } =
 some
 (Value.slice
 q372
 n373
 n374) ∧
 w367.frozen?
 { block := w7.heap.size, off := (1 : Nat) } =
 false ∧
 ∃
 (q375
 :
 Option
 Addr),
 ∃
 (n376
 :
 Nat),
 ∃
 (n377
 :
 Nat),
 w367.cell?
 { block := w7.heap.size, off := (2 : Nat) } =
 some
 (Value.slice
 q375
 n376
 n377) ∧
 w367.frozen?
 { block := w7.heap.size, off := (2 : Nat) } =
 false ∧
 bif
 i368 ==
 i197 then
 Known
 w367
 [(w.heap.size,
 [((0 :
 Nat),
 Value.int
 IntKind.i64
 k),
 ((1 :
 Nat),
 Value.int
 IntKind.i64
 x),
 ((2 :
 Nat),
 Value.slice
 qb
 nb
 cb),
 ((3 :
 Nat),
 Value.slice
 qk
 nk
 ck),
 ((4 :
 Nat),
 Value.int
 IntKind.u8
 fill)]),
 (w7.heap.size,
 [((0 :
 Nat),
 Value.slice
 q369
 n370
 n371),
 ((1 :
 Nat),
 Value.slice
 q372
 n373
 n374),
 ((2 :
 Nat),
 Value.slice
 q375
 n376
 n377)]),
 ((w7.alloc
 (Obj.cells
 #[Value.slice
 none
 (0 :
 Nat)
 (0 :
 Nat),
 Value.slice
 none
 (0 :
 Nat)
 (0 :
 Nat),
 Value.slice
 none
 (0 :
 Nat)
 (0 :
 Nat)]
 (29 :
 Nat))).heap.size,
 [((0 :
 Nat),
 Value.slice
 q27
 n28
 n29),
 ((1 :
 Nat),
 Value.slice
 q30
 n31
 n32),
 ((2 :
 Nat),
 Value.slice
 q33
 n34
 n35),
 ((3 :
 Nat),
 Value.slice
 q36
 n37
 n38)])] →
 Rets
 Try.prog
 (13 :
 Nat)
 #[]
 w367
 fun
 (v378 :
 Value)
 (w379 :
 World) =>
 ∃
 (t380
 :
 Bool),
 v378 =
 Value.bool
 t380 ∧
 Keeps
 w367
 w379
 [w.heap.size,
 w7.heap.size,
 (w7.alloc
 (Obj.cells
 #[Value.slice
 none
 (0 :
 Nat)
 (0 :
 Nat),
 Value.slice
 none
 (0 :
 Nat)
 (0 :
 Nat),
 Value.slice
 none
 (0 :
 Nat)
 (0 :
 Nat)]
 (29 :
 Nat))).heap.size] ∧
 (Known
 w379
 [(w.heap.size,
 [((0 :
 Nat),
 Value.int
 IntKind.i64
 k),
 ((1 :
 Nat),
 Value.int
 IntKind.i64
 x),
 ((2 :
 Nat),
 Value.slice
 qb
 nb
 cb),
 ((3 :
 Nat),
 Value.slice
 qk
 nk
 ck),
 ((4 :
 Nat),
 Value.int
 IntKind.u8
 fill)]),
 (w7.heap.size,
 [((0 :
 Nat),
 Value.slice
 q369
 n370
 n371),
 ((1 :
 Nat),
 Value.slice
 q372
 n373
 n374),
 ((2 :
 Nat),
 Value.slice
 q375
 n376
 n377)]),
 ((w7.alloc
 (Obj.cells
 #[Value.slice
 none
 (0 :
 Nat)
 (0 :
 Nat),
 Value.slice
 none
 (0 :
 Nat)
 (0 :
 Nat),
 Value.slice
 none
 (0 :
 Nat)
 (0 :
 Nat)]
 (29 :
 Nat))).heap.size,
 [((0 :
 Nat),
 Value.slice
 q27
 n28
 n29),
 ((1 :
 Nat),
 Value.slice
 q30
 n31
 n32),
 ((2 :
 Nat),
 Value.slice
 q33
 n34
 n35),
 ((3 :
 Nat),
 Value.slice
 q36
 n37
 n38)])] →
 R
 (Ending.returned
 (Value.bool
 t380))
 w379)
 else
 Known
 w367
 [(w.heap.size,
 [((0 :
 Nat),
 Value.int
 IntKind.i64
 k),
 ((1 :
 Nat),
 Value.int
 IntKind.i64
 x),
 ((2 :
 Nat),
 Value.slice
 qb
 nb
 cb),
 ((3 :
 Nat),
 Value.slice
 qk
 nk
 ck),
 ((4 :
 Nat),
 Value.int
 IntKind.u8
 fill)]),
 (w7.heap.size,
 [((0 :
 Nat),
 Value.slice
 q369
 n370
 n371),
 ((1 :
 Nat),
 Value.slice
 q372
 n373
 n374),
 ((2 :
 Nat),
 Value.slice
 q375
 n376
 n377)]),
 ((w7.alloc
 (Obj.cells
 #[Value.slice
 none
 (0 :
 Nat)
 (0 :
 Nat),
 Value.slice
 none
 (0 :
 Nat)
 (0 :
 Nat),
 Value.slice
 none
 (0 :
 Nat)
 (0 :
 Nat)]
 (29 :
 Nat))).heap.size,
 [((0 :
 Nat),
 Value.slice
 q27
 n28
 n29),
 ((1 :
 Nat),
 Value.slice
 q30
 n31
 n32),
 ((2 :
 Nat),
 Value.slice
 q33
 n34
 n35),
 ((3 :
 Nat),
 Value.slice
 q36
 n37
 n38)])] →
 R
 (Ending.returned
 (Value.bool
 false))
 w367
 else
 Known
 w355
 [(w.heap.size,
 [((0 :
 Nat),
 Value.int
 IntKind.i64
 k),
 ((1 :
 Nat),
 Value.int
 IntKind.i64
 x),
 ((2 :
 Nat),
 Value.slice
 qb
 nb
 cb),
 ((3 :
 Nat),
 Value.slice
 qk
 nk
 ck),
 ((4 :
 Nat),
 Value.int
 IntKind.u8
 fill)]),
 (w7.heap.size,
 [((0 :
 Nat),
 Value.slice
 q357
 n358
 n359),
 ((1 :
 Nat),
 Value.slice
 q360
 n361
 n362),
 ((2 :
 Nat),
 Value.slice
 q363
 n364
 n365)]),
 ((w7.alloc
 (Obj.cells
 #[Value.slice
 none
 (0 :
 Nat)
 (0 :
 Nat),
 Value.slice
 none
 (0 :
 Nat)
 (0 :
 Nat),
 Value.slice
 none
 (0 :
 Nat)
 (0 :
 Nat)]
 (29 :
 Nat))).heap.size,
 [((0 :
 Nat),
 Value.slice
 q27
 n28
 n29),
 ((1 :
 Nat),
 Value.slice
 q30
 n31
 n32),
 ((2 :
 Nat),
 Value.slice
 q33
 n34
 n35),
 ((3 :
 Nat),
 Value.slice
 q36
 n37
 n38)])] →
 R
 (Ending.returned
 (Value.bool
 false))
 w355
 else
 Known
 w338
 [(w.heap.size,
 [((0 :
 Nat),
 Value.int
 IntKind.i64
 k),
 ((1 :
 Nat),
 Value.int
 IntKind.i64
 x),
 ((2 :
 Nat),
 Value.slice
 qb
 nb
 cb),
 ((3 :
 Nat),
 Value.slice
 qk
 nk
 ck),
 ((4 :
 Nat),
 Value.int
 IntKind.u8
 fill)]),
 (w7.heap.size,
 [((0 :
 Nat),
 Value.slice
 q343
 n344
 n345),
 ((1 :
 Nat),
 Value.slice
 q346
 n347
 n348),
 ((2 :
 Nat),
 Value.slice
 q349
 n350
 n351)]),
 ((w7.alloc
 (Obj.cells
 #[Value.slice
 none
 (0 :
 Nat)
 (0 :
 Nat),
 Value.slice
 none
 (0 :
 Nat)
 (0 :
 Nat),
 Value.slice
 none
 (0 :
 Nat)
 (0 :
 Nat)]
 (29 :
 Nat))).heap.size,
 [((0 :
 Nat),
 Value.slice
 q27
 n28
 n29),
 ((1 :
 Nat),
 Value.slice
 q30
 n31
 n32),
 ((2 :
 Nat),
 Value.slice
 q33
 n34
 n35),
 ((3 :
 Nat),
 Value.slice
 q36
 n37
 n38)])] →
 R
 (Ending.returned
 (Value.bool
 false))
 w338)))
 else
 Known
 w227
 [(w.heap.size,
 [((0 :
 Nat),
 Value.int
 IntKind.i64
 k),
 ((1 :
 Nat),
 Value.int
 IntKind.i64
 x),
 ((2 :
 Nat),
 Value.slice
 qb
 nb
 cb),
 ((3 :
 Nat),
 Value.slice
 qk
 nk
 ck),
 ((4 :
 Nat),
 Value.int
 IntKind.u8
 fill)]),
 (w7.heap.size,
 [((0 :
 Nat),
 Value.slice
 q210
 n211
 n212),
 ((1 :
 Nat),
 Value.slice
 q213
 n214
 n215),
 ((2 :
 Nat),
 Value.slice
 q216
 n217
 n218)]),
 ((w7.alloc
 (Obj.cells
 #[Value.slice
 none
 (0 :
 Nat)
 (0 :
 Nat),
 Value.slice
 none
 (0 :
 Nat)
 (0 :
 Nat),
 Value.slice
 none
 (0 :
 Nat)
 (0 :
 Nat)]
 (29 :
 Nat))).heap.size,
 [((0 :
 Nat),
 Value.slice
 q27
 n28
 n29),
 ((1 :
 Nat),
 Value.slice
 q30
 n31
 n32),
 ((2 :
 Nat),
 Value.slice
 q33
 n34
 n35),
 ((3 :
 Nat),
 Value.slice
 q36
 n37
 n38)])] →
 Rets
 Try.prog
 (19 :
 Nat)
 #[Value.pointer
 (some
 { block := w7.heap.size, off := (0 : Nat) }),
 Value.slice
 qk
 nk
 ck,
 Value.int
 IntKind.u8
 fill]
 w227
 fun
 (v381 :
 Value)
 (w382 :
 World) =>
 v381 =
 Value.tuple
 #[] ∧
 Keeps
 w227
 w382
 [w.heap.size,
 (w7.alloc
 (Obj.cells
 #[Value.slice
 none
 (0 :
 Nat)
 (0 :
 Nat),
 Value.slice
 none
 (0 :
 Nat)
 (0 :
 Nat),
 Value.slice
 none
 (0 :
 Nat)
 (0 :
 Nat)]
 (29 :
 Nat))).heap.size] ∧
 ∃
 (q383
 :
 Option
 Addr),
 ∃
 (n384
 :
 Nat),
 ∃
 (n385
 :
 Nat),
 w382.cell?
 { block := w7.heap.size, off := (0 : Nat) } =
 some
 (Value.slice
 q383
 n384
 n385) ∧
 w382.frozen?
 { block := w7.heap.size, off := (0 : Nat) } =
 false ∧
 ∃
 (q386
 :
 Option
 Addr),
 ∃
 (n387
 :
 Nat),
 ∃
 (n388
 :
 Nat),
 w382.cell?
 { block := w7.heap.size, off := (1 : Nat) } =
 some
 (Value.slice
 q386
 n387
 n388) ∧
 w382.frozen?
 { block := w7.heap.size, off := (1 : Nat) } =
 false ∧
 ∃
 (q389
 :
 Option
 Addr),
 ∃
 (n390
 :
 Nat),
 ∃
 (n391
 :
 Nat),
 w382.cell?
 { block := w7.heap.size, off := (2 : Nat) } =
 some
 (Value.slice
 q389
 n390
 n391) ∧
 w382.frozen?
 { block := w7.heap.size, off := (2 : Nat) } =
 false ∧
 (Known
 w382
 [(w.heap.size,
 [((0 :
 Nat),
 Value.int
 IntKind.i64
 k),
 ((1 :
 Nat),
 Value.int
 IntKind.i64
 x),
 ((2 :
 Nat),
 Value.slice
 qb
 nb
 cb),
 ((3 :
 Nat),
 Value.slice
 qk
 nk
 ck),
 ((4 :
 Nat),
 Value.int
 IntKind.u8
 fill)]),
 (w7.heap.size,
 [((0 :
 Nat),
 Value.slice
 q383
 n384
 n385),
 ((1 :
 Nat),
 Value.slice
 q386
 n387
 n388),
 ((2 :
 Nat),
 Value.slice
 q389
 n390
 n391)]),
 ((w7.alloc
 (Obj.cells
 #[Value.slice
 none
 (0 :
 Nat)
 (0 :
 Nat),
 Value.slice
 none
 (0 :
 Nat)
 (0 :
 Nat),
 Value.slice
 none
 (0 :
 Nat)
 (0 :
 Nat)]
 (29 :
 Nat))).heap.size,
 [((0 :
 Nat),
 Value.slice
 q27
 n28
 n29),
 ((1 :
 Nat),
 Value.slice
 q30
 n31
 n32),
 ((2 :
 Nat),
 Value.slice
 q33
 n34
 n35),
 ((3 :
 Nat),
 Value.slice
 q36
 n37
 n38)])] →
 Rets
 Try.prog
 (18 :
 Nat)
 #[Value.pointer
 (some
 { block := w7.heap.size, off := (0 : Nat) })]
 w382
 fun
 (v392 :
 Value)
 (w393 :
 World) =>
 ∃
 (i394
 :
 Int),
 v392 =
 Value.int
 IntKind.i64
 i394 ∧
 Keeps
 w382
 w393
 [w.heap.size,
 (w7.alloc
 (Obj.cells
 #[Value.slice
 none
 (0 :
 Nat)
 (0 :
 Nat),
 Value.slice
 none
 (0 :
 Nat)
 (0 :
 Nat),
 Value.slice
 none
 (0 :
 Nat)
 (0 :
 Nat)]
 (29 :
 Nat))).heap.size] ∧
 ∃
 (q395
 :
 Option
 Addr),
 ∃
 (n396
 :
 Nat),
 ∃
 (n397
 :
 Nat),
 w393.cell?
 { block := w7.heap.size, off := (0 : Nat) } =
 some
 (Value.slice
 q395
 n396
 n397) ∧
 w393.frozen?
 { block := w7.heap.size, off := (0 : Nat) } =
 false ∧
 ∃
 (q398
 :
 Option
 Addr),
 ∃
 (n399
 :
 Nat),
 ∃
 (n400
 :
 Nat),
 w393.cell?
 { block := w7.heap.size, off := (1 : Nat) } =
 some
 (Value.slice
 q398
 n399
 n400) ∧
 w393.frozen?
 { block := w7.heap.size, off := (1 : Nat) } =
 false ∧
 ∃
 (q401
 :
 Option
 Addr),
 ∃
 (n402
 :
 Nat),
 ∃
 (n403
 :
 Nat),
 w393.cell?
 { block := w7.heap.size, off := (2 : Nat) } =
 some
 (Value.slice
 q401
 n402
 n403) ∧
 w393.frozen?
 { block := w7.heap.size, off := (2 : Nat) } =
 false ∧
 Wr
 IntKind.i64
 ((512 :
 Int) *
 i394)
 fun
 (i404 :
 Int) =>
 Known
 w393
 [(w.heap.size,
 [((0 :
 Nat),
 Value.int
 IntKind.i64
 k),
 ((1 :
 Nat),
 Value.int
 IntKind.i64
 x),
 ((2 :
 Nat),
 Value.slice
 qb
 nb
 cb),
 ((3 :
 Nat),
 Value.slice
 qk
 nk
 ck),
 ((4 :
 Nat),
 Value.int
 IntKind.u8
 fill)]),
 (w7.heap.size,
 [((0 :
 Nat),
 Value.slice
 q395
 n396
 n397),
 ((1 :
 Nat),
 Value.slice
 q398
 n399
 n400),
 ((2 :
 Nat),
 Value.slice
 q401
 n402
 n403)]),
 ((w7.alloc
 (Obj.cells
 #[Value.slice
 none
 (0 :
 Nat)
 (0 :
 Nat),
 Value.slice
 none
 (0 :
 Nat)
 (0 :
 Nat),
 Value.slice
 none
 (0 :
 Nat)
 (0 :
 Nat)]
 (29 :
 Nat))).heap.size,
 [((0 :
 Nat),
 Value.slice
 q27
 n28
 n29),
 ((1 :
 Nat),
 Value.slice
 q30
 n31
 n32),
 ((2 :
 Nat),
 Value.slice
 q33
 n34
 n35),
 ((3 :
 Nat),
 Value.slice
 q36
 n37
 n38)])] →
 Rets
 Try.prog
 (17 :
 Nat)
 #[Value.pointer
 (some
 { block := w7.heap.size, off := (0 : Nat) }),
 Value.int
 IntKind.i64
 (0 :
 Int),
 Value.int
 IntKind.i64
 i404]
 w393
 fun
 (v405 :
 Value)
 (w406 :
 World) =>
 ∃
 (q407
 :
 Option
 Addr),
 ∃
 (n408
 :
 Nat),
 ∃
 (n409
 :
 Nat),
 ∃
 (i410
 :
 Int),
 v405 =
 Value.tuple
 #[Value.slice
 q407
 n408
 n409,
 Value.int
 IntKind.i64
 i410] ∧
 Keeps
 w393
 w406
 [w.heap.size,
 (w7.alloc
 (Obj.cells
 #[Value.slice
 none
 (0 :
 Nat)
 (0 :
 Nat),
 Value.slice
 none
 (0 :
 Nat)
 (0 :
 Nat),
 Value.slice
 none
 (0 :
 Nat)
 (0 :
 Nat)]
 (29 :
 Nat))).heap.size] ∧
 ∃
 (q411
 :
 Option
 Addr),
 ∃
 (n412
 :
 Nat),
 ∃
 (n413
 :
 Nat),
 w406.cell?
 { block := w7.heap.size, off := (0 : Nat) } =
 some
 (Value.slice
 q411
 n412
 n413) ∧
 w406.frozen?
 { block := w7.heap.size, off := (0 : Nat) } =
 false ∧
 ∃
 (q414
 :
 Option
 Addr),
 ∃
 (n415
 :
 Nat),
 ∃
 (n416
 :
 Nat),
 w406.cell?
 { block := w7.heap.size, off := (1 : Nat) } =
 some
 (Value.slice
 q414
 n415
 n416) ∧
 w406.frozen?
 { block := w7.heap.size, off := (1 : Nat) } =
 false ∧
 ∃
 (q417
 :
 Option
 Addr),
 ∃
 (n418
 :
 Nat),
 ∃
 (n419
 :
 Nat),
 w406.cell?
 { block := w7.heap.size, off := (2 : Nat) } =
 some
 (Value.slice
 q417
 n418
 n419) ∧
 w406.frozen?
 { block := w7.heap.size, off := (2 : Nat) } =
 false ∧
 Wr
 IntKind.u8
 (fill +
 (1 :
 Int))
 fun
 (i420 :
 Int) =>
 Known
 w406
 [(w.heap.size,
 [((0 :
 Nat),
 Value.int
 IntKind.i64
 k),
 ((1 :
 Nat),
 Value.int
 IntKind.i64
 x),
 ((2 :
 Nat),
 Value.slice
 qb
 nb
 cb),
 ((3 :
 Nat),
 Value.slice
 qk
 nk
 ck),
 ((4 :
 Nat),
 Value.int
 IntKind.u8
 fill)]),
 (w7.heap.size,
 [((0 :
 Nat),
 Value.slice
 q411
 n412
 n413),
 ((1 :
 Nat),
 Value.slice
 q414
 n415
 n416),
 ((2 :
 Nat),
 Value.slice
 q417
 n418
 n419)]),
 ((w7.alloc
 (Obj.cells
 #[Value.slice
 none
 (0 :
 Nat)
 (0 :
 Nat),
 Value.slice
 none
 (0 :
 Nat)
 (0 :
 Nat),
 Value.slice
 none
 (0 :
 Nat)
 (0 :
 Nat)]
 (29 :
 Nat))).heap.size,
 [((0 :
 Nat),
 Value.slice
 q27
 n28
 n29),
 ((1 :
 Nat),
 Value.slice
 q30
 n31
 n32),
 ((2 :
 Nat),
 Value.slice
 q33
 n34
 n35),
 ((3 :
 Nat),
 Value.slice
 q36
 n37
 n38)])] →
 Rets
 Try.prog
 (19 :
 Nat)
 #[Value.pointer
 (some
 { block := w7.heap.size, off := (0 : Nat) }),
 Value.slice
 none
 (0 :
 Nat)
 (0 :
 Nat),
 Value.int
 IntKind.u8
 i420]
 w406
 fun
 (v421 :
 Value)
 (w422 :
 World) =>
 v421 =
 Value.tuple
 #[] ∧
 Keeps
 w406
 w422
 [w.heap.size,
 (w7.alloc
 (Obj.cells
 #[Value.slice
 none
 (0 :
 Nat)
 (0 :
 Nat),
 Value.slice
 none
 (0 :
 Nat)
 (0 :
 Nat),
 Value.slice
 none
 (0 :
 Nat)
 (0 :
 Nat)]
 (29 :
 Nat))).heap.size] ∧
 ∃
 (q423
 :
 Option
 Addr),
 ∃
 (n424
 :
 Nat),
 ∃
 (n425
 :
 Nat),
 w422.cell?
 { block := w7.heap.size, off := (0 : Nat) } =
 some
 (Value.slice
 q423
 n424
 n425) ∧
 w422.frozen?
 { block := w7.heap.size, off := (0 : Nat) } =
 false ∧
 ∃
 (q426
 :
 Option
 Addr),
 ∃
 (n427
 :
 Nat),
 ∃
 (n428
 :
 Nat),
 w422.cell?
 { block := w7.heap.size, off := (1 : Nat) } =
 some
 (Value.slice
 q426
 n427
 n428) ∧
 w422.frozen?
 { block := w7.heap.size, off := (1 : Nat) } =
 false ∧
 ∃
 (q429
 :
 Option
 Addr),
 ∃
 (n430
 :
 Nat),
 ∃
 (n431
 :
 Nat),
 w422.cell?
 { block := w7.heap.size, off := (2 : Nat) } =
 some
 (Value.slice
 q429
 n430
 n431) ∧
 w422.frozen?
 { block := w7.heap.size, off := (2 : Nat) } =
 false ∧
 (Known
 w422
 [(w.heap.size,
 [((0 :
 Nat),
 Value.int
 IntKind.i64
 k),
 ((1 :
 Nat),
 Value.int
 IntKind.i64
 x),
 ((2 :
 Nat),
 Value.slice
 qb
 nb
 cb),
 ((3 :
 Nat),
 Value.slice
 qk
 nk
 ck),
 ((4 :
 Nat),
 Value.int
 IntKind.u8
 fill)]),
 (w7.heap.size,
 [((0 :
 Nat),
 Value.slice
 q423
 n424
 n425),
 ((1 :
 Nat),
 Value.slice
 q426
 n427
 n428),
 ((2 :
 Nat),
 Value.slice
 q429
 n430
 n431)]),
 ((w7.alloc
 (Obj.cells
 #[Value.slice
 none
 (0 :
 Nat)
 (0 :
 Nat),
 Value.slice
 none
 (0 :
 Nat)
 (0 :
 Nat),
 Value.slice
 none
 (0 :
 Nat)
 (0 :
 Nat)]
 (29 :
 Nat))).heap.size,
 [((0 :
 Nat),
 Value.slice
 q27
 n28
 n29),
 ((1 :
 Nat),
 Value.slice
 q30
 n31
 n32),
 ((2 :
 Nat),
 Value.slice
 q33
 n34
 n35),
 ((3 :
 Nat),
 Value.slice
 q36
 n37
 n38)])] →
 Rets
 Try.prog
 (18 :
 Nat)
 #[Value.pointer
 (some
 { block := w7.heap.size, off := (0 : Nat) })]
 w422
 fun
 (v432 :
 Value)
 (w433 :
 World) =>
 ∃
 (i434
 :
 Int),
 v432 =
 Value.int
 IntKind.i64
 i434 ∧
 Keeps
 w422
 w433
 [w.heap.size,
 (w7.alloc
 (Obj.cells
 #[Value.slice
 none
 (0 :
 Nat)
 (0 :
 Nat),
 Value.slice
 none
 (0 :
 Nat)
 (0 :
 Nat),
 Value.slice
 none
 (0 :
 Nat)
 (0 :
 Nat)]
 (29 :
 Nat))).heap.size] ∧
 ∃
 (q435
 :
 Option
 Addr),
 ∃
 (n436
 :
 Nat),
 ∃
 (n437
 :
 Nat),
 w433.cell?
 { block := w7.heap.size, off := (0 : Nat) } =
 some
 (Value.slice
 q435
 n436
 n437) ∧
 w433.frozen?
 { block := w7.heap.size, off := (0 : Nat) } =
 false ∧
 ∃
 (q438
 :
 Option
 Addr),
 ∃
 (n439
 :
 Nat),
 ∃
 (n440
 :
 Nat),
 w433.cell?
 { block := w7.heap.size, off := (1 : Nat) } =
 some
 (Value.slice
 q438
 n439
 n440) ∧
 w433.frozen?
 { block := w7.heap.size, off := (1 : Nat) } =
 false ∧
 ∃
 (q441
 :
 Option
 Addr),
 ∃
 (n442
 :
 Nat),
 ∃
 (n443
 :
 Nat),
 w433.cell?
 { block := w7.heap.size, off := (2 : Nat) } =
 some
 (Value.slice
 q441
 n442
 n443) ∧
 w433.frozen?
 { block := w7.heap.size, off := (2 : Nat) } =
 false ∧
 Wr
 IntKind.i64
 ((512 :
 Int) *
 i434)
 fun
 (i444 :
 Int) =>
 Known
 w433
 [(w.heap.size,
 [((0 :
 Nat),
 Value.int
 IntKind.i64
 k),
 ((1 :
 Nat),
 Value.int
 IntKind.i64
 x),
 ((2 :
 Nat),
 Value.slice
 qb
 nb
 cb),
 ((3 :
 Nat),
 Value.slice
 qk
 nk
 ck),
 ((4 :
 Nat),
 Value.int
 IntKind.u8
 fill)]),
 (w7.heap.size,
 [((0 :
 Nat),
 Value.slice
 q435
 n436
 n437),
 ((1 :
 Nat),
 Value.slice
 q438
 n439
 n440),
 ((2 :
 Nat),
 Value.slice
 q441
 n442
 n443)]),
 ((w7.alloc
 (Obj.cells
 #[Value.slice
 none
 (0 :
 Nat)
 (0 :
 Nat),
 Value.slice
 none
 (0 :
 Nat)
 (0 :
 Nat),
 Value.slice
 none
 (0 :
 Nat)
 (0 :
 Nat)]
 (29 :
 Nat))).heap.size,
 [((0 :
 Nat),
 Value.slice
 q27
 n28
 n29),
 ((1 :
 Nat),
 Value.slice
 q30
 n31
 n32),
 ((2 :
 Nat),
 Value.slice
 q33
 n34
 n35),
 ((3 :
 Nat),
 Value.slice
 q36
 n37
 n38)])] →
 Rets
 Try.prog
 (17 :
 Nat)
 #[Value.pointer
 (some
 { block := w7.heap.size, off := (0 : Nat) }),
 Value.int
 IntKind.i64
 (0 :
 Int),
 Value.int
 IntKind.i64
 i444]
 w433
 fun
 (v445 :
 Value)
 (w446 :
 World) =>
 ∃
 (q447
 :
 Option
 Addr),
 ∃
 (n448
 :
 Nat),
 ∃
 (n449
 :
 Nat),
 ∃
 (i450
 :
 Int),
 v445 =
 Value.tuple
 #[Value.slice
 q447
 n448
 n449,
 Value.int
 IntKind.i64
 i450] ∧
 Keeps
 w433
 w446
 [w.heap.size,
 (w7.alloc
 (Obj.cells
 #[Value.slice
 none
 (0 :
 Nat)
 (0 :
 Nat),
 Value.slice
 none
 (0 :
 Nat)
 (0 :
 Nat),
 Value.slice
 none
 (0 :
 Nat)
 (0 :
 Nat)]
 (29 :
 Nat))).heap.size] ∧
 ∃
 (q451
 :
 Option
 Addr),
 ∃
 (n452
 :
 Nat),
 ∃
 (n453
 :
 Nat),
 w446.cell?
 { block := w7.heap.size, off := (0 : Nat) } =
 some
 (Value.slice
 q451
 n452
 n453) ∧
 w446.frozen?
 { block := w7.heap.size, off := (0 : Nat) } =
 false ∧
 ∃
 (q454
 :
 Option
 Addr),
 ∃
 (n455
 :
 Nat),
 ∃
 (n456
 :
 Nat),
 w446.cell?
 { block := w7.heap.size, off := (1 : Nat) } =
 some
 (Value.slice
 q454
 n455
 n456) ∧
 w446.frozen?
 { block := w7.heap.size, off := (1 : Nat) } =
 false ∧
 ∃
 (q457
 :
 Option
 Addr),
 ∃
 (n458
 :
 Nat),
 ∃
 (n459
 :
 Nat),
 w446.cell?
 { block := w7.heap.size, off := (2 : Nat) } =
 some
 (Value.slice
 q457
 n458
 n459) ∧
 w446.frozen?
 { block := w7.heap.size, off := (2 : Nat) } =
 false ∧
 ∃
 (s460
 :
 ByteArray),
 s460.size =
 n408 ∧
 BytesAt
 w446
 q407
 s460 ∧
 ∃
 (s461
 :
 ByteArray),
 s461.size =
 n448 ∧
 BytesAt
 w446
 q447
 s461 ∧
 bif
 s460.toList ==
 s461.toList then
 Known
 w446
 [(w.heap.size,
 [((0 :
 Nat),
 Value.int
 IntKind.i64
 k),
 ((1 :
 Nat),
 Value.int
 IntKind.i64
 x),
 ((2 :
 Nat),
 Value.slice
 qb
 nb
 cb),
 ((3 :
 Nat),
 Value.slice
 qk
 nk
 ck),
 ((4 :
 Nat),
 Value.int
 IntKind.u8
 fill)]),
 (w7.heap.size,
 [((0 :
 Nat),
 Value.slice
 q451
 n452
 n453),
 ((1 :
 Nat),
 Value.slice
 q454
 n455
 n456),
 ((2 :
 Nat),
 Value.slice
 q457
 n458
 n459)]),
 ((w7.alloc
 (Obj.cells
 #[Value.slice
 none
 (0 :
 Nat)
 (0 :
 Nat),
 Value.slice
 none
 (0 :
 Nat)
 (0 :
 Nat),
 Value.slice
 none
 (0 :
 Nat)
 (0 :
 Nat)]
 (29 :
 Nat))).heap.size,
 [((0 :
 Nat),
 Value.slice
 q27
 n28
 n29),
 ((1 :
 Nat),
 Value.slice
 q30
 n31
 n32),
 ((2 :
 Nat),
 Value.slice
 q33
 n34
 n35),
 ((3 :
 Nat),
 Value.slice
 q36
 n37
 n38)])] →
 Rets
 Try.prog
 (21 :
 Nat)
 #[Value.pointer
 (some
 { block := w7.heap.size, off := (0 : Nat) })]
 w446
 fun
 (v462 :
 Value)
 (w463 :
 World) =>
 ∃
 (i464
 :
 Int),
 v462 =
 Value.int
 IntKind.i64
 i464 ∧
 Keeps
 w446
 w463
 [w.heap.size,
 (w7.alloc
 (Obj.cells
 #[Value.slice
 none
 (0 :
 Nat)
 (0 :
 Nat),
 Value.slice
 none
 (0 :
 Nat)
 (0 :
 Nat),
 Value.slice
 none
 (0 :
 Nat)
 (0 :
 Nat)]
 (29 :
 Nat))).heap.size] ∧
 ∃
 (q465
 :
 Option
 Addr),
 ∃
 (n466
 :
 Nat),
 ∃
 (n467
 :
 Nat),
 w463.cell?
 { block := w7.heap.size, off := (0 : Nat) } =
 some
 (Value.slice
 q465
 n466
 n467) ∧
 w463.frozen?
 { block := w7.heap.size, off := (0 : Nat) } =
 false ∧
 ∃
 (q468
 :
 Option
 Addr),
 ∃
 (n469
 :
 Nat),
 ∃
 (n470
 :
 Nat),
 w463.cell?
 { block := w7.heap.size, off := (1 : Nat) } =
 some
 (Value.slice
 q468
 n469
 n470) ∧
 w463.frozen?
 { block := w7.heap.size, off := (1 : Nat) } =
 false ∧
 ∃
 (q471
 :
 Option
 Addr),
 ∃
 (n472
 :
 Nat),
 ∃
 (n473
 :
 Nat),
 w463.cell?
 { block := w7.heap.size, off := (2 : Nat) } =
 some
 (Value.slice
 q471
 n472
 n473) ∧
 w463.frozen?
 { block := w7.heap.size, off := (2 : Nat) } =
 false ∧
 bif
 i464 ==
 (0 :
 Int) then
 Known
 w463
 [(w.heap.size,
 [((0 :
 Nat),
 Value.int
 IntKind.i64
 k),
 ((1 :
 Nat),
 Value.int
 IntKind.i64
 x),
 ((2 :
 Nat),
 Value.slice
 qb
 nb
 cb),
 ((3 :
 Nat),
 Value.slice
 qk
 nk
 ck),
 ((4 :
 Nat),
 Value.int
 IntKind.u8
 fill)]),
 (w7.heap.size,
 [((0 :
 Nat),
 Value.slice
 q465
 n466
 n467),
 ((1 :
 Nat),
 Value.slice
 q468
 n469
 n470),
 ((2 :
 Nat),
 Value.slice
 q471
 n472
 n473)]),
 ((w7.alloc
 (Obj.cells
 #[Value.slice
 none
 (0 :
 Nat)
 (0 :
 Nat),
 Value.slice
 none
 (0 :
 Nat)
 (0 :
 Nat),
 Value.slice
 none
 (0 :
 Nat)
 (0 :
 Nat)]
 (29 :
 Nat))).heap.size,
 [((0 :
 Nat),
 Value.slice
 q27
 n28
 n29),
 ((1 :
 Nat),
 Value.slice
 q30
 n31
 n32),
 ((2 :
 Nat),
 Value.slice
 q33
 n34
 n35),
 ((3 :
 Nat),
 Value.slice
 q36
 n37
 n38)])] →
 Rets
 Try.prog
 (18 :
 Nat)
 #[Value.pointer
 (some
 { block := w7.heap.size, off := (0 : Nat) })]
 w463
 fun
 (v474 :
 Value)
 (w475 :
 World) =>
 ∃
 (i476
 :
 Int),
 v474 =
 Value.int
 IntKind.i64
 i476 ∧
 Keeps
 w463
 w475
 [w.heap.size,
 (w7.alloc
 (Obj.cells
 #[Value.slice
 none
 (0 :
 Nat)
 (0 :
 Nat),
 Value.slice
 none
 (0 :
 Nat)
 (0 :
 Nat),
 Value.slice
 none
 (0 :
 Nat)
 (0 :
 Nat)]
 (29 :
 Nat))).heap.size] ∧
 ∃
 (q477
 :
 Option
 Addr),
 ∃
 (n478
 :
 Nat),
 ∃
 (n479
 :
 Nat),
 w475.cell?
 { block := w7.heap.size, off := (0 : Nat) } =
 some
 (Value.slice
 q477
 n478
 n479) ∧
 w475.frozen?
 { block := w7.heap.size, off := (0 : Nat) } =
 false ∧
 ∃
 (q480
 :
 Option
 Addr),
 ∃
 (n481
 :
 Nat),
 ∃
 (n482
 :
 Nat),
 w475.cell?
 { block := w7.heap.size, off := (1 : Nat) } =
 some
 (Value.slice
 q480
 n481
 n482) ∧
 w475.frozen?
 { block := w7.heap.size, off := (1 : Nat) } =
 false ∧
 ∃
 (q483
 :
 Option
 Addr),
 ∃
 (n484
 :
 Nat),
 ∃
 (n485
 :
 Nat),
 w475.cell?
 { block := w7.heap.size, off := (2 : Nat) } =
 some
 (Value.slice
 q483
 n484
 n485) ∧
 w475.frozen?
 { block := w7.heap.size, off := (2 : Nat) } =
 false ∧
 bif
 i476 ==
 i197 then
 Known
 w475
 [(w.heap.size,
 [((0 :
 Nat),
 Value.int
 IntKind.i64
 k),
 ((1 :
 Nat),
 Value.int
 IntKind.i64
 x),
 ((2 :
 Nat),
 Value.slice
 qb
 nb
 cb),
 ((3 :
 Nat),
 Value.slice
 qk
 nk
 ck),
 ((4 :
 Nat),
 Value.int
 IntKind.u8
 fill)]),
 (w7.heap.size,
 [((0 :
 Nat),
 Value.slice
 q477
 n478
 n479),
 ((1 :
 Nat),
 Value.slice
 q480
 n481
 n482),
 ((2 :
 Nat),
 Value.slice
 q483
 n484
 n485)]),
 ((w7.alloc
 (Obj.cells
 #[Value.slice
 none
 (0 :
 Nat)
 (0 :
 Nat),
 Value.slice
 none
 (0 :
 Nat)
 (0 :
 Nat),
 Value.slice
 none
 (0 :
 Nat)
 (0 :
 Nat)]
 (29 :
 Nat))).heap.size,
 [((0 :
 Nat),
 Value.slice
 q27
 n28
 n29),
 ((1 :
 Nat),
 Value.slice
 q30
 n31
 n32),
 ((2 :
 Nat),
 Value.slice
 q33
 n34
 n35),
 ((3 :
 Nat),
 Value.slice
 q36
 n37
 n38)])] →
 Rets
 Try.prog
 (13 :
 Nat)
 #[]
 w475
 fun
 (v486 :
 Value)
 (w487 :
 World) =>
 ∃
 (t488
 :
 Bool),
 v486 =
 Value.bool
 t488 ∧
 Keeps
 w475
 w487
 [w.heap.size,
 w7.heap.size,
 (w7.alloc
 (Obj.cells
 #[Value.slice
 none
 (0 :
 Nat)
 (0 :
 Nat),
 Value.slice
 none
 (0 :
 Nat)
 (0 :
 Nat),
 Value.slice
 none
 (0 :
 Nat)
 (0 :
 Nat)]
 (29 :
 Nat))).heap.size] ∧
 (Known
 w487
 [(w.heap.size,
 [((0 :
 Nat),
 Value.int
 IntKind.i64
 k),
 ((1 :
 Nat),
 Value.int
 IntKind.i64
 x),
 ((2 :
 Nat),
 Value.slice
 qb
 nb
 cb),
 ((3 :
 Nat),
 Value.slice
 qk
 nk
 ck),
 ((4 :
 Nat),
 Value.int
 IntKind.u8
 fill)]),
 (w7.heap.size,
 [((0 :
 Nat),
 Value.slice
 q477
 n478
 n479),
 ((1 :
 Nat),
 Value.slice
 q480
 n481
 n482),
 ((2 :
 Nat),
 Value.slice
 q483
 n484
 n485)]),
 ((w7.alloc
 (Obj.cells
 #[Value.slice
 none
 (0 :
 Nat)
 (0 :
 Nat),
 Value.slice
 none
 (0 :
 Nat)
 (0 :
 Nat),
 Value.slice
 none
 (0 :
 Nat)
 (0 :
 Nat)]
 (29 :
 Nat))).heap.size,
 [((0 :
 Nat),
 Value.slice
 q27
 n28
 n29),
 ((1 :
 Nat),
 Value.slice
 q30
 n31
 n32),
 ((2 :
 Nat),
 Value.slice
 q33
 n34
 n35),
 ((3 :
 Nat),
 Value.slice
 q36
 n37
 n38)])] →
 R
 (Ending.returned
 (Value.bool
 t488))
 w487)
 else
 Known
 w475
 [(w.heap.size,
 [((0 :
 Nat),
 Value.int
 IntKind.i64
 k),
 ((1 :
 Nat),
 Value.int
 IntKind.i64
 x),
 ((2 :
 Nat),
 Value.slice
 qb
 nb
 cb),
 ((3 :
 Nat),
 Value.slice
 qk
 nk
 ck),
 ((4 :
 Nat),
 Value.int
 IntKind.u8
 fill)]),
 (w7.heap.size,
 [((0 :
 Nat),
 Value.slice
 q477
 n478
 n479),
 ((1 :
 Nat),
 Value.slice
 q480
 n481
 n482),
 ((2 :
 Nat),
 Value.slice
 q483
 n484
 n485)]),
 ((w7.alloc
 (Obj.cells
 #[Value.slice
 none
 (0 :
 Nat)
 (0 :
 Nat),
 Value.slice
 none
 (0 :
 Nat)
 (0 :
 Nat),
 Value.slice
 none
 (0 :
 Nat)
 (0 :
 Nat)]
 (29 :
 Nat))).heap.size,
 [((0 :
 Nat),
 Value.slice
 q27
 n28
 n29),
 ((1 :
 Nat),
 Value.slice
 q30
 n31
 n32),
 ((2 :
 Nat),
 Value.slice
 q33
 n34
 n35),
 ((3 :
 Nat),
 Value.slice
 q36
 n37
 n38)])] →
 R
 (Ending.returned
 (Value.bool
 false))
 w475
 else
 Known
 w463
 [(w.heap.size,
 [((0 :
 Nat),
 Value.int
 IntKind.i64
 k),
 ((1 :
 Nat),
 Value.int
 IntKind.i64
 x),
 ((2 :
 Nat),
 Value.slice
 qb
 nb
 cb),
 ((3 :
 Nat),
 Value.slice
 qk
 nk
 ck),
 ((4 :
 Nat),
 Value.int
 IntKind.u8
 fill)]),
 (w7.heap.size,
 [((0 :
 Nat),
 Value.slice
 q465
 n466
 n467),
 ((1 :
 Nat),
 Value.slice
 q468
 n469
 n470),
 ((2 :
 Nat),
 Value.slice
 q471
 n472
 n473)]),
 ((w7.alloc
 (Obj.cells
 #[Value.slice
 none
 (0 :
 Nat)
 (0 :
 Nat),
 Value.slice
 none
 (0 :
 Nat)
 (0 :
 Nat),
 Value.slice
 none
 (0 :
 Nat)
 (0 :
 Nat)]
 (29 :
 Nat))).heap.size,
 [((0 :
 Nat),
 Value.slice
 q27
 n28
 n29),
 ((1 :
 Nat),
 Value.slice
 q30
 n31
 n32),
 ((2 :
 Nat),
 Value.slice
 q33
 n34
 n35),
 ((3 :
 Nat),
 Value.slice
 q36
 n37
 n38)])] →
 R
 (Ending.returned
 (Value.bool
 false))
 w463
 else
 Known
 w446
 [(w.heap.size,
 [((0 :
 Nat),
 Value.int
 IntKind.i64
 k),
 ((1 :
 Nat),
 Value.int
 IntKind.i64
 x),
 ((2 :
 Nat),
 Value.slice
 qb
 nb
 cb),
 ((3 :
 Nat),
 Value.slice
 qk
 nk
 ck),
 ((4 :
 Nat),
 Value.int
 IntKind.u8
 fill)]),
 (w7.heap.size,
 [((0 :
 Nat),
 Value.slice
 q451
 n452
 n453),
 ((1 :
 Nat),
 Value.slice
 q454
 n455
 n456),
 ((2 :
 Nat),
 Value.slice
 q457
 n458
 n459)]),
 ((w7.alloc
 (Obj.cells
 #[Value.slice
 none
 (0 :
 Nat)
 (0 :
 Nat),
 Value.slice
 none
 (0 :
 Nat)
 (0 :
 Nat),
 Value.slice
 none
 (0 :
 Nat)
 (0 :
 Nat)]
 (29 :
 Nat))).heap.size,
 [((0 :
 Nat),
 Value.slice
 q27
 n28
 n29),
 ((1 :
 Nat),
 Value.slice
 q30
 n31
 n32),
 ((2 :
 Nat),
 Value.slice
 q33
 n34
 n35),
 ((3 :
 Nat),
 Value.slice
 q36
 n37
 n38)])] →
 R
 (Ending.returned
 (Value.bool
 false))
 w446))))))))
theorem vcTry4 (q : Option Addr) (n c : Nat) (k x : Int) (qb : Option Addr) (nb cb : Nat) (qk : Option Addr) (nk ck : Nat) (fill : Int) (w : World) (R : Ending → World → Prop) : SX.vcFn Try.prog [(20, ⟨[(14, .int .i64)], [13, 10, 8, 12, 5, 3], []⟩), (6, ⟨[(7, .int .i64)], [5, 6, 0, 3], [(1, 0, .slice), (1, 1, .slice), (1, 2, .slice), (2, 0, .slice), (2, 1, .slice), (2, 2, .slice), (2, 3, .slice)]⟩)] Try.f4 [.v (.slice q n c), .v (.agg #[.int .i64 k, .int .i64 x, .slice qb nb cb, .slice qk nk ck, .int .u8 fill])] [] w R = VCTry4 q n c k x qb nb cb qk nk ck fill w R := by kernel_rfl
end Go.Proofs.Ytlgkcbdpaffigaa
