/- The conditions of functions, as the executor computes them: each is equal to what 'vcFn' says. -/
import Derived.Test.YtbpknjldphckgaaDoorSxLib
import Derived.Test.YtbpknjldphckgaaDoorProg
namespace Go.Proofs.YtbpknjldphckgaaDoor
open Go Go.SX Go.Proofs
set_option maxRecDepth 100000
set_option linter.unusedVariables false
def KL22a (w : World) (s28 : ByteArray) (q29 : Option Addr) (n30 : Nat) (n31 : Nat) (fs : ByteArray) (fq : Option Addr) (fn : Nat) (fc : Nat) (s32 : ByteArray) (q33 : Option Addr) (n34 : Nat) (n35 : Nat) (w36 : World) : List (Nat × List (Nat × Value)) :=
 [(w.heap.size, [((0 : Nat), Value.string s28), ((1 : Nat), Value.slice q29 n30 n31)]), ((w.alloc (Obj.cells #[Value.string fs, Value.slice fq fn fc] (107 : Nat))).heap.size, [((0 : Nat), Value.string s32), ((1 : Nat), Value.slice q33 n34 n35)]), (w36.heap.size, [((0 : Nat), Value.int IntKind.i64 (3 : Int)), ((1 : Nat), Value.string s28), ((2 : Nat), Value.slice q29 n30 n31), ((3 : Nat), Value.int IntKind.i64 (0 : Int)), ((4 : Nat), Value.slice none (0 : Nat) (0 : Nat)), ((5 : Nat), Value.int IntKind.i64 (0 : Int)), ((6 : Nat), Value.int IntKind.u8 (0 : Int))]), (((((((((w36.alloc (Obj.cells #[Value.int IntKind.i64 (0 : Int), Value.string { data := #[] }, Value.slice none (0 : Nat) (0 : Nat), Value.int IntKind.i64 (0 : Int), Value.slice none (0 : Nat) (0 : Nat), Value.int IntKind.i64 (0 : Int), Value.int IntKind.u8 (0 : Int)] (124 : Nat))).setCell { block := w36.heap.size, off := (0 : Nat) } (Value.int IntKind.i64 (3 : Int))).setCell { block := w36.heap.size, off := (1 : Nat) } (Value.string s28)).setCell { block := w36.heap.size, off := (2 : Nat) } (Value.slice q29 n30 n31)).setCell { block := w36.heap.size, off := (3 : Nat) } (Value.int IntKind.i64 (0 : Int))).setCell { block := w36.heap.size, off := (4 : Nat) } (Value.slice none (0 : Nat) (0 : Nat))).setCell { block := w36.heap.size, off := (5 : Nat) } (Value.int IntKind.i64 (0 : Int))).setCell { block := w36.heap.size, off := (6 : Nat) } (Value.int IntKind.u8 (0 : Int))).heap.size, [((0 : Nat), Value.int IntKind.i64 (3 : Int)), ((1 : Nat), Value.string s32), ((2 : Nat), Value.slice q33 n34 n35), ((3 : Nat), Value.int IntKind.i64 (0 : Int)), ((4 : Nat), Value.slice none (0 : Nat) (0 : Nat)), ((5 : Nat), Value.int IntKind.i64 (0 : Int)), ((6 : Nat), Value.int IntKind.u8 (0 : Int))])]
def KL22b (w : World) (s28 : ByteArray) (q29 : Option Addr) (n30 : Nat) (n31 : Nat) (fs : ByteArray) (fq : Option Addr) (fn : Nat) (fc : Nat) (s32 : ByteArray) (q33 : Option Addr) (n34 : Nat) (n35 : Nat) (w36 : World) : List (Nat × List (Nat × Value)) :=
 [(w.heap.size, [((0 : Nat), Value.string s28), ((1 : Nat), Value.slice q29 n30 n31)]), ((w.alloc (Obj.cells #[Value.string fs, Value.slice fq fn fc] (107 : Nat))).heap.size, [((0 : Nat), Value.string s32), ((1 : Nat), Value.slice q33 n34 n35)]), (w36.heap.size, [((0 : Nat), Value.int IntKind.i64 (3 : Int)), ((1 : Nat), Value.string s28), ((2 : Nat), Value.slice q29 n30 n31), ((3 : Nat), Value.int IntKind.i64 (0 : Int)), ((4 : Nat), Value.slice none (0 : Nat) (0 : Nat)), ((5 : Nat), Value.int IntKind.i64 (0 : Int)), ((6 : Nat), Value.int IntKind.u8 (0 : Int))]), (((((((((w36.alloc (Obj.cells #[Value.int IntKind.i64 (0 : Int), Value.string { data := #[] }, Value.slice none (0 : Nat) (0 : Nat), Value.int IntKind.i64 (0 : Int), Value.slice none (0 : Nat) (0 : Nat), Value.int IntKind.i64 (0 : Int), Value.int IntKind.u8 (0 : Int)] (124 : Nat))).setCell {block := w36.heap.size, off := (0 : Nat) } (Value.int IntKind.i64 (3 : Int))).setCell {block := w36.heap.size, off := (1 : Nat) } (Value.string s28)).setCell {block := w36.heap.size, off := (2 : Nat) } (Value.slice q29 n30 n31)).setCell {block := w36.heap.size, off := (3 : Nat) } (Value.int IntKind.i64 (0 : Int))).setCell {block := w36.heap.size, off := (4 : Nat) } (Value.slice none (0 : Nat) (0 : Nat))).setCell {block := w36.heap.size, off := (5 : Nat) } (Value.int IntKind.i64 (0 : Int))).setCell {block := w36.heap.size, off := (6 : Nat) } (Value.int IntKind.u8 (0 : Int))).heap.size, [((0 : Nat), Value.int IntKind.i64 (3 : Int)), ((1 : Nat), Value.string s32), ((2 : Nat), Value.slice q33 n34 n35), ((3 : Nat), Value.int IntKind.i64 (0 : Int)), ((4 : Nat), Value.slice none (0 : Nat) (0 : Nat)), ((5 : Nat), Value.int IntKind.i64 (0 : Int)), ((6 : Nat), Value.int IntKind.u8 (0 : Int))])]
def KL22c (w : World) (fs : ByteArray) (fq : Option Addr) (fn : Nat) (fc : Nat) (gs : ByteArray) (gq : Option Addr) (gn : Nat) (gc : Nat) : List (Nat × List (Nat × Value)) :=
 [(w.heap.size, [((0 : Nat), Value.string fs), ((1 : Nat), Value.slice fq fn fc)]), ((w.alloc (Obj.cells #[Value.string fs, Value.slice fq fn fc] (107 : Nat))).heap.size, [((0 : Nat), Value.string gs), ((1 : Nat), Value.slice gq gn gc)])]
def VCTryd22 (fs : ByteArray) (fq : Option Addr) (fn fc : Nat) (gs : ByteArray) (gq : Option Addr) (gn gc : Nat) (w : World) (R : Ending → World → Prop) : Prop :=
Known ((w.alloc (Obj.cells #[Value.string fs, Value.slice fq fn fc] (107 : Nat))).alloc (Obj.cells #[Value.string gs, Value.slice gq gn gc] (107 : Nat)))
 (KL22c w fs fq fn fc gs gq gn gc) →
 Rets Tryd.prog (29 : Nat) #[Value.string fs] ((w.alloc (Obj.cells #[Value.string fs, Value.slice fq fn fc] (107 : Nat))).alloc (Obj.cells #[Value.string gs, Value.slice gq gn gc] (107 : Nat)))
 fun (v0 : Value) (w1 : World) =>
 ∃ (t2 : Bool),
 v0 = Value.bool t2 ∧
 Keeps ((w.alloc (Obj.cells #[Value.string fs, Value.slice fq fn fc] (107 : Nat))).alloc (Obj.cells #[Value.string gs, Value.slice gq gn gc] (107 : Nat))) w1
 [w.heap.size, (w.alloc (Obj.cells #[Value.string fs, Value.slice fq fn fc] (107 : Nat))).heap.size] ∧
 bif !t2 then
 Known w1
 (KL22c w fs fq fn fc gs gq gn gc) →
 Rets Tryd.prog (83 : Nat) #[] w1 fun (v3 : Value) (w4 : World) =>
 ∃ (t5 : Bool),
 v3 = Value.bool t5 ∧
 Keeps w1 w4 [w.heap.size, (w.alloc (Obj.cells #[Value.string fs, Value.slice fq fn fc] (107 : Nat))).heap.size] ∧
 (Known w4
 (KL22c w fs fq fn fc gs gq gn gc) →
 R (Ending.returned (Value.bool t5)) w4)
 else
 Known w1
 (KL22c w fs fq fn fc gs gq gn gc) →
 Rets Tryd.prog (29 : Nat) #[Value.string gs] w1 fun (v6 : Value) (w7 : World) =>
 ∃ (t8 : Bool),
 v6 = Value.bool t8 ∧
 Keeps w1 w7 [w.heap.size, (w.alloc (Obj.cells #[Value.string fs, Value.slice fq fn fc] (107 : Nat))).heap.size] ∧
 bif !t8 then
 Known w7
 (KL22c w fs fq fn fc gs gq gn gc) →
 Rets Tryd.prog (83 : Nat) #[] w7 fun (v9 : Value) (w10 : World) =>
 ∃ (t11 : Bool),
 v9 = Value.bool t11 ∧
 Keeps w7 w10 [w.heap.size, (w.alloc (Obj.cells #[Value.string fs, Value.slice fq fn fc] (107 : Nat))).heap.size] ∧
 (Known w10
 (KL22c w fs fq fn fc gs gq gn gc) →
 R (Ending.returned (Value.bool t11)) w10)
 else
 bif fs.toList == gs.toList then
 Known w7
 (KL22c w fs fq fn fc gs gq gn gc) →
 Rets Tryd.prog (83 : Nat) #[] w7 fun (v12 : Value) (w13 : World) =>
 ∃ (t14 : Bool),
 v12 = Value.bool t14 ∧
 Keeps w7 w13 [w.heap.size, (w.alloc (Obj.cells #[Value.string fs, Value.slice fq fn fc] (107 : Nat))).heap.size] ∧
 (Known w13
 (KL22c w fs fq fn fc gs gq gn gc) →
 R (Ending.returned (Value.bool t14)) w13)
 else
 bif decide ((↑fn : Int) > (65536 : Int)) then
 Known w7
 (KL22c w fs fq fn fc gs gq gn gc) →
 Rets Tryd.prog (83 : Nat) #[] w7 fun (v15 : Value) (w16 : World) =>
 ∃ (t17 : Bool),
 v15 = Value.bool t17 ∧
 Keeps w7 w16 [w.heap.size, (w.alloc (Obj.cells #[Value.string fs, Value.slice fq fn fc] (107 : Nat))).heap.size] ∧
 (Known w16
 (KL22c w fs fq fn fc gs gq gn gc) →
 R (Ending.returned (Value.bool t17)) w16)
 else
 bif decide ((↑gn : Int) > (65536 : Int)) then
 Known w7
 (KL22c w fs fq fn fc gs gq gn gc) →
 Rets Tryd.prog (83 : Nat) #[] w7 fun (v18 : Value) (w19 : World) =>
 ∃ (t20 : Bool),
 v18 = Value.bool t20 ∧
 Keeps w7 w19 [w.heap.size, (w.alloc (Obj.cells #[Value.string fs, Value.slice fq fn fc] (107 : Nat))).heap.size] ∧
 (Known w19
 (KL22c w fs fq fn fc gs gq gn gc) →
 R (Ending.returned (Value.bool t20)) w19)
 else
 Known w7
 (KL22c w fs fq fn fc gs gq gn gc) →
 Rets Tryd.prog (93 : Nat) #[] w7 fun (v21 : Value) (w22 : World) =>
 ∃ (q23 : Option Addr),
 v21 = Value.pointer q23 ∧
 Keeps w7 w22 [w.heap.size, (w.alloc (Obj.cells #[Value.string fs, Value.slice fq fn fc] (107 : Nat))).heap.size] ∧
 bif q23.isNone then
 Known w22
 (KL22c w fs fq fn fc gs gq gn gc) →
 R (Ending.returned (Value.bool false)) w22
 else
 ∃ (I24 : Option Addr → Nat → Nat → ByteArray → Option Addr → Nat → Nat → ByteArray → Option Addr → Nat → Nat → World → Prop),
 (∀ (q25 : Option Addr) (n26 n27 : Nat) (s28 : ByteArray) (q29 : Option Addr) (n30 n31 : Nat) (s32 : ByteArray) (q33 : Option Addr) (n34 n35 : Nat) (w36 : World),
 I24 q25 n26 n27 s28 q29 n30 n31 s32 q33 n34 n35 w36 →
 Known w36
 [(w.heap.size, [((0 : Nat), Value.string s28), ((1 : Nat), Value.slice q29 n30 n31)]),
 ((w.alloc (Obj.cells #[Value.string fs, Value.slice fq fn fc] (107 : Nat))).heap.size, [((0 : Nat), Value.string s32), ((1 : Nat), Value.slice q33 n34 n35)])] →
 Known
 ((((((((((((((((w36.alloc
 (Obj.cells
 #[Value.int IntKind.i64 (0 : Int), Value.string { data := #[] },
 Value.slice none (0 : Nat) (0 : Nat), Value.int IntKind.i64 (0 : Int),
 Value.slice none (0 : Nat) (0 : Nat), Value.int IntKind.i64 (0 : Int),
 Value.int IntKind.u8 (0 : Int)]
 (124 : Nat))).setCell
 {block := w36.heap.size, off := (0 : Nat) } (Value.int IntKind.i64 (3 : Int))).setCell
 {block := w36.heap.size, off := (1 : Nat) } (Value.string s28)).setCell
 {block := w36.heap.size, off := (2 : Nat) } (Value.slice q29 n30 n31)).setCell
 {block := w36.heap.size, off := (3 : Nat) } (Value.int IntKind.i64 (0 : Int))).setCell
 {block := w36.heap.size, off := (4 : Nat) } (Value.slice none (0 : Nat) (0 : Nat))).setCell
 {block := w36.heap.size, off := (5 : Nat) } (Value.int IntKind.i64 (0 : Int))).setCell
 {block := w36.heap.size, off := (6 : Nat) } (Value.int IntKind.u8 (0 : Int))).alloc
 (Obj.cells
 #[Value.int IntKind.i64 (0 : Int), Value.string { data := #[] }, Value.slice none (0 : Nat) (0 : Nat),
 Value.int IntKind.i64 (0 : Int), Value.slice none (0 : Nat) (0 : Nat), Value.int IntKind.i64 (0 : Int),
 Value.int IntKind.u8 (0 : Int)]
 (124 : Nat))).setCell
 { block := ((((((((w36.alloc (Obj.cells #[Value.int IntKind.i64 (0 : Int), Value.string { data := #[] }, Value.slice none (0 : Nat) (0 : Nat), Value.int IntKind.i64 (0 : Int), Value.slice none (0 : Nat) (0 : Nat), Value.int IntKind.i64 (0 : Int), Value.int IntKind.u8 (0 : Int)] (124 : Nat))).setCell {block := w36.heap.size, off := (0 : Nat) } (Value.int IntKind.i64 (3 : Int))).setCell {block := w36.heap.size, off := (1 : Nat) } (Value.string s28)).setCell {block := w36.heap.size, off := (2 : Nat) } (Value.slice q29 n30 n31)).setCell {block := w36.heap.size, off := (3 : Nat) } (Value.int IntKind.i64 (0 : Int))).setCell {block := w36.heap.size, off := (4 : Nat) } (Value.slice none (0 : Nat) (0 : Nat))).setCell {block := w36.heap.size, off := (5 : Nat) } (Value.int IntKind.i64 (0 : Int))).setCell {block := w36.heap.size, off := (6 : Nat) } (Value.int IntKind.u8 (0 : Int))).heap.size, off := (0 : Nat) }
 (Value.int IntKind.i64 (3 : Int))).setCell
 { block := ((((((((w36.alloc (Obj.cells #[Value.int IntKind.i64 (0 : Int), Value.string { data := #[] }, Value.slice none (0 : Nat) (0 : Nat), Value.int IntKind.i64 (0 : Int), Value.slice none (0 : Nat) (0 : Nat), Value.int IntKind.i64 (0 : Int), Value.int IntKind.u8 (0 : Int)] (124 : Nat))).setCell {block := w36.heap.size, off := (0 : Nat) } (Value.int IntKind.i64 (3 : Int))).setCell {block := w36.heap.size, off := (1 : Nat) } (Value.string s28)).setCell {block := w36.heap.size, off := (2 : Nat) } (Value.slice q29 n30 n31)).setCell {block := w36.heap.size, off := (3 : Nat) } (Value.int IntKind.i64 (0 : Int))).setCell {block := w36.heap.size, off := (4 : Nat) } (Value.slice none (0 : Nat) (0 : Nat))).setCell {block := w36.heap.size, off := (5 : Nat) } (Value.int IntKind.i64 (0 : Int))).setCell {block := w36.heap.size, off := (6 : Nat) } (Value.int IntKind.u8 (0 : Int))).heap.size, off := (1 : Nat) }
 (Value.string s32)).setCell
 { block := ((((((((w36.alloc (Obj.cells #[Value.int IntKind.i64 (0 : Int), Value.string { data := #[] }, Value.slice none (0 : Nat) (0 : Nat), Value.int IntKind.i64 (0 : Int), Value.slice none (0 : Nat) (0 : Nat), Value.int IntKind.i64 (0 : Int), Value.int IntKind.u8 (0 : Int)] (124 : Nat))).setCell {block := w36.heap.size, off := (0 : Nat) } (Value.int IntKind.i64 (3 : Int))).setCell {block := w36.heap.size, off := (1 : Nat) } (Value.string s28)).setCell {block := w36.heap.size, off := (2 : Nat) } (Value.slice q29 n30 n31)).setCell {block := w36.heap.size, off := (3 : Nat) } (Value.int IntKind.i64 (0 : Int))).setCell {block := w36.heap.size, off := (4 : Nat) } (Value.slice none (0 : Nat) (0 : Nat))).setCell {block := w36.heap.size, off := (5 : Nat) } (Value.int IntKind.i64 (0 : Int))).setCell {block := w36.heap.size, off := (6 : Nat) } (Value.int IntKind.u8 (0 : Int))).heap.size, off := (2 : Nat) }
 (Value.slice q33 n34 n35)).setCell
 { block := ((((((((w36.alloc (Obj.cells #[Value.int IntKind.i64 (0 : Int), Value.string { data := #[] }, Value.slice none (0 : Nat) (0 : Nat), Value.int IntKind.i64 (0 : Int), Value.slice none (0 : Nat) (0 : Nat), Value.int IntKind.i64 (0 : Int), Value.int IntKind.u8 (0 : Int)] (124 : Nat))).setCell {block := w36.heap.size, off := (0 : Nat) } (Value.int IntKind.i64 (3 : Int))).setCell {block := w36.heap.size, off := (1 : Nat) } (Value.string s28)).setCell {block := w36.heap.size, off := (2 : Nat) } (Value.slice q29 n30 n31)).setCell {block := w36.heap.size, off := (3 : Nat) } (Value.int IntKind.i64 (0 : Int))).setCell {block := w36.heap.size, off := (4 : Nat) } (Value.slice none (0 : Nat) (0 : Nat))).setCell {block := w36.heap.size, off := (5 : Nat) } (Value.int IntKind.i64 (0 : Int))).setCell {block := w36.heap.size, off := (6 : Nat) } (Value.int IntKind.u8 (0 : Int))).heap.size, off := (3 : Nat) }
 (Value.int IntKind.i64 (0 : Int))).setCell
 { block := ((((((((w36.alloc (Obj.cells #[Value.int IntKind.i64 (0 : Int), Value.string { data := #[] }, Value.slice none (0 : Nat) (0 : Nat), Value.int IntKind.i64 (0 : Int), Value.slice none (0 : Nat) (0 : Nat), Value.int IntKind.i64 (0 : Int), Value.int IntKind.u8 (0 : Int)] (124 : Nat))).setCell {block := w36.heap.size, off := (0 : Nat) } (Value.int IntKind.i64 (3 : Int))).setCell {block := w36.heap.size, off := (1 : Nat) } (Value.string s28)).setCell {block := w36.heap.size, off := (2 : Nat) } (Value.slice q29 n30 n31)).setCell {block := w36.heap.size, off := (3 : Nat) } (Value.int IntKind.i64 (0 : Int))).setCell {block := w36.heap.size, off := (4 : Nat) } (Value.slice none (0 : Nat) (0 : Nat))).setCell {block := w36.heap.size, off := (5 : Nat) } (Value.int IntKind.i64 (0 : Int))).setCell {block := w36.heap.size, off := (6 : Nat) } (Value.int IntKind.u8 (0 : Int))).heap.size, off := (4 : Nat) }
 (Value.slice none (0 : Nat) (0 : Nat))).setCell
 { block := ((((((((w36.alloc (Obj.cells #[Value.int IntKind.i64 (0 : Int), Value.string { data := #[] }, Value.slice none (0 : Nat) (0 : Nat), Value.int IntKind.i64 (0 : Int), Value.slice none (0 : Nat) (0 : Nat), Value.int IntKind.i64 (0 : Int), Value.int IntKind.u8 (0 : Int)] (124 : Nat))).setCell {block := w36.heap.size, off := (0 : Nat) } (Value.int IntKind.i64 (3 : Int))).setCell {block := w36.heap.size, off := (1 : Nat) } (Value.string s28)).setCell {block := w36.heap.size, off := (2 : Nat) } (Value.slice q29 n30 n31)).setCell {block := w36.heap.size, off := (3 : Nat) } (Value.int IntKind.i64 (0 : Int))).setCell {block := w36.heap.size, off := (4 : Nat) } (Value.slice none (0 : Nat) (0 : Nat))).setCell {block := w36.heap.size, off := (5 : Nat) } (Value.int IntKind.i64 (0 : Int))).setCell {block := w36.heap.size, off := (6 : Nat) } (Value.int IntKind.u8 (0 : Int))).heap.size, off := (5 : Nat) }
 (Value.int IntKind.i64 (0 : Int))).setCell
 { block := ((((((((w36.alloc (Obj.cells #[Value.int IntKind.i64 (0 : Int), Value.string { data := #[] }, Value.slice none (0 : Nat) (0 : Nat), Value.int IntKind.i64 (0 : Int), Value.slice none (0 : Nat) (0 : Nat), Value.int IntKind.i64 (0 : Int), Value.int IntKind.u8 (0 : Int)] (124 : Nat))).setCell {block := w36.heap.size, off := (0 : Nat) } (Value.int IntKind.i64 (3 : Int))).setCell {block := w36.heap.size, off := (1 : Nat) } (Value.string s28)).setCell {block := w36.heap.size, off := (2 : Nat) } (Value.slice q29 n30 n31)).setCell {block := w36.heap.size, off := (3 : Nat) } (Value.int IntKind.i64 (0 : Int))).setCell {block := w36.heap.size, off := (4 : Nat) } (Value.slice none (0 : Nat) (0 : Nat))).setCell {block := w36.heap.size, off := (5 : Nat) } (Value.int IntKind.i64 (0 : Int))).setCell {block := w36.heap.size, off := (6 : Nat) } (Value.int IntKind.u8 (0 : Int))).heap.size, off := (6 : Nat) }
 (Value.int IntKind.u8 (0 : Int)))
 (KL22b w s28 q29 n30 n31 fs fq fn fc s32 q33 n34 n35 w36) →
 Rets Tryd.prog (94 : Nat)
 #[Value.pointer q23,
 Value.agg
 #[Value.int IntKind.i64 (3 : Int), Value.string s28, Value.slice q29 n30 n31, Value.int IntKind.i64 (0 : Int), Value.slice none (0 : Nat) (0 : Nat),
 Value.int IntKind.i64 (0 : Int), Value.int IntKind.u8 (0 : Int)],
 Value.agg
 #[Value.int IntKind.i64 (0 : Int), Value.slice none (0 : Nat) (0 : Nat), Value.int IntKind.i64 (0 : Int), Value.slice none (0 : Nat) (0 : Nat),
 Value.slice none (0 : Nat) (0 : Nat), Value.bool false, Value.bool false]]
 ((((((((((((((((w36.alloc
 (Obj.cells
 #[Value.int IntKind.i64 (0 : Int), Value.string { data := #[] },
 Value.slice none (0 : Nat) (0 : Nat), Value.int IntKind.i64 (0 : Int),
 Value.slice none (0 : Nat) (0 : Nat), Value.int IntKind.i64 (0 : Int),
 Value.int IntKind.u8 (0 : Int)]
 (124 : Nat))).setCell
 {block := w36.heap.size, off := (0 : Nat) } (Value.int IntKind.i64 (3 : Int))).setCell
 {block := w36.heap.size, off := (1 : Nat) } (Value.string s28)).setCell
 {block := w36.heap.size, off := (2 : Nat) } (Value.slice q29 n30 n31)).setCell
 {block := w36.heap.size, off := (3 : Nat) } (Value.int IntKind.i64 (0 : Int))).setCell
 {block := w36.heap.size, off := (4 : Nat) } (Value.slice none (0 : Nat) (0 : Nat))).setCell
 {block := w36.heap.size, off := (5 : Nat) } (Value.int IntKind.i64 (0 : Int))).setCell
 {block := w36.heap.size, off := (6 : Nat) } (Value.int IntKind.u8 (0 : Int))).alloc
 (Obj.cells
 #[Value.int IntKind.i64 (0 : Int), Value.string { data := #[] }, Value.slice none (0 : Nat) (0 : Nat),
 Value.int IntKind.i64 (0 : Int), Value.slice none (0 : Nat) (0 : Nat), Value.int IntKind.i64 (0 : Int),
 Value.int IntKind.u8 (0 : Int)]
 (124 : Nat))).setCell
 { block := ((((((((w36.alloc (Obj.cells #[Value.int IntKind.i64 (0 : Int), Value.string { data := #[] }, Value.slice none (0 : Nat) (0 : Nat), Value.int IntKind.i64 (0 : Int), Value.slice none (0 : Nat) (0 : Nat), Value.int IntKind.i64 (0 : Int), Value.int IntKind.u8 (0 : Int)] (124 : Nat))).setCell {block := w36.heap.size, off := (0 : Nat) } (Value.int IntKind.i64 (3 : Int))).setCell {block := w36.heap.size, off := (1 : Nat) } (Value.string s28)).setCell {block := w36.heap.size, off := (2 : Nat) } (Value.slice q29 n30 n31)).setCell {block := w36.heap.size, off := (3 : Nat) } (Value.int IntKind.i64 (0 : Int))).setCell {block := w36.heap.size, off := (4 : Nat) } (Value.slice none (0 : Nat) (0 : Nat))).setCell {block := w36.heap.size, off := (5 : Nat) } (Value.int IntKind.i64 (0 : Int))).setCell {block := w36.heap.size, off := (6 : Nat) } (Value.int IntKind.u8 (0 : Int))).heap.size, off := (0 : Nat) }
 (Value.int IntKind.i64 (3 : Int))).setCell
 { block := ((((((((w36.alloc (Obj.cells #[Value.int IntKind.i64 (0 : Int), Value.string { data := #[] }, Value.slice none (0 : Nat) (0 : Nat), Value.int IntKind.i64 (0 : Int), Value.slice none (0 : Nat) (0 : Nat), Value.int IntKind.i64 (0 : Int), Value.int IntKind.u8 (0 : Int)] (124 : Nat))).setCell {block := w36.heap.size, off := (0 : Nat) } (Value.int IntKind.i64 (3 : Int))).setCell {block := w36.heap.size, off := (1 : Nat) } (Value.string s28)).setCell {block := w36.heap.size, off := (2 : Nat) } (Value.slice q29 n30 n31)).setCell {block := w36.heap.size, off := (3 : Nat) } (Value.int IntKind.i64 (0 : Int))).setCell {block := w36.heap.size, off := (4 : Nat) } (Value.slice none (0 : Nat) (0 : Nat))).setCell {block := w36.heap.size, off := (5 : Nat) } (Value.int IntKind.i64 (0 : Int))).setCell {block := w36.heap.size, off := (6 : Nat) } (Value.int IntKind.u8 (0 : Int))).heap.size, off := (1 : Nat) }
 (Value.string s32)).setCell
 { block := ((((((((w36.alloc (Obj.cells #[Value.int IntKind.i64 (0 : Int), Value.string { data := #[] }, Value.slice none (0 : Nat) (0 : Nat), Value.int IntKind.i64 (0 : Int), Value.slice none (0 : Nat) (0 : Nat), Value.int IntKind.i64 (0 : Int), Value.int IntKind.u8 (0 : Int)] (124 : Nat))).setCell {block := w36.heap.size, off := (0 : Nat) } (Value.int IntKind.i64 (3 : Int))).setCell {block := w36.heap.size, off := (1 : Nat) } (Value.string s28)).setCell {block := w36.heap.size, off := (2 : Nat) } (Value.slice q29 n30 n31)).setCell {block := w36.heap.size, off := (3 : Nat) } (Value.int IntKind.i64 (0 : Int))).setCell {block := w36.heap.size, off := (4 : Nat) } (Value.slice none (0 : Nat) (0 : Nat))).setCell {block := w36.heap.size, off := (5 : Nat) } (Value.int IntKind.i64 (0 : Int))).setCell {block := w36.heap.size, off := (6 : Nat) } (Value.int IntKind.u8 (0 : Int))).heap.size, off := (2 : Nat) }
 (Value.slice q33 n34 n35)).setCell
 { block := ((((((((w36.alloc (Obj.cells #[Value.int IntKind.i64 (0 : Int), Value.string { data := #[] }, Value.slice none (0 : Nat) (0 : Nat), Value.int IntKind.i64 (0 : Int), Value.slice none (0 : Nat) (0 : Nat), Value.int IntKind.i64 (0 : Int), Value.int IntKind.u8 (0 : Int)] (124 : Nat))).setCell {block := w36.heap.size, off := (0 : Nat) } (Value.int IntKind.i64 (3 : Int))).setCell {block := w36.heap.size, off := (1 : Nat) } (Value.string s28)).setCell {block := w36.heap.size, off := (2 : Nat) } (Value.slice q29 n30 n31)).setCell {block := w36.heap.size, off := (3 : Nat) } (Value.int IntKind.i64 (0 : Int))).setCell {block := w36.heap.size, off := (4 : Nat) } (Value.slice none (0 : Nat) (0 : Nat))).setCell {block := w36.heap.size, off := (5 : Nat) } (Value.int IntKind.i64 (0 : Int))).setCell {block := w36.heap.size, off := (6 : Nat) } (Value.int IntKind.u8 (0 : Int))).heap.size, off := (3 : Nat) }
 (Value.int IntKind.i64 (0 : Int))).setCell
 { block := ((((((((w36.alloc (Obj.cells #[Value.int IntKind.i64 (0 : Int), Value.string { data := #[] }, Value.slice none (0 : Nat) (0 : Nat), Value.int IntKind.i64 (0 : Int), Value.slice none (0 : Nat) (0 : Nat), Value.int IntKind.i64 (0 : Int), Value.int IntKind.u8 (0 : Int)] (124 : Nat))).setCell {block := w36.heap.size, off := (0 : Nat) } (Value.int IntKind.i64 (3 : Int))).setCell {block := w36.heap.size, off := (1 : Nat) } (Value.string s28)).setCell {block := w36.heap.size, off := (2 : Nat) } (Value.slice q29 n30 n31)).setCell {block := w36.heap.size, off := (3 : Nat) } (Value.int IntKind.i64 (0 : Int))).setCell {block := w36.heap.size, off := (4 : Nat) } (Value.slice none (0 : Nat) (0 : Nat))).setCell {block := w36.heap.size, off := (5 : Nat) } (Value.int IntKind.i64 (0 : Int))).setCell {block := w36.heap.size, off := (6 : Nat) } (Value.int IntKind.u8 (0 : Int))).heap.size, off := (4 : Nat) }
 (Value.slice none (0 : Nat) (0 : Nat))).setCell
 { block := ((((((((w36.alloc (Obj.cells #[Value.int IntKind.i64 (0 : Int), Value.string { data := #[] }, Value.slice none (0 : Nat) (0 : Nat), Value.int IntKind.i64 (0 : Int), Value.slice none (0 : Nat) (0 : Nat), Value.int IntKind.i64 (0 : Int), Value.int IntKind.u8 (0 : Int)] (124 : Nat))).setCell {block := w36.heap.size, off := (0 : Nat) } (Value.int IntKind.i64 (3 : Int))).setCell {block := w36.heap.size, off := (1 : Nat) } (Value.string s28)).setCell {block := w36.heap.size, off := (2 : Nat) } (Value.slice q29 n30 n31)).setCell {block := w36.heap.size, off := (3 : Nat) } (Value.int IntKind.i64 (0 : Int))).setCell {block := w36.heap.size, off := (4 : Nat) } (Value.slice none (0 : Nat) (0 : Nat))).setCell {block := w36.heap.size, off := (5 : Nat) } (Value.int IntKind.i64 (0 : Int))).setCell {block := w36.heap.size, off := (6 : Nat) } (Value.int IntKind.u8 (0 : Int))).heap.size, off := (5 : Nat) }
 (Value.int IntKind.i64 (0 : Int))).setCell
 { block := ((((((((w36.alloc (Obj.cells #[Value.int IntKind.i64 (0 : Int), Value.string { data := #[] }, Value.slice none (0 : Nat) (0 : Nat), Value.int IntKind.i64 (0 : Int), Value.slice none (0 : Nat) (0 : Nat), Value.int IntKind.i64 (0 : Int), Value.int IntKind.u8 (0 : Int)] (124 : Nat))).setCell {block := w36.heap.size, off := (0 : Nat) } (Value.int IntKind.i64 (3 : Int))).setCell {block := w36.heap.size, off := (1 : Nat) } (Value.string s28)).setCell {block := w36.heap.size, off := (2 : Nat) } (Value.slice q29 n30 n31)).setCell {block := w36.heap.size, off := (3 : Nat) } (Value.int IntKind.i64 (0 : Int))).setCell {block := w36.heap.size, off := (4 : Nat) } (Value.slice none (0 : Nat) (0 : Nat))).setCell {block := w36.heap.size, off := (5 : Nat) } (Value.int IntKind.i64 (0 : Int))).setCell {block := w36.heap.size, off := (6 : Nat) } (Value.int IntKind.u8 (0 : Int))).heap.size, off := (6 : Nat) }
 (Value.int IntKind.u8 (0 : Int)))
 fun (v37 : Value) (w38 : World) =>
 ∃ (t39 : Bool),
 v37 = Value.bool t39 ∧
 Keeps
 ((((((((((((((((w36.alloc
 (Obj.cells
 #[Value.int IntKind.i64 (0 : Int), Value.string { data := #[] },
 Value.slice none (0 : Nat) (0 : Nat), Value.int IntKind.i64 (0 : Int),
 Value.slice none (0 : Nat) (0 : Nat), Value.int IntKind.i64 (0 : Int),
 Value.int IntKind.u8 (0 : Int)]
 (124 : Nat))).setCell
 {block := w36.heap.size, off := (0 : Nat) } (Value.int IntKind.i64 (3 : Int))).setCell
 {block := w36.heap.size, off := (1 : Nat) } (Value.string s28)).setCell
 {block := w36.heap.size, off := (2 : Nat) } (Value.slice q29 n30 n31)).setCell
 {block := w36.heap.size, off := (3 : Nat) } (Value.int IntKind.i64 (0 : Int))).setCell
 {block := w36.heap.size, off := (4 : Nat) } (Value.slice none (0 : Nat) (0 : Nat))).setCell
 {block := w36.heap.size, off := (5 : Nat) } (Value.int IntKind.i64 (0 : Int))).setCell
 {block := w36.heap.size, off := (6 : Nat) } (Value.int IntKind.u8 (0 : Int))).alloc
 (Obj.cells
 #[Value.int IntKind.i64 (0 : Int), Value.string { data := #[] }, Value.slice none (0 : Nat) (0 : Nat),
 Value.int IntKind.i64 (0 : Int), Value.slice none (0 : Nat) (0 : Nat), Value.int IntKind.i64 (0 : Int),
 Value.int IntKind.u8 (0 : Int)]
 (124 : Nat))).setCell
 { block := ((((((((w36.alloc (Obj.cells #[Value.int IntKind.i64 (0 : Int), Value.string { data := #[] }, Value.slice none (0 : Nat) (0 : Nat), Value.int IntKind.i64 (0 : Int), Value.slice none (0 : Nat) (0 : Nat), Value.int IntKind.i64 (0 : Int), Value.int IntKind.u8 (0 : Int)] (124 : Nat))).setCell {block := w36.heap.size, off := (0 : Nat) } (Value.int IntKind.i64 (3 : Int))).setCell {block := w36.heap.size, off := (1 : Nat) } (Value.string s28)).setCell {block := w36.heap.size, off := (2 : Nat) } (Value.slice q29 n30 n31)).setCell {block := w36.heap.size, off := (3 : Nat) } (Value.int IntKind.i64 (0 : Int))).setCell {block := w36.heap.size, off := (4 : Nat) } (Value.slice none (0 : Nat) (0 : Nat))).setCell {block := w36.heap.size, off := (5 : Nat) } (Value.int IntKind.i64 (0 : Int))).setCell {block := w36.heap.size, off := (6 : Nat) } (Value.int IntKind.u8 (0 : Int))).heap.size, off := (0 : Nat) }
 (Value.int IntKind.i64 (3 : Int))).setCell
 { block := ((((((((w36.alloc (Obj.cells #[Value.int IntKind.i64 (0 : Int), Value.string { data := #[] }, Value.slice none (0 : Nat) (0 : Nat), Value.int IntKind.i64 (0 : Int), Value.slice none (0 : Nat) (0 : Nat), Value.int IntKind.i64 (0 : Int), Value.int IntKind.u8 (0 : Int)] (124 : Nat))).setCell {block := w36.heap.size, off := (0 : Nat) } (Value.int IntKind.i64 (3 : Int))).setCell {block := w36.heap.size, off := (1 : Nat) } (Value.string s28)).setCell {block := w36.heap.size, off := (2 : Nat) } (Value.slice q29 n30 n31)).setCell {block := w36.heap.size, off := (3 : Nat) } (Value.int IntKind.i64 (0 : Int))).setCell {block := w36.heap.size, off := (4 : Nat) } (Value.slice none (0 : Nat) (0 : Nat))).setCell {block := w36.heap.size, off := (5 : Nat) } (Value.int IntKind.i64 (0 : Int))).setCell {block := w36.heap.size, off := (6 : Nat) } (Value.int IntKind.u8 (0 : Int))).heap.size, off := (1 : Nat) }
 (Value.string s32)).setCell
 { block := ((((((((w36.alloc (Obj.cells #[Value.int IntKind.i64 (0 : Int), Value.string { data := #[] }, Value.slice none (0 : Nat) (0 : Nat), Value.int IntKind.i64 (0 : Int), Value.slice none (0 : Nat) (0 : Nat), Value.int IntKind.i64 (0 : Int), Value.int IntKind.u8 (0 : Int)] (124 : Nat))).setCell {block := w36.heap.size, off := (0 : Nat) } (Value.int IntKind.i64 (3 : Int))).setCell {block := w36.heap.size, off := (1 : Nat) } (Value.string s28)).setCell {block := w36.heap.size, off := (2 : Nat) } (Value.slice q29 n30 n31)).setCell {block := w36.heap.size, off := (3 : Nat) } (Value.int IntKind.i64 (0 : Int))).setCell {block := w36.heap.size, off := (4 : Nat) } (Value.slice none (0 : Nat) (0 : Nat))).setCell {block := w36.heap.size, off := (5 : Nat) } (Value.int IntKind.i64 (0 : Int))).setCell {block := w36.heap.size, off := (6 : Nat) } (Value.int IntKind.u8 (0 : Int))).heap.size, off := (2 : Nat) }
 (Value.slice q33 n34 n35)).setCell
 { block := ((((((((w36.alloc (Obj.cells #[Value.int IntKind.i64 (0 : Int), Value.string { data := #[] }, Value.slice none (0 : Nat) (0 : Nat), Value.int IntKind.i64 (0 : Int), Value.slice none (0 : Nat) (0 : Nat), Value.int IntKind.i64 (0 : Int), Value.int IntKind.u8 (0 : Int)] (124 : Nat))).setCell {block := w36.heap.size, off := (0 : Nat) } (Value.int IntKind.i64 (3 : Int))).setCell {block := w36.heap.size, off := (1 : Nat) } (Value.string s28)).setCell {block := w36.heap.size, off := (2 : Nat) } (Value.slice q29 n30 n31)).setCell {block := w36.heap.size, off := (3 : Nat) } (Value.int IntKind.i64 (0 : Int))).setCell {block := w36.heap.size, off := (4 : Nat) } (Value.slice none (0 : Nat) (0 : Nat))).setCell {block := w36.heap.size, off := (5 : Nat) } (Value.int IntKind.i64 (0 : Int))).setCell {block := w36.heap.size, off := (6 : Nat) } (Value.int IntKind.u8 (0 : Int))).heap.size, off := (3 : Nat) }
 (Value.int IntKind.i64 (0 : Int))).setCell
 { block := ((((((((w36.alloc (Obj.cells #[Value.int IntKind.i64 (0 : Int), Value.string { data := #[] }, Value.slice none (0 : Nat) (0 : Nat), Value.int IntKind.i64 (0 : Int), Value.slice none (0 : Nat) (0 : Nat), Value.int IntKind.i64 (0 : Int), Value.int IntKind.u8 (0 : Int)] (124 : Nat))).setCell {block := w36.heap.size, off := (0 : Nat) } (Value.int IntKind.i64 (3 : Int))).setCell {block := w36.heap.size, off := (1 : Nat) } (Value.string s28)).setCell {block := w36.heap.size, off := (2 : Nat) } (Value.slice q29 n30 n31)).setCell {block := w36.heap.size, off := (3 : Nat) } (Value.int IntKind.i64 (0 : Int))).setCell {block := w36.heap.size, off := (4 : Nat) } (Value.slice none (0 : Nat) (0 : Nat))).setCell {block := w36.heap.size, off := (5 : Nat) } (Value.int IntKind.i64 (0 : Int))).setCell {block := w36.heap.size, off := (6 : Nat) } (Value.int IntKind.u8 (0 : Int))).heap.size, off := (4 : Nat) }
 (Value.slice none (0 : Nat) (0 : Nat))).setCell
 { block := ((((((((w36.alloc (Obj.cells #[Value.int IntKind.i64 (0 : Int), Value.string { data := #[] }, Value.slice none (0 : Nat) (0 : Nat), Value.int IntKind.i64 (0 : Int), Value.slice none (0 : Nat) (0 : Nat), Value.int IntKind.i64 (0 : Int), Value.int IntKind.u8 (0 : Int)] (124 : Nat))).setCell {block := w36.heap.size, off := (0 : Nat) } (Value.int IntKind.i64 (3 : Int))).setCell {block := w36.heap.size, off := (1 : Nat) } (Value.string s28)).setCell {block := w36.heap.size, off := (2 : Nat) } (Value.slice q29 n30 n31)).setCell {block := w36.heap.size, off := (3 : Nat) } (Value.int IntKind.i64 (0 : Int))).setCell {block := w36.heap.size, off := (4 : Nat) } (Value.slice none (0 : Nat) (0 : Nat))).setCell {block := w36.heap.size, off := (5 : Nat) } (Value.int IntKind.i64 (0 : Int))).setCell {block := w36.heap.size, off := (6 : Nat) } (Value.int IntKind.u8 (0 : Int))).heap.size, off := (5 : Nat) }
 (Value.int IntKind.i64 (0 : Int))).setCell
 { block := ((((((((w36.alloc (Obj.cells #[Value.int IntKind.i64 (0 : Int), Value.string { data := #[] }, Value.slice none (0 : Nat) (0 : Nat), Value.int IntKind.i64 (0 : Int), Value.slice none (0 : Nat) (0 : Nat), Value.int IntKind.i64 (0 : Int), Value.int IntKind.u8 (0 : Int)] (124 : Nat))).setCell {block := w36.heap.size, off := (0 : Nat) } (Value.int IntKind.i64 (3 : Int))).setCell {block := w36.heap.size, off := (1 : Nat) } (Value.string s28)).setCell {block := w36.heap.size, off := (2 : Nat) } (Value.slice q29 n30 n31)).setCell {block := w36.heap.size, off := (3 : Nat) } (Value.int IntKind.i64 (0 : Int))).setCell {block := w36.heap.size, off := (4 : Nat) } (Value.slice none (0 : Nat) (0 : Nat))).setCell {block := w36.heap.size, off := (5 : Nat) } (Value.int IntKind.i64 (0 : Int))).setCell {block := w36.heap.size, off := (6 : Nat) } (Value.int IntKind.u8 (0 : Int))).heap.size, off := (6 : Nat) }
 (Value.int IntKind.u8 (0 : Int)))
 w38
 [w.heap.size, (w.alloc (Obj.cells #[Value.string fs, Value.slice fq fn fc] (107 : Nat))).heap.size, w36.heap.size,
 ((((((((w36.alloc
 (Obj.cells
 #[Value.int IntKind.i64 (0 : Int), Value.string { data := #[] }, Value.slice none (0 : Nat) (0 : Nat),
 Value.int IntKind.i64 (0 : Int), Value.slice none (0 : Nat) (0 : Nat), Value.int IntKind.i64 (0 : Int),
 Value.int IntKind.u8 (0 : Int)]
 (124 : Nat))).setCell
 {block := w36.heap.size, off := (0 : Nat) } (Value.int IntKind.i64 (3 : Int))).setCell
 {block := w36.heap.size, off := (1 : Nat) } (Value.string s28)).setCell
 {block := w36.heap.size, off := (2 : Nat) } (Value.slice q29 n30 n31)).setCell
 {block := w36.heap.size, off := (3 : Nat) } (Value.int IntKind.i64 (0 : Int))).setCell
 {block := w36.heap.size, off := (4 : Nat) } (Value.slice none (0 : Nat) (0 : Nat))).setCell
 {block := w36.heap.size, off := (5 : Nat) } (Value.int IntKind.i64 (0 : Int))).setCell
 {block := w36.heap.size, off := (6 : Nat) } (Value.int IntKind.u8 (0 : Int))).heap.size] ∧
 bif !t39 then
 Known w38
 (KL22b w s28 q29 n30 n31 fs fq fn fc s32 q33 n34 n35 w36) →
 R (Ending.returned (Value.bool false)) w38
 else
 Known w38
 (KL22b w s28 q29 n30 n31 fs fq fn fc s32 q33 n34 n35 w36) →
 Rets Tryd.prog (95 : Nat)
 #[Value.pointer q23, Value.agg #[Value.bool true, Value.slice (some { block := w22.heap.size, off := (0 : Nat) }) (1 : Nat) (1 : Nat)]] w38
 fun (v40 : Value) (w41 : World) =>
 ∃ (t42 : Bool),
 v40 = Value.bool t42 ∧
 Keeps w38 w41
 [w.heap.size, (w.alloc (Obj.cells #[Value.string fs, Value.slice fq fn fc] (107 : Nat))).heap.size, w36.heap.size,
 ((((((((w36.alloc
 (Obj.cells
 #[Value.int IntKind.i64 (0 : Int), Value.string { data := #[] }, Value.slice none (0 : Nat) (0 : Nat),
 Value.int IntKind.i64 (0 : Int), Value.slice none (0 : Nat) (0 : Nat), Value.int IntKind.i64 (0 : Int),
 Value.int IntKind.u8 (0 : Int)]
 (124 : Nat))).setCell
 {block := w36.heap.size, off := (0 : Nat) } (Value.int IntKind.i64 (3 : Int))).setCell
 {block := w36.heap.size, off := (1 : Nat) } (Value.string s28)).setCell
 {block := w36.heap.size, off := (2 : Nat) } (Value.slice q29 n30 n31)).setCell
 {block := w36.heap.size, off := (3 : Nat) } (Value.int IntKind.i64 (0 : Int))).setCell
 {block := w36.heap.size, off := (4 : Nat) } (Value.slice none (0 : Nat) (0 : Nat))).setCell
 {block := w36.heap.size, off := (5 : Nat) } (Value.int IntKind.i64 (0 : Int))).setCell
 {block := w36.heap.size, off := (6 : Nat) } (Value.int IntKind.u8 (0 : Int))).heap.size] ∧
 bif t42 then
 Known w41
 (KL22b w s28 q29 n30 n31 fs fq fn fc s32 q33 n34 n35 w36) →
 R (Ending.returned (Value.bool false)) w41
 else
 Known w41
 (KL22b w s28 q29 n30 n31 fs fq fn fc s32 q33 n34 n35 w36) →
 Rets Tryd.prog (94 : Nat)
 #[Value.pointer q23,
 Value.agg
 #[Value.int IntKind.i64 (12 : Int), Value.string { data := #[] }, Value.slice none (0 : Nat) (0 : Nat), Value.int IntKind.i64 (0 : Int),
 Value.slice none (0 : Nat) (0 : Nat), Value.int IntKind.i64 (0 : Int), Value.int IntKind.u8 (0 : Int)],
 Value.agg
 #[Value.int IntKind.i64 (0 : Int), Value.slice none (0 : Nat) (0 : Nat), Value.int IntKind.i64 (0 : Int),
 Value.slice none (0 : Nat) (0 : Nat), Value.slice none (0 : Nat) (0 : Nat), Value.bool false, Value.bool false]]
 w41 fun (v43 : Value) (w44 : World) =>
 ∃ (t45 : Bool),
 v43 = Value.bool t45 ∧
 Keeps w41 w44
 [w.heap.size, (w.alloc (Obj.cells #[Value.string fs, Value.slice fq fn fc] (107 : Nat))).heap.size, w36.heap.size,
 ((((((((w36.alloc
 (Obj.cells
 #[Value.int IntKind.i64 (0 : Int), Value.string { data := #[] },
 Value.slice none (0 : Nat) (0 : Nat), Value.int IntKind.i64 (0 : Int),
 Value.slice none (0 : Nat) (0 : Nat), Value.int IntKind.i64 (0 : Int),
 Value.int IntKind.u8 (0 : Int)]
 (124 : Nat))).setCell
 {block := w36.heap.size, off := (0 : Nat) } (Value.int IntKind.i64 (3 : Int))).setCell
 {block := w36.heap.size, off := (1 : Nat) } (Value.string s28)).setCell
 {block := w36.heap.size, off := (2 : Nat) } (Value.slice q29 n30 n31)).setCell
 {block := w36.heap.size, off := (3 : Nat) } (Value.int IntKind.i64 (0 : Int))).setCell
 {block := w36.heap.size, off := (4 : Nat) } (Value.slice none (0 : Nat) (0 : Nat))).setCell
 {block := w36.heap.size, off := (5 : Nat) } (Value.int IntKind.i64 (0 : Int))).setCell
 {block := w36.heap.size, off := (6 : Nat) } (Value.int IntKind.u8 (0 : Int))).heap.size] ∧
 bif !t45 then
 Known w44
 (KL22b w s28 q29 n30 n31 fs fq fn fc s32 q33 n34 n35 w36) →
 R (Ending.returned (Value.bool false)) w44
 else
 Known w44
 (KL22b w s28 q29 n30 n31 fs fq fn fc s32 q33 n34 n35 w36) →
 Rets Tryd.prog (95 : Nat)
 #[Value.pointer q23,
 Value.agg #[Value.bool true, Value.slice (some { block := w22.heap.size, off := (0 : Nat) }) (1 : Nat) (1 : Nat)]]
 w44 fun (v46 : Value) (w47 : World) =>
 ∃ (t48 : Bool),
 v46 = Value.bool t48 ∧
 Keeps w44 w47
 [w.heap.size, (w.alloc (Obj.cells #[Value.string fs, Value.slice fq fn fc] (107 : Nat))).heap.size, w36.heap.size,
 ((((((((w36.alloc
 (Obj.cells
 #[Value.int IntKind.i64 (0 : Int), Value.string { data := #[] },
 Value.slice none (0 : Nat) (0 : Nat), Value.int IntKind.i64 (0 : Int),
 Value.slice none (0 : Nat) (0 : Nat), Value.int IntKind.i64 (0 : Int),
 Value.int IntKind.u8 (0 : Int)]
 (124 : Nat))).setCell
 {block := w36.heap.size, off := (0 : Nat) } (Value.int IntKind.i64 (3 : Int))).setCell
 {block := w36.heap.size, off := (1 : Nat) } (Value.string s28)).setCell
 {block := w36.heap.size, off := (2 : Nat) } (Value.slice q29 n30 n31)).setCell
 {block := w36.heap.size, off := (3 : Nat) } (Value.int IntKind.i64 (0 : Int))).setCell
 {block := w36.heap.size, off := (4 : Nat) } (Value.slice none (0 : Nat) (0 : Nat))).setCell
 {block := w36.heap.size, off := (5 : Nat) } (Value.int IntKind.i64 (0 : Int))).setCell
 {block := w36.heap.size, off := (6 : Nat) } (Value.int IntKind.u8 (0 : Int))).heap.size] ∧
 bif !t48 then
 Known w47
 (KL22b w s28 q29 n30 n31 fs fq fn fc s32 q33 n34 n35 w36) →
 R (Ending.returned (Value.bool false)) w47
 else
 Known w47
 (KL22b w s28 q29 n30 n31 fs fq fn fc s32 q33 n34 n35 w36) →
 Rets Tryd.prog (95 : Nat) #[Value.pointer q23, Value.agg #[Value.bool true, Value.slice none (0 : Nat) (0 : Nat)]] w47
 fun (v49 : Value) (w50 : World) =>
 ∃ (t51 : Bool),
 v49 = Value.bool t51 ∧
 Keeps w47 w50
 [w.heap.size, (w.alloc (Obj.cells #[Value.string fs, Value.slice fq fn fc] (107 : Nat))).heap.size,
 w36.heap.size,
 ((((((((w36.alloc
 (Obj.cells
 #[Value.int IntKind.i64 (0 : Int), Value.string { data := #[] },
 Value.slice none (0 : Nat) (0 : Nat),
 Value.int IntKind.i64 (0 : Int),
 Value.slice none (0 : Nat) (0 : Nat),
 Value.int IntKind.i64 (0 : Int), Value.int IntKind.u8 (0 : Int)]
 (124 : Nat))).setCell
 {block := w36.heap.size, off := (0 : Nat) }
 (Value.int IntKind.i64 (3 : Int))).setCell
 {block := w36.heap.size, off := (1 : Nat) } (Value.string s28)).setCell
 {block := w36.heap.size, off := (2 : Nat) } (Value.slice q29 n30 n31)).setCell
 {block := w36.heap.size, off := (3 : Nat) } (Value.int IntKind.i64 (0 : Int))).setCell
 {block := w36.heap.size, off := (4 : Nat) } (Value.slice none (0 : Nat) (0 : Nat))).setCell
 {block := w36.heap.size, off := (5 : Nat) } (Value.int IntKind.i64 (0 : Int))).setCell
 {block := w36.heap.size, off := (6 : Nat) } (Value.int IntKind.u8 (0 : Int))).heap.size] ∧
 bif t51 then
 Known w50
 (KL22b w s28 q29 n30 n31 fs fq fn fc s32 q33 n34 n35 w36) →
 R (Ending.returned (Value.bool false)) w50
 else
 Known w50
 (KL22b w s28 q29 n30 n31 fs fq fn fc s32 q33 n34 n35 w36) →
 Rets Tryd.prog (94 : Nat)
 #[Value.pointer q23,
 Value.agg
 #[Value.int IntKind.i64 (3 : Int), Value.string s32, Value.slice q33 n34 n35,
 Value.int IntKind.i64 (0 : Int), Value.slice none (0 : Nat) (0 : Nat),
 Value.int IntKind.i64 (0 : Int), Value.int IntKind.u8 (0 : Int)],
 Value.agg
 #[Value.int IntKind.i64 (0 : Int), Value.slice none (0 : Nat) (0 : Nat),
 Value.int IntKind.i64 (0 : Int), Value.slice none (0 : Nat) (0 : Nat),
 Value.slice none (0 : Nat) (0 : Nat), Value.bool false, Value.bool false]]
 w50 fun (v52 : Value) (w53 : World) =>
 ∃ (t54 : Bool),
 v52 = Value.bool t54 ∧
 Keeps w50 w53
 [w.heap.size,
 (w.alloc (Obj.cells #[Value.string fs, Value.slice fq fn fc] (107 : Nat))).heap.size,
 w36.heap.size,
 ((((((((w36.alloc
 (Obj.cells
 #[Value.int IntKind.i64 (0 : Int),
 Value.string { data := #[] },
 Value.slice none (0 : Nat) (0 : Nat),
 Value.int IntKind.i64 (0 : Int),
 Value.slice none (0 : Nat) (0 : Nat),
 Value.int IntKind.i64 (0 : Int),
 Value.int IntKind.u8 (0 : Int)]
 (124 : Nat))).setCell
 {block := w36.heap.size, off := (0 : Nat) }
 (Value.int IntKind.i64 (3 : Int))).setCell
 {block := w36.heap.size, off := (1 : Nat) }
 (Value.string s28)).setCell
 {block := w36.heap.size, off := (2 : Nat) }
 (Value.slice q29 n30 n31)).setCell
 {block := w36.heap.size, off := (3 : Nat) }
 (Value.int IntKind.i64 (0 : Int))).setCell
 {block := w36.heap.size, off := (4 : Nat) }
 (Value.slice none (0 : Nat) (0 : Nat))).setCell
 {block := w36.heap.size, off := (5 : Nat) }
 (Value.int IntKind.i64 (0 : Int))).setCell
 {block := w36.heap.size, off := (6 : Nat) }
 (Value.int IntKind.u8 (0 : Int))).heap.size] ∧
 bif !t54 then
 Known w53
 (KL22b w s28 q29 n30 n31 fs fq fn fc s32 q33 n34 n35 w36) →
 R (Ending.returned (Value.bool false)) w53
 else
 Known w53
 (KL22b w s28 q29 n30 n31 fs fq fn fc s32 q33 n34 n35 w36) →
 Rets Tryd.prog (95 : Nat)
 #[Value.pointer q23, Value.agg #[Value.bool true, Value.slice q25 n26 n27]] w53
 fun (v55 : Value) (w56 : World) =>
 ∃ (t57 : Bool),
 v55 = Value.bool t57 ∧
 Keeps w53 w56
 [w.heap.size,
 (w.alloc
 (Obj.cells #[Value.string fs, Value.slice fq fn fc] (107 : Nat))).heap.size,
 w36.heap.size,
 ((((((((w36.alloc
 (Obj.cells
 #[Value.int IntKind.i64 (0 : Int),
 Value.string { data := #[] },
 Value.slice none (0 : Nat) (0 : Nat),
 Value.int IntKind.i64 (0 : Int),
 Value.slice none (0 : Nat) (0 : Nat),
 Value.int IntKind.i64 (0 : Int),
 Value.int IntKind.u8 (0 : Int)]
 (124 : Nat))).setCell
 {block := w36.heap.size, off := (0 : Nat) }
 (Value.int IntKind.i64 (3 : Int))).setCell
 {block := w36.heap.size, off := (1 : Nat) }
 (Value.string s28)).setCell
 {block := w36.heap.size, off := (2 : Nat) }
 (Value.slice q29 n30 n31)).setCell
 {block := w36.heap.size, off := (3 : Nat) }
 (Value.int IntKind.i64 (0 : Int))).setCell
 {block := w36.heap.size, off := (4 : Nat) }
 (Value.slice none (0 : Nat) (0 : Nat))).setCell
 {block := w36.heap.size, off := (5 : Nat) }
 (Value.int IntKind.i64 (0 : Int))).setCell
 {block := w36.heap.size, off := (6 : Nat) }
 (Value.int IntKind.u8 (0 : Int))).heap.size] ∧
 bif t57 then
 Known w56
 (KL22b w s28 q29 n30 n31 fs fq fn fc s32 q33 n34 n35 w36) →
 R (Ending.returned (Value.bool false)) w56
 else
 Known w56
 (KL22b w s28 q29 n30 n31 fs fq fn fc s32 q33 n34 n35 w36) →
 Rets Tryd.prog (94 : Nat)
 #[Value.pointer q23,
 Value.agg
 #[Value.int IntKind.i64 (12 : Int), Value.string { data := #[] },
 Value.slice none (0 : Nat) (0 : Nat), Value.int IntKind.i64 (0 : Int),
 Value.slice none (0 : Nat) (0 : Nat), Value.int IntKind.i64 (0 : Int),
 Value.int IntKind.u8 (0 : Int)],
 Value.agg
 #[Value.int IntKind.i64 (10 : Int), Value.slice none (0 : Nat) (0 : Nat),
 Value.int IntKind.i64 (0 : Int), Value.slice none (0 : Nat) (0 : Nat),
 Value.slice none (0 : Nat) (0 : Nat), Value.bool true, Value.bool false]]
 w56 fun (v58 : Value) (w59 : World) =>
 ∃ (t60 : Bool),
 v58 = Value.bool t60 ∧
 Keeps w56 w59
 [w.heap.size,
 (w.alloc
 (Obj.cells #[Value.string fs, Value.slice fq fn fc]
 (107 : Nat))).heap.size,
 w36.heap.size,
 ((((((((w36.alloc
 (Obj.cells
 #[Value.int IntKind.i64 (0 : Int),
 Value.string { data := #[] },
 Value.slice none (0 : Nat)
 (0 : Nat),
 Value.int IntKind.i64 (0 : Int),
 Value.slice none (0 : Nat)
 (0 : Nat),
 Value.int IntKind.i64 (0 : Int),
 Value.int IntKind.u8 (0 : Int)]
 (124 : Nat))).setCell
 {block := w36.heap.size, off := (0 : Nat) }
 (Value.int IntKind.i64
 (3 : Int))).setCell
 {block := w36.heap.size, off := (1 : Nat) }
 (Value.string s28)).setCell
 {block := w36.heap.size, off := (2 : Nat) }
 (Value.slice q29 n30 n31)).setCell
 {block := w36.heap.size, off := (3 : Nat) }
 (Value.int IntKind.i64 (0 : Int))).setCell
 {block := w36.heap.size, off := (4 : Nat) }
 (Value.slice none (0 : Nat) (0 : Nat))).setCell
 {block := w36.heap.size, off := (5 : Nat) }
 (Value.int IntKind.i64 (0 : Int))).setCell
 {block := w36.heap.size, off := (6 : Nat) }
 (Value.int IntKind.u8 (0 : Int))).heap.size] ∧
 bif t60 then
 Known w59
 (KL22b w s28 q29 n30 n31 fs fq fn fc s32 q33 n34 n35 w36) →
 R (Ending.returned (Value.bool false)) w59
 else
 Known w59
 (KL22b w s28 q29 n30 n31 fs fq fn fc s32 q33 n34 n35 w36) →
 Rets Tryd.prog (94 : Nat)
 #[Value.pointer q23,
 Value.agg
 #[Value.int IntKind.i64 (12 : Int),
 Value.string { data := #[] },
 Value.slice none (0 : Nat) (0 : Nat),
 Value.int IntKind.i64 (0 : Int),
 Value.slice none (0 : Nat) (0 : Nat),
 Value.int IntKind.i64 (0 : Int),
 Value.int IntKind.u8 (0 : Int)],
 Value.agg
 #[Value.int IntKind.i64 (10 : Int),
 Value.slice none (0 : Nat) (0 : Nat),
 Value.int IntKind.i64 (0 : Int),
 Value.slice none (0 : Nat) (0 : Nat),
 Value.slice none (0 : Nat) (0 : Nat), Value.bool true,
 Value.bool true]]
 w59 fun (v61 : Value) (w62 : World) =>
 ∃ (t63 : Bool),
 v61 = Value.bool t63 ∧
 Keeps w59 w62
 [w.heap.size,
 (w.alloc
 (Obj.cells #[Value.string fs, Value.slice fq fn fc]
 (107 : Nat))).heap.size,
 w36.heap.size,
 ((((((((w36.alloc
 (Obj.cells
 #[Value.int
 IntKind.i64
 (0 : Int),
 Value.string
 { data := #[] },
 Value.slice none
 (0 : Nat)
 (0 : Nat),
 Value.int
 IntKind.i64
 (0 : Int),
 Value.slice none
 (0 : Nat)
 (0 : Nat),
 Value.int
 IntKind.i64
 (0 : Int),
 Value.int IntKind.u8
 (0 : Int)]
 (124 : Nat))).setCell
 {block := w36.heap.size, off := (0 : Nat) }
 (Value.int IntKind.i64
 (3 : Int))).setCell
 {block := w36.heap.size, off := (1 : Nat) }
 (Value.string s28)).setCell
 {block := w36.heap.size, off := (2 : Nat) }
 (Value.slice q29 n30 n31)).setCell
 {block := w36.heap.size, off := (3 : Nat) }
 (Value.int IntKind.i64
 (0 : Int))).setCell
 {block := w36.heap.size, off := (4 : Nat) }
 (Value.slice none (0 : Nat)
 (0 : Nat))).setCell
 {block := w36.heap.size, off := (5 : Nat) }
 (Value.int IntKind.i64 (0 : Int))).setCell
 {block := w36.heap.size, off := (6 : Nat) }
 (Value.int IntKind.u8 (0 : Int))).heap.size] ∧
 bif !t63 then
 Known w62
 [(w.heap.size,
 [((0 : Nat), Value.string s28),
 ((1 : Nat), Value.slice q29 n30 n31)]),
 ((w.alloc
 (Obj.cells
 #[Value.string fs, Value.slice fq fn fc]
 (107 : Nat))).heap.size,
 [((0 : Nat), Value.string s32),
 ((1 : Nat), Value.slice q33 n34 n35)]),
 (w36.heap.size,
 [((0 : Nat), Value.int IntKind.i64 (3 : Int)),
 ((1 : Nat), Value.string s28),
 ((2 : Nat), Value.slice q29 n30 n31),
 ((3 : Nat), Value.int IntKind.i64 (0 : Int)),
 ((4 : Nat), Value.slice none (0 : Nat) (0 : Nat)),
 ((5 : Nat), Value.int IntKind.i64 (0 : Int)),
 ((6 : Nat), Value.int IntKind.u8 (0 : Int))]),
 (((((((((w36.alloc
 (Obj.cells
 #[Value.int
 IntKind.i64
 (0 : Int),
 Value.string
 { data := #[] },
 Value.slice
 none
 (0 : Nat)
 (0 : Nat),
 Value.int
 IntKind.i64
 (0 : Int),
 Value.slice
 none
 (0 : Nat)
 (0 : Nat),
 Value.int
 IntKind.i64
 (0 : Int),
 Value.int
 IntKind.u8
 (0 : Int)]
 (124 :
 Nat))).setCell
 { block := w36.heap.size, off := (0 : Nat) }
 (Value.int IntKind.i64
 (3 : Int))).setCell
 {block := w36.heap.size, off := (1 : Nat) }
 (Value.string
 s28)).setCell
 {block := w36.heap.size, off := (2 : Nat) }
 (Value.slice q29 n30
 n31)).setCell
 {block := w36.heap.size, off := (3 : Nat) }
 (Value.int IntKind.i64
 (0 : Int))).setCell
 {block := w36.heap.size, off := (4 : Nat) }
 (Value.slice none (0 : Nat)
 (0 : Nat))).setCell
 {block := w36.heap.size, off := (5 : Nat) }
 (Value.int IntKind.i64 (0 : Int))).setCell
 {block := w36.heap.size, off := (6 : Nat) }
 (Value.int IntKind.u8 (0 : Int))).heap.size,
 [((0 : Nat), Value.int IntKind.i64 (3 : Int)),
 ((1 : Nat), Value.string s32),
 ((2 : Nat), Value.slice q33 n34 n35),
 ((3 : Nat), Value.int IntKind.i64 (0 : Int)),
 ((4 : Nat), Value.slice none (0 : Nat) (0 : Nat)),
 ((5 : Nat), Value.int IntKind.i64 (0 : Int)),
 ((6 : Nat), Value.int IntKind.u8 (0 : Int))])] →
 R (Ending.returned (Value.bool false)) w62
 else
 Known w62
 [(w.heap.size,
 [((0 : Nat), Value.string s28),
 ((1 : Nat), Value.slice q29 n30 n31)]),
 ((w.alloc
 (Obj.cells
 #[Value.string fs, Value.slice fq fn fc]
 (107 : Nat))).heap.size,
 [((0 : Nat), Value.string s32),
 ((1 : Nat), Value.slice q33 n34 n35)]),
 (w36.heap.size,
 [((0 : Nat), Value.int IntKind.i64 (3 : Int)),
 ((1 : Nat), Value.string s28),
 ((2 : Nat), Value.slice q29 n30 n31),
 ((3 : Nat), Value.int IntKind.i64 (0 : Int)),
 ((4 : Nat), Value.slice none (0 : Nat) (0 : Nat)),
 ((5 : Nat), Value.int IntKind.i64 (0 : Int)),
 ((6 : Nat), Value.int IntKind.u8 (0 : Int))]),
 (((((((((w36.alloc
 (Obj.cells
 #[Value.int
 IntKind.i64
 (0 : Int),
 Value.string
 { data := #[] },
 Value.slice
 none
 (0 : Nat)
 (0 : Nat),
 Value.int
 IntKind.i64
 (0 : Int),
 Value.slice
 none
 (0 : Nat)
 (0 : Nat),
 Value.int
 IntKind.i64
 (0 : Int),
 Value.int
 IntKind.u8
 (0 : Int)]
 (124 :
 Nat))).setCell
 { block := w36.heap.size, off := (0 : Nat) }
 (Value.int IntKind.i64
 (3 : Int))).setCell
 {block := w36.heap.size, off := (1 : Nat) }
 (Value.string
 s28)).setCell
 {block := w36.heap.size, off := (2 : Nat) }
 (Value.slice q29 n30
 n31)).setCell
 {block := w36.heap.size, off := (3 : Nat) }
 (Value.int IntKind.i64
 (0 : Int))).setCell
 {block := w36.heap.size, off := (4 : Nat) }
 (Value.slice none (0 : Nat)
 (0 : Nat))).setCell
 {block := w36.heap.size, off := (5 : Nat) }
 (Value.int IntKind.i64 (0 : Int))).setCell
 {block := w36.heap.size, off := (6 : Nat) }
 (Value.int IntKind.u8 (0 : Int))).heap.size,
 [((0 : Nat), Value.int IntKind.i64 (3 : Int)),
 ((1 : Nat), Value.string s32),
 ((2 : Nat), Value.slice q33 n34 n35),
 ((3 : Nat), Value.int IntKind.i64 (0 : Int)),
 ((4 : Nat), Value.slice none (0 : Nat) (0 : Nat)),
 ((5 : Nat), Value.int IntKind.i64 (0 : Int)),
 ((6 : Nat), Value.int IntKind.u8 (0 : Int))])] →
 Rets Tryd.prog (94 : Nat)
 #[Value.pointer q23,
 Value.agg
 #[Value.int IntKind.i64 (3 : Int), Value.string s28,
 Value.slice q29 n30 n31,
 Value.int IntKind.i64 (0 : Int),
 Value.slice none (0 : Nat) (0 : Nat),
 Value.int IntKind.i64 (0 : Int),
 Value.int IntKind.u8 (0 : Int)],
 Value.agg
 #[Value.int IntKind.i64 (11 : Int),
 Value.slice none (0 : Nat) (0 : Nat),
 Value.int IntKind.i64 (0 : Int),
 Value.slice none (0 : Nat) (0 : Nat),
 Value.slice none (0 : Nat) (0 : Nat),
 Value.bool false, Value.bool true]]
 w62 fun (v64 : Value) (w65 : World) =>
 ∃ (t66 : Bool),
 v64 = Value.bool t66 ∧
 Keeps w62 w65
 [w.heap.size,
 (w.alloc
 (Obj.cells
 #[Value.string fs,
 Value.slice fq fn fc]
 (107 : Nat))).heap.size,
 w36.heap.size,
 ((((((((w36.alloc
 (Obj.cells
 #[Value.int
 IntKind.i64
 (0 :
 Int),
 Value.string
 { data := #[] },
 Value.slice
 none
 (0 :
 Nat)
 (0 :
 Nat),
 Value.int
 IntKind.i64
 (0 :
 Int),
 Value.slice
 none
 (0 :
 Nat)
 (0 :
 Nat),
 Value.int
 IntKind.i64
 (0 :
 Int),
 Value.int
 IntKind.u8
 (0 :
 Int)]
 (124 :
 Nat))).setCell
 { block := w36.heap.size, off := (0 : Nat) }
 (Value.int
 IntKind.i64
 (3 :
 Int))).setCell
 { block := w36.heap.size, off := (1 : Nat) }
 (Value.string
 s28)).setCell
 { block := w36.heap.size, off := (2 : Nat) }
 (Value.slice q29 n30
 n31)).setCell
 {block := w36.heap.size, off := (3 : Nat) }
 (Value.int IntKind.i64
 (0 : Int))).setCell
 {block := w36.heap.size, off := (4 : Nat) }
 (Value.slice none (0 : Nat)
 (0 : Nat))).setCell
 {block := w36.heap.size, off := (5 : Nat) }
 (Value.int IntKind.i64
 (0 : Int))).setCell
 {block := w36.heap.size, off := (6 : Nat) }
 (Value.int IntKind.u8
 (0 : Int))).heap.size] ∧
 bif !t66 then
 Known w65
 [(w.heap.size,
 [((0 : Nat), Value.string s28),
 ((1 : Nat),
 Value.slice q29 n30 n31)]),
 ((w.alloc
 (Obj.cells
 #[Value.string fs,
 Value.slice fq fn fc]
 (107 : Nat))).heap.size,
 [((0 : Nat), Value.string s32),
 ((1 : Nat),
 Value.slice q33 n34 n35)]),
 (w36.heap.size,
 [((0 : Nat),
 Value.int IntKind.i64 (3 : Int)),
 ((1 : Nat), Value.string s28),
 ((2 : Nat), Value.slice q29 n30 n31),
 ((3 : Nat),
 Value.int IntKind.i64 (0 : Int)),
 ((4 : Nat),
 Value.slice none (0 : Nat)
 (0 : Nat)),
 ((5 : Nat),
 Value.int IntKind.i64 (0 : Int)),
 ((6 : Nat),
 Value.int IntKind.u8 (0 : Int))]),
 (((((((((w36.alloc
 (Obj.cells
 #[Value.int
 IntKind.i64
 (0 :
 Int),
 Value.string
 { data := #[] },
 Value.slice
 none
 (0 :
 Nat)
 (0 :
 Nat),
 Value.int
 IntKind.i64
 (0 :
 Int),
 Value.slice
 none
 (0 :
 Nat)
 (0 :
 Nat),
 Value.int
 IntKind.i64
 (0 :
 Int),
 Value.int
 IntKind.u8
 (0 :
 Int)]
 (124 :
 Nat))).setCell
 { block := w36.heap.size, off := (0 : Nat) }
 (Value.int
 IntKind.i64
 (3 :
 Int))).setCell
 { block := w36.heap.size, off := (1 : Nat) }
 (Value.string
 s28)).setCell
 { block := w36.heap.size, off := (2 : Nat) }
 (Value.slice q29
 n30
 n31)).setCell
 { block := w36.heap.size, off := (3 : Nat) }
 (Value.int IntKind.i64
 (0 : Int))).setCell
 {block := w36.heap.size, off := (4 : Nat) }
 (Value.slice none
 (0 : Nat)
 (0 : Nat))).setCell
 {block := w36.heap.size, off := (5 : Nat) }
 (Value.int IntKind.i64
 (0 : Int))).setCell
 {block := w36.heap.size, off := (6 : Nat) }
 (Value.int IntKind.u8
 (0 : Int))).heap.size,
 [((0 : Nat),
 Value.int IntKind.i64 (3 : Int)),
 ((1 : Nat), Value.string s32),
 ((2 : Nat), Value.slice q33 n34 n35),
 ((3 : Nat),
 Value.int IntKind.i64 (0 : Int)),
 ((4 : Nat),
 Value.slice none (0 : Nat)
 (0 : Nat)),
 ((5 : Nat),
 Value.int IntKind.i64 (0 : Int)),
 ((6 : Nat),
 Value.int IntKind.u8 (0 : Int))])] →
 R (Ending.returned (Value.bool false)) w65
 else
 Known w65
 [(w.heap.size,
 [((0 : Nat), Value.string s28),
 ((1 : Nat),
 Value.slice q29 n30 n31)]),
 ((w.alloc
 (Obj.cells
 #[Value.string fs,
 Value.slice fq fn fc]
 (107 : Nat))).heap.size,
 [((0 : Nat), Value.string s32),
 ((1 : Nat),
 Value.slice q33 n34 n35)]),
 (w36.heap.size,
 [((0 : Nat),
 Value.int IntKind.i64 (3 : Int)),
 ((1 : Nat), Value.string s28),
 ((2 : Nat), Value.slice q29 n30 n31),
 ((3 : Nat),
 Value.int IntKind.i64 (0 : Int)),
 ((4 : Nat),
 Value.slice none (0 : Nat)
 (0 : Nat)),
 ((5 : Nat),
 Value.int IntKind.i64 (0 : Int)),
 ((6 : Nat),
 Value.int IntKind.u8 (0 : Int))]),
 (((((((((w36.alloc
 (Obj.cells
 #[Value.int
 IntKind.i64
 (0 :
 Int),
 Value.string
 { data := #[] },
 Value.slice
 none
 (0 :
 Nat)
 (0 :
 Nat),
 Value.int
 IntKind.i64
 (0 :
 Int),
 Value.slice
 none
 (0 :
 Nat)
 (0 :
 Nat),
 Value.int
 IntKind.i64
 (0 :
 Int),
 Value.int
 IntKind.u8
 (0 :
 Int)]
 (124 :
 Nat))).setCell
 { block := w36.heap.size, off := (0 : Nat) }
 (Value.int
 IntKind.i64
 (3 :
 Int))).setCell
 { block := w36.heap.size, off := (1 : Nat) }
 (Value.string
 s28)).setCell
 { block := w36.heap.size, off := (2 : Nat) }
 (Value.slice q29
 n30
 n31)).setCell
 { block := w36.heap.size, off := (3 : Nat) }
 (Value.int IntKind.i64
 (0 : Int))).setCell
 {block := w36.heap.size, off := (4 : Nat) }
 (Value.slice none
 (0 : Nat)
 (0 : Nat))).setCell
 {block := w36.heap.size, off := (5 : Nat) }
 (Value.int IntKind.i64
 (0 : Int))).setCell
 {block := w36.heap.size, off := (6 : Nat) }
 (Value.int IntKind.u8
 (0 : Int))).heap.size,
 [((0 : Nat),
 Value.int IntKind.i64 (3 : Int)),
 ((1 : Nat), Value.string s32),
 ((2 : Nat), Value.slice q33 n34 n35),
 ((3 : Nat),
 Value.int IntKind.i64 (0 : Int)),
 ((4 : Nat),
 Value.slice none (0 : Nat)
 (0 : Nat)),
 ((5 : Nat),
 Value.int IntKind.i64 (0 : Int)),
 ((6 : Nat),
 Value.int IntKind.u8 (0 : Int))])] →
 Rets Tryd.prog (95 : Nat)
 #[Value.pointer q23,
 Value.agg
 #[Value.bool true,
 Value.slice q25 n26 n27]]
 w65 fun (v67 : Value) (w68 : World) =>
 ∃ (t69 : Bool),
 v67 = Value.bool t69 ∧
 Keeps w65 w68
 [w.heap.size,
 (w.alloc
 (Obj.cells
 #[Value.string fs,
 Value.slice fq fn fc]
 (107 : Nat))).heap.size,
 w36.heap.size,
 ((((((((w36.alloc
 (Obj.cells
 #[Value.int
 IntKind.i64
 (0 :
 Int),
 Value.string
 { data := #[] },
 Value.slice
 none
 (0 :
 Nat)
 (0 :
 Nat),
 Value.int
 IntKind.i64
 (0 :
 Int),
 Value.slice
 none
 (0 :
 Nat)
 (0 :
 Nat),
 Value.int
 IntKind.i64
 (0 :
 Int),
 Value.int
 IntKind.u8
 (0 :
 Int)]
 (124 :
 Nat))).setCell
 { block := w36.heap.size, off := (0 : Nat) }
 (Value.int
 IntKind.i64
 (3 :
 Int))).setCell
 { block := w36.heap.size, off := (1 : Nat) }
 (Value.string
 s28)).setCell
 { block := w36.heap.size, off := (2 : Nat) }
 (Value.slice
 q29 n30
 n31)).setCell
 { block := w36.heap.size, off := (3 : Nat) }
 (Value.int
 IntKind.i64
 (0 :
 Int))).setCell
 { block := w36.heap.size, off := (4 : Nat) }
 (Value.slice none
 (0 : Nat)
 (0 :
 Nat))).setCell
 { block := w36.heap.size, off := (5 : Nat) }
 (Value.int IntKind.i64
 (0 : Int))).setCell
 {block := w36.heap.size, off := (6 : Nat) }
 (Value.int IntKind.u8
 (0 : Int))).heap.size] ∧
 bif !t69 then
 Known w68
 (KL22a w s28 q29 n30 n31 fs fq fn fc s32 q33 n34 n35 w36) →
 R
 (Ending.returned
 (Value.bool false))
 w68
 else
 Known w68
 (KL22a w s28 q29 n30 n31 fs fq fn fc s32 q33 n34 n35 w36) →
 Rets Tryd.prog (95 : Nat)
 #[Value.pointer q23,
 Value.agg
 #[Value.bool true,
 Value.slice
 (some
 { block := w22.heap.size, off := (0 : Nat) })
 (1 : Nat) (1 : Nat)]]
 w68
 fun (v70 : Value)
 (w71 : World) =>
 ∃ (t72 : Bool),
 v70 = Value.bool t72 ∧
 Keeps w68 w71
 [w.heap.size,
 (w.alloc
 (Obj.cells
 #[Value.string
 fs,
 Value.slice
 fq fn fc]
 (107 :
 Nat))).heap.size,
 w36.heap.size,
 ((((((((w36.alloc
 (Obj.cells
 #[Value.int
 IntKind.i64
 (0 :
 Int),
 Value.string
 { data := #[] },
 Value.slice
 none
 (0 :
 Nat)
 (0 :
 Nat),
 Value.int
 IntKind.i64
 (0 :
 Int),
 Value.slice
 none
 (0 :
 Nat)
 (0 :
 Nat),
 Value.int
 IntKind.i64
 (0 :
 Int),
 Value.int
 IntKind.u8
 (0 :
 Int)]
 (124 :
 Nat))).setCell
 { block := w36.heap.size, off := (0 : Nat) }
 (Value.int
 IntKind.i64
 (3 :
 Int))).setCell
 { block := w36.heap.size, off := (1 : Nat) }
 (Value.string
 s28)).setCell
 { block := w36.heap.size, off := (2 : Nat) }
 (Value.slice
 q29
 n30
 n31)).setCell
 { block := w36.heap.size, off := (3 : Nat) }
 (Value.int
 IntKind.i64
 (0 :
 Int))).setCell
 { block := w36.heap.size, off := (4 : Nat) }
 (Value.slice
 none
 (0 :
 Nat)
 (0 :
 Nat))).setCell
 { block := w36.heap.size, off := (5 : Nat) }
 (Value.int
 IntKind.i64
 (0 :
 Int))).setCell
 { block := w36.heap.size, off := (6 : Nat) }
 (Value.int
 IntKind.u8
 (0 :
 Int))).heap.size] ∧
 bif !t72 then
 Known w71
 (KL22a w s28 q29 n30 n31 fs fq fn fc s32 q33 n34 n35 w36) →
 R
 (Ending.returned
 (Value.bool
 false))
 w71
 else
 Known w71
 (KL22a w s28 q29 n30 n31 fs fq fn fc s32 q33 n34 n35 w36) →
 Rets Tryd.prog
 (95 : Nat)
 #[Value.pointer q23,
 Value.agg
 #[Value.bool
 true,
 Value.slice
 none
 (0 : Nat)
 (0 : Nat)]]
 w71
 fun (v73 : Value)
 (w74 : World) =>
 ∃ (t75 : Bool),
 v73 =
 Value.bool
 t75 ∧
 Keeps w71 w74
 [w.heap.size,
 (w.alloc
 (Obj.cells
 #[Value.string
 fs,
 Value.slice
 fq
 fn
 fc]
 (107 :
 Nat))).heap.size,
 w36.heap.size,
 ((((((((w36.alloc
 (Obj.cells
 #[Value.int
 IntKind.i64
 (0 :
 Int),
 Value.string
 { data := #[] },
 Value.slice
 none
 (0 :
 Nat)
 (0 :
 Nat),
 Value.int
 IntKind.i64
 (0 :
 Int),
 Value.slice
 none
 (0 :
 Nat)
 (0 :
 Nat),
 Value.int
 IntKind.i64
 (0 :
 Int),
 Value.int
 IntKind.u8
 (0 :
 Int)]
 (124 :
 Nat))).setCell
 { block := w36.heap.size, off := (0 : Nat) }
 (Value.int
 IntKind.i64
 (3 :
 Int))).setCell
 { block := w36.heap.size, off := (1 : Nat) }
 (Value.string
 s28)).setCell
 { block := w36.heap.size, off := (2 : Nat) }
 (Value.slice
 q29
 n30
 n31)).setCell
 { block := w36.heap.size, off := (3 : Nat) }
 (Value.int
 IntKind.i64
 (0 :
 Int))).setCell
 { block := w36.heap.size, off := (4 : Nat) }
 (Value.slice
 none
 (0 :
 Nat)
 (0 :
 Nat))).setCell
 { block := w36.heap.size, off := (5 : Nat) }
 (Value.int
 IntKind.i64
 (0 :
 Int))).setCell
 { block := w36.heap.size, off := (6 : Nat) }
 (Value.int
 IntKind.u8
 (0 :
 Int))).heap.size] ∧
 bif t75 then
 Known w74
 (KL22a w s28 q29 n30 n31 fs fq fn fc s32 q33 n34 n35 w36) →
 R
 (Ending.returned
 (Value.bool
 false))
 w74
 else
 Known w74
 (KL22a w s28 q29 n30 n31 fs fq fn fc s32 q33 n34 n35 w36) →
 Rets
 Tryd.prog
 (95 :
 Nat)
 #[Value.pointer
 q23,
 Value.agg
 #[Value.bool
 false,
 Value.slice
 none
 (0 :
 Nat)
 (0 :
 Nat)]]
 w74
 fun
 (v76 :
 Value)
 (w77 :
 World) =>
 ∃ (t78 :
 Bool),
 v76 =
 Value.bool
 t78 ∧
 Keeps
 w74
 w77
 [w.heap.size,
 (w.alloc
 (Obj.cells
 #[Value.string
 fs,
 Value.slice
 fq
 fn
 fc]
 (107 :
 Nat))).heap.size,
 w36.heap.size,
 ((((((((w36.alloc
 (Obj.cells
 #[Value.int
 IntKind.i64
 (0 :
 Int),
 Value.string
 { data := #[] },
 Value.slice
 none
 (0 :
 Nat)
 (0 :
 Nat),
 Value.int
 IntKind.i64
 (0 :
 Int),
 Value.slice
 none
 (0 :
 Nat)
 (0 :
 Nat),
 Value.int
 IntKind.i64
 (0 :
 Int),
 Value.int
 IntKind.u8
 (0 :
 Int)]
 (124 :
 Nat))).setCell
 { block := w36.heap.size, off := (0 : Nat) }
 (Value.int
 IntKind.i64
 (3 :
 Int))).setCell
 { block := w36.heap.size, off := (1 : Nat) }
 (Value.string
 s28)).setCell
 { block := w36.heap.size, off := (2 : Nat) }
 (Value.slice
 q29
 n30
 n31)).setCell
 { block := w36.heap.size, off := (3 : Nat) }
 (Value.int
 IntKind.i64
 (0 :
 Int))).setCell
 { block := w36.heap.size, off := (4 : Nat) }
 (Value.slice
 none
 (0 :
 Nat)
 (0 :
 Nat))).setCell
 { block := w36.heap.size, off := (5 : Nat) }
 (Value.int
 IntKind.i64
 (0 :
 Int))).setCell
 { block := w36.heap.size, off := (6 : Nat) }
 (Value.int
 IntKind.u8
 (0 :
 Int))).heap.size] ∧
 bif
 t78 then
 Known
 w77
 (KL22a w s28 q29 n30 n31 fs fq fn fc s32 q33 n34 n35 w36) →
 R
 (Ending.returned
 (Value.bool
 false))
 w77
 else
 Known
 w77
 (KL22a w s28 q29 n30 n31 fs fq fn fc s32 q33 n34 n35 w36) →
 Rets
 Tryd.prog
 (94 :
 Nat)
 #[Value.pointer
 q23,
 Value.agg
 #[Value.int
 IntKind.i64
 (18 :
 Int),
 Value.string
 { data := #[] },
 Value.slice
 none
 (0 :
 Nat)
 (0 :
 Nat),
 Value.int
 IntKind.i64
 (0 :
 Int),
 Value.slice
 none
 (0 :
 Nat)
 (0 :
 Nat),
 Value.int
 IntKind.i64
 (0 :
 Int),
 Value.int
 IntKind.u8
 (0 :
 Int)],
 Value.agg
 #[Value.int
 IntKind.i64
 (0 :
 Int),
 Value.slice
 none
 (0 :
 Nat)
 (0 :
 Nat),
 Value.int
 IntKind.i64
 (0 :
 Int),
 Value.slice
 none
 (0 :
 Nat)
 (0 :
 Nat),
 Value.slice
 none
 (0 :
 Nat)
 (0 :
 Nat),
 Value.bool
 false,
 Value.bool
 false]]
 w77
 fun
 (v79 :
 Value)
 (w80 :
 World) =>
 ∃
 (t81
 :
 Bool),
 v79 =
 Value.bool
 t81 ∧
 Keeps
 w77
 w80
 [w.heap.size,
 (w.alloc
 (Obj.cells
 #[Value.string
 fs,
 Value.slice
 fq
 fn
 fc]
 (107 :
 Nat))).heap.size,
 w36.heap.size,
 ((((((((w36.alloc
 (Obj.cells
 #[Value.int
 IntKind.i64
 (0 :
 Int),
 Value.string
 { data := #[] },
 Value.slice
 none
 (0 :
 Nat)
 (0 :
 Nat),
 Value.int
 IntKind.i64
 (0 :
 Int),
 Value.slice
 none
 (0 :
 Nat)
 (0 :
 Nat),
 Value.int
 IntKind.i64
 (0 :
 Int),
 Value.int
 IntKind.u8
 (0 :
 Int)]
 (124 :
 Nat))).setCell
 { block := w36.heap.size, off := (0 : Nat) }
 (Value.int
 IntKind.i64
 (3 :
 Int))).setCell
 { block := w36.heap.size, off := (1 : Nat) }
 (Value.string
 s28)).setCell
 { block := w36.heap.size, off := (2 : Nat) }
 (Value.slice
 q29
 n30
 n31)).setCell
 { block := w36.heap.size, off := (3 : Nat) }
 (Value.int
 IntKind.i64
 (0 :
 Int))).setCell
 { block := w36.heap.size, off := (4 : Nat) }
 (Value.slice
 none
 (0 :
 Nat)
 (0 :
 Nat))).setCell
 { block := w36.heap.size, off := (5 : Nat) }
 (Value.int
 IntKind.i64
 (0 :
 Int))).setCell
 { block := w36.heap.size, off := (6 : Nat) }
 (Value.int
 IntKind.u8
 (0 :
 Int))).heap.size] ∧
 bif
 !t81 then
 Known
 w80
 (KL22a w s28 q29 n30 n31 fs fq fn fc s32 q33 n34 n35 w36) →
 R
 (Ending.returned
 (Value.bool
 false))
 w80
 else
 Known
 w80
 (KL22a w s28 q29 n30 n31 fs fq fn fc s32 q33 n34 n35 w36) →
 Rets
 Tryd.prog
 (94 :
 Nat)
 #[Value.pointer
 q23,
 Value.agg
 #[Value.int
 IntKind.i64
 (2 :
 Int),
 Value.string
 { data := #[] },
 Value.slice
 none
 (0 :
 Nat)
 (0 :
 Nat),
 Value.int
 IntKind.i64
 (0 :
 Int),
 Value.slice
 none
 (0 :
 Nat)
 (0 :
 Nat),
 Value.int
 IntKind.i64
 (0 :
 Int),
 Value.int
 IntKind.u8
 (0 :
 Int)],
 Value.agg
 #[Value.int
 IntKind.i64
 (0 :
 Int),
 Value.slice
 none
 (0 :
 Nat)
 (0 :
 Nat),
 Value.int
 IntKind.i64
 (0 :
 Int),
 Value.slice
 none
 (0 :
 Nat)
 (0 :
 Nat),
 Value.slice
 none
 (0 :
 Nat)
 (0 :
 Nat),
 Value.bool
 false,
 Value.bool
 false]]
 w80
 fun
 (v82 :
 Value)
 (w83 :
 World) =>
 ∃
 (t84
 :
 Bool),
 v82 =
 Value.bool
 t84 ∧
 Keeps
 w80
 w83
 [w.heap.size,
 (w.alloc
 (Obj.cells
 #[Value.string
 fs,
 Value.slice
 fq
 fn
 fc]
 (107 :
 Nat))).heap.size,
 w36.heap.size,
 ((((((((w36.alloc
 (Obj.cells
 #[Value.int
 IntKind.i64
 (0 :
 Int),
 Value.string
 { data := #[] },
 Value.slice
 none
 (0 :
 Nat)
 (0 :
 Nat),
 Value.int
 IntKind.i64
 (0 :
 Int),
 Value.slice
 none
 (0 :
 Nat)
 (0 :
 Nat),
 Value.int
 IntKind.i64
 (0 :
 Int),
 Value.int
 IntKind.u8
 (0 :
 Int)]
 (124 :
 Nat))).setCell
 { block := w36.heap.size, off := (0 : Nat) }
 (Value.int
 IntKind.i64
 (3 :
 Int))).setCell
 { block := w36.heap.size, off := (1 : Nat) }
 (Value.string
 s28)).setCell
 { block := w36.heap.size, off := (2 : Nat) }
 (Value.slice
 q29
 n30
 n31)).setCell
 { block := w36.heap.size, off := (3 : Nat) }
 (Value.int
 IntKind.i64
 (0 :
 Int))).setCell
 { block := w36.heap.size, off := (4 : Nat) }
 (Value.slice
 none
 (0 :
 Nat)
 (0 :
 Nat))).setCell
 { block := w36.heap.size, off := (5 : Nat) }
 (Value.int
 IntKind.i64
 (0 :
 Int))).setCell
 { block := w36.heap.size, off := (6 : Nat) }
 (Value.int
 IntKind.u8
 (0 :
 Int))).heap.size] ∧
 bif
 t84 then
 Known
 w83
 (KL22a w s28 q29 n30 n31 fs fq fn fc s32 q33 n34 n35 w36) →
 R
 (Ending.returned
 (Value.bool
 false))
 w83
 else
 Known
 w83
 (KL22a w s28 q29 n30 n31 fs fq fn fc s32 q33 n34 n35 w36) →
 Rets
 Tryd.prog
 (94 :
 Nat)
 #[Value.pointer
 q23,
 Value.agg
 #[Value.int
 IntKind.i64
 (2 :
 Int),
 Value.string
 { data := #[] },
 Value.slice
 none
 (0 :
 Nat)
 (0 :
 Nat),
 Value.int
 IntKind.i64
 (0 :
 Int),
 Value.slice
 none
 (0 :
 Nat)
 (0 :
 Nat),
 Value.int
 IntKind.i64
 (0 :
 Int),
 Value.int
 IntKind.u8
 (0 :
 Int)],
 Value.agg
 #[Value.int
 IntKind.i64
 (0 :
 Int),
 Value.slice
 none
 (0 :
 Nat)
 (0 :
 Nat),
 Value.int
 IntKind.i64
 (0 :
 Int),
 Value.slice
 none
 (0 :
 Nat)
 (0 :
 Nat),
 Value.slice
 (some
 { block := w22.heap.size, off := (0 : Nat) })
 (1 :
 Nat)
 (1 :
 Nat),
 Value.bool
 false,
 Value.bool
 false]]
 w83
 fun
 (v85 :
 Value)
 (w86 :
 World) =>
 ∃
 (t87
 :
 Bool),
 v85 =
 Value.bool
 t87 ∧
 Keeps
 w83
 w86
 [w.heap.size,
 (w.alloc
 (Obj.cells
 #[Value.string
 fs,
 Value.slice
 fq
 fn
 fc]
 (107 :
 Nat))).heap.size,
 w36.heap.size,
 ((((((((w36.alloc
 (Obj.cells
 #[Value.int
 IntKind.i64
 (0 :
 Int),
 Value.string
 { data := #[] },
 Value.slice
 none
 (0 :
 Nat)
 (0 :
 Nat),
 Value.int
 IntKind.i64
 (0 :
 Int),
 Value.slice
 none
 (0 :
 Nat)
 (0 :
 Nat),
 Value.int
 IntKind.i64
 (0 :
 Int),
 Value.int
 IntKind.u8
 (0 :
 Int)]
 (124 :
 Nat))).setCell
 { block := w36.heap.size, off := (0 : Nat) }
 (Value.int
 IntKind.i64
 (3 :
 Int))).setCell
 { block := w36.heap.size, off := (1 : Nat) }
 (Value.string
 s28)).setCell
 { block := w36.heap.size, off := (2 : Nat) }
 (Value.slice
 q29
 n30
 n31)).setCell
 { block := w36.heap.size, off := (3 : Nat) }
 (Value.int
 IntKind.i64
 (0 :
 Int))).setCell
 { block := w36.heap.size, off := (4 : Nat) }
 (Value.slice
 none
 (0 :
 Nat)
 (0 :
 Nat))).setCell
 { block := w36.heap.size, off := (5 : Nat) }
 (Value.int
 IntKind.i64
 (0 :
 Int))).setCell
 { block := w36.heap.size, off := (6 : Nat) }
 (Value.int
 IntKind.u8
 (0 :
 Int))).heap.size] ∧
 bif
 !t87 then
 Known
 w86
 (KL22a w s28 q29 n30 n31 fs fq fn fc s32 q33 n34 n35 w36) →
 R
 (Ending.returned
 (Value.bool
 false))
 w86
 else
 Known
 w86
 (KL22a w s28 q29 n30 n31 fs fq fn fc s32 q33 n34 n35 w36) →
 Rets
 Tryd.prog
 (95 :
 Nat)
 #[Value.pointer
 q23,
 Value.agg
 #[Value.bool
 true,
 Value.slice
 (some
 { block := w22.heap.size, off := (0 : Nat) })
 (1 :
 Nat)
 (1 :
 Nat)]]
 w86
 fun
 (v88 :
 Value)
 (w89 :
 World) =>
 ∃
 (t90
 :
 Bool),
 v88 =
 Value.bool
 t90 ∧
 Keeps
 w86
 w89
 [w.heap.size,
 (w.alloc
 (Obj.cells
 #[Value.string
 fs,
 Value.slice
 fq
 fn
 fc]
 (107 :
 Nat))).heap.size,
 w36.heap.size,
 ((((((((w36.alloc
 (Obj.cells
 #[Value.int
 IntKind.i64
 (0 :
 Int),
 Value.string
 { data := #[] },
 Value.slice
 none
 (0 :
 Nat)
 (0 :
 Nat),
 Value.int
 IntKind.i64
 (0 :
 Int),
 Value.slice
 none
 (0 :
 Nat)
 (0 :
 Nat),
 Value.int
 IntKind.i64
 (0 :
 Int),
 Value.int
 IntKind.u8
 (0 :
 Int)]
 (124 :
 Nat))).setCell
 { block := w36.heap.size, off := (0 : Nat) }
 (Value.int
 IntKind.i64
 (3 :
 Int))).setCell
 { block := w36.heap.size, off := (1 : Nat) }
 (Value.string
 s28)).setCell
 { block := w36.heap.size, off := (2 : Nat) }
 (Value.slice
 q29
 n30
 n31)).setCell
 { block := w36.heap.size, off := (3 : Nat) }
 (Value.int
 IntKind.i64
 (0 :
 Int))).setCell
 { block := w36.heap.size, off := (4 : Nat) }
 (Value.slice
 none
 (0 :
 Nat)
 (0 :
 Nat))).setCell
 { block := w36.heap.size, off := (5 : Nat) }
 (Value.int
 IntKind.i64
 (0 :
 Int))).setCell
 { block := w36.heap.size, off := (6 : Nat) }
 (Value.int
 IntKind.u8
 (0 :
 Int))).heap.size] ∧
 bif
 t90 then
 Known
 w89
 (KL22a w s28 q29 n30 n31 fs fq fn fc s32 q33 n34 n35 w36) →
 Rets
 Tryd.prog
 (95 :
 Nat)
 #[Value.pointer
 q23,
 Value.agg
 #[Value.bool
 true,
 Value.slice
 q25
 n26
 n27]]
 w89
 fun
 (v91 :
 Value)
 (w92 :
 World) =>
 ∃
 (t93
 :
 Bool),
 v91 =
 Value.bool
 t93 ∧
 Keeps
 w89
 w92
 [w.heap.size,
 (w.alloc
 (Obj.cells
 #[Value.string
 fs,
 Value.slice
 fq
 fn
 fc]
 (107 :
 Nat))).heap.size,
 w36.heap.size,
 ((((((((w36.alloc
 (Obj.cells
 #[Value.int
 IntKind.i64
 (0 :
 Int),
 Value.string
 { data := #[] },
 Value.slice
 none
 (0 :
 Nat)
 (0 :
 Nat),
 Value.int
 IntKind.i64
 (0 :
 Int),
 Value.slice
 none
 (0 :
 Nat)
 (0 :
 Nat),
 Value.int
 IntKind.i64
 (0 :
 Int),
 Value.int
 IntKind.u8
 (0 :
 Int)]
 (124 :
 Nat))).setCell
 { block := w36.heap.size, off := (0 : Nat) }
 (Value.int
 IntKind.i64
 (3 :
 Int))).setCell
 { block := w36.heap.size, off := (1 : Nat) }
 (Value.string
 s28)).setCell
 { block := w36.heap.size, off := (2 : Nat) }
 (Value.slice
 q29
 n30
 n31)).setCell
 { block := w36.heap.size, off := (3 : Nat) }
 (Value.int
 IntKind.i64
 (0 :
 Int))).setCell
 { block := w36.heap.size, off := (4 : Nat) }
 (Value.slice
 none
 (0 :
 Nat)
 (0 :
 Nat))).setCell
 { block := w36.heap.size, off := (5 : Nat) }
 (Value.int
 IntKind.i64
 (0 :
 Int))).setCell
 { block := w36.heap.size, off := (6 : Nat) }
 (Value.int
 IntKind.u8
 (0 :
 Int))).heap.size] ∧
 bif
 !t93 then
 Known
 w92
 (KL22a w s28 q29 n30 n31 fs fq fn fc s32 q33 n34 n35 w36) →
 Rets
 Tryd.prog
 (94 :
 Nat)
 #[Value.pointer
 q23,
 Value.agg
 #[Value.int
 IntKind.i64
 (3 :
 Int),
 Value.string
 s28,
 Value.slice
 q29
 n30
 n31,
 Value.int
 IntKind.i64
 (0 :
 Int),
 Value.slice
 none
 (0 :
 Nat)
 (0 :
 Nat),
 Value.int
 IntKind.i64
 (0 :
 Int),
 Value.int
 IntKind.u8
 (0 :
 Int)],
 Value.agg
 #[Value.int
 IntKind.i64
 (0 :
 Int),
 Value.slice
 none
 (0 :
 Nat)
 (0 :
 Nat),
 Value.int
 IntKind.i64
 (0 :
 Int),
 Value.slice
 none
 (0 :
 Nat)
 (0 :
 Nat),
 Value.slice
 none
 (0 :
 Nat)
 (0 :
 Nat),
 Value.bool
 false,
 Value.bool
 false]]
 w92
 fun
 (v94 :
 Value)
 (w95 :
 World) =>
 ∃
 (t96
 :
 Bool),
 v94 =
 Value.bool
 t96 ∧
 Keeps
 w92
 w95
 [w.heap.size,
 (w.alloc
 (Obj.cells
 #[Value.string
 fs,
 Value.slice
 fq
 fn
 fc]
 (107 :
 Nat))).heap.size,
 w36.heap.size,
 ((((((((w36.alloc
 (Obj.cells
 #[Value.int
 IntKind.i64
 (0 :
 Int),
 Value.string
 { data := #[] },
 Value.slice
 none
 (0 :
 Nat)
 (0 :
 Nat),
 Value.int
 IntKind.i64
 (0 :
 Int),
 Value.slice
 none
 (0 :
 Nat)
 (0 :
 Nat),
 Value.int
 IntKind.i64
 (0 :
 Int),
 Value.int
 IntKind.u8
 (0 :
 Int)]
 (124 :
 Nat))).setCell
 { block := w36.heap.size, off := (0 : Nat) }
 (Value.int
 IntKind.i64
 (3 :
 Int))).setCell
 { block := w36.heap.size, off := (1 : Nat) }
 (Value.string
 s28)).setCell
 { block := w36.heap.size, off := (2 : Nat) }
 (Value.slice
 q29
 n30
 n31)).setCell
 { block := w36.heap.size, off := (3 : Nat) }
 (Value.int
 IntKind.i64
 (0 :
 Int))).setCell
 { block := w36.heap.size, off := (4 : Nat) }
 (Value.slice
 none
 (0 :
 Nat)
 (0 :
 Nat))).setCell
 { block := w36.heap.size, off := (5 : Nat) }
 (Value.int
 IntKind.i64
 (0 :
 Int))).setCell
 { block := w36.heap.size, off := (6 : Nat) }
 (Value.int
 IntKind.u8
 (0 :
 Int))).heap.size] ∧
 bif
 t96 then
 Known
 w95
 (KL22a w s28 q29 n30 n31 fs fq fn fc s32 q33 n34 n35 w36) →
 Rets
 Tryd.prog
 (83 :
 Nat)
 #[]
 w95
 fun
 (v97 :
 Value)
 (w98 :
 World) =>
 ∃
 (t99
 :
 Bool),
 v97 =
 Value.bool
 t99 ∧
 Keeps
 w95
 w98
 [w.heap.size,
 (w.alloc
 (Obj.cells
 #[Value.string
 fs,
 Value.slice
 fq
 fn
 fc]
 (107 :
 Nat))).heap.size,
 w36.heap.size,
 ((((((((w36.alloc
 (Obj.cells
 #[Value.int
 IntKind.i64
 (0 :
 Int),
 Value.string
 { data := #[] },
 Value.slice
 none
 (0 :
 Nat)
 (0 :
 Nat),
 Value.int
 IntKind.i64
 (0 :
 Int),
 Value.slice
 none
 (0 :
 Nat)
 (0 :
 Nat),
 Value.int
 IntKind.i64
 (0 :
 Int),
 Value.int
 IntKind.u8
 (0 :
 Int)]
 (124 :
 Nat))).setCell
 { block := w36.heap.size, off := (0 : Nat) }
 (Value.int
 IntKind.i64
 (3 :
 Int))).setCell
 { block := w36.heap.size, off := (1 : Nat) }
 (Value.string
 s28)).setCell
 { block := w36.heap.size, off := (2 : Nat) }
 (Value.slice
 q29
 n30
 n31)).setCell
 { block := w36.heap.size, off := (3 : Nat) }
 (Value.int
 IntKind.i64
 (0 :
 Int))).setCell
 { block := w36.heap.size, off := (4 : Nat) }
 (Value.slice
 none
 (0 :
 Nat)
 (0 :
 Nat))).setCell
 { block := w36.heap.size, off := (5 : Nat) }
 (Value.int
 IntKind.i64
 (0 :
 Int))).setCell
 { block := w36.heap.size, off := (6 : Nat) }
 (Value.int
 IntKind.u8
 (0 :
 Int))).heap.size] ∧
 (Known
 w98
 (KL22a w s28 q29 n30 n31 fs fq fn fc s32 q33 n34 n35 w36) →
 R
 (Ending.returned
 (Value.bool
 t99))
 w98)
 else
 Known
 w95
 (KL22a w s28 q29 n30 n31 fs fq fn fc s32 q33 n34 n35 w36) →
 R
 (Ending.returned
 (Value.bool
 false))
 w95
 else
 Known
 w92
 (KL22a w s28 q29 n30 n31 fs fq fn fc s32 q33 n34 n35 w36) →
 R
 (Ending.returned
 (Value.bool
 false))
 w92
 else
 Known
 w89
 (KL22a w s28 q29 n30 n31 fs fq fn fc s32 q33 n34 n35 w36) →
 R
 (Ending.returned
 (Value.bool
 false))
 w89) ∧
 bif Op.bytesLess gs.toList fs.toList then
 I24
 (some
 { block := ((w22.alloc (Obj.cells #[Value.string fs, Value.slice fq fn fc] (107 : Nat))).alloc (Obj.cells #[Value.string fs, Value.slice fq fn fc, Value.string gs, Value.slice gq gn gc] (107 : Nat))).heap.size, off := (0 : Nat) })
 (2 : Nat) (2 : Nat) fs fq fn fc gs gq gn gc
 (((w22.alloc (Obj.cells #[Value.string fs, Value.slice fq fn fc] (107 : Nat))).alloc
 (Obj.cells #[Value.string fs, Value.slice fq fn fc, Value.string gs, Value.slice gq gn gc] (107 : Nat))).alloc
 (Obj.cells #[Value.string gs, Value.slice gq gn gc, Value.string fs, Value.slice fq fn fc] (107 : Nat)))
 else
 I24 (some { block := (w22.alloc (Obj.cells #[Value.string fs, Value.slice fq fn fc] (107 : Nat))).heap.size, off := (0 : Nat) }) (2 : Nat) (2 : Nat) fs fq fn fc gs gq gn gc
 ((w22.alloc (Obj.cells #[Value.string fs, Value.slice fq fn fc] (107 : Nat))).alloc
 (Obj.cells #[Value.string fs, Value.slice fq fn fc, Value.string gs, Value.slice gq gn gc] (107 : Nat)))
theorem vcTryd22 (fs : ByteArray) (fq : Option Addr) (fn fc : Nat) (gs : ByteArray) (gq : Option Addr) (gn gc : Nat) (w : World) (R : Ending → World → Prop) : SX.vcFn Tryd.prog [(1000010, ⟨[(7, .slice)], [2, 3, 5, 6], [(0, 0, .str), (0, 1, .slice), (1, 0, .str), (1, 1, .slice)]⟩)] Tryd.f22 [.v (.agg #[.string fs, .slice fq fn fc]), .v (.agg #[.string gs, .slice gq gn gc])] [] w R = VCTryd22 fs fq fn fc gs gq gn gc w R := by kernel_rfl
end Go.Proofs.YtbpknjldphckgaaDoor
