/- The conditions of functions, as the executor computes them: each is equal to what 'vcFn' says. -/
import Derived.Test.YtbpknjldphckgaaDoorSxLib
import Derived.Test.YtbpknjldphckgaaDoorProg
namespace Go.Proofs.YtbpknjldphckgaaDoor
open Go Go.SX Go.Proofs
set_option maxRecDepth 100000
set_option linter.unusedVariables false
def VCTryd18 (q : Option Addr) (n c : Nat) (fo : ByteArray) (ti : Int) (k : Int) (s : ByteArray) (a f r z u m : Int) (t : ByteArray) (w : World) (R : Ending → World → Prop) : Prop :=
Known
 (w.alloc
 (Obj.cells
 #[Value.string fo, Value.int IntKind.i64 ti, Value.int IntKind.i64 k, Value.string s, Value.int IntKind.i64 a, Value.int IntKind.i64 f, Value.int IntKind.i64 r, Value.int IntKind.i64 z, Value.int IntKind.u32 u,
 Value.int IntKind.i64 m, Value.string t]
 (95 : Nat)))
 [(w.heap.size,
 [((0 : Nat), Value.string fo), ((1 : Nat), Value.int IntKind.i64 ti), ((2 : Nat), Value.int IntKind.i64 k), ((3 : Nat), Value.string s), ((4 : Nat), Value.int IntKind.i64 a), ((5 : Nat), Value.int IntKind.i64 f),
 ((6 : Nat), Value.int IntKind.i64 r), ((7 : Nat), Value.int IntKind.i64 z), ((8 : Nat), Value.int IntKind.u32 u), ((9 : Nat), Value.int IntKind.i64 m), ((10 : Nat), Value.string t)])] →
 Rets Tryd.prog (65 : Nat) #[Value.slice q n c]
 (w.alloc
 (Obj.cells
 #[Value.string fo, Value.int IntKind.i64 ti, Value.int IntKind.i64 k, Value.string s, Value.int IntKind.i64 a, Value.int IntKind.i64 f, Value.int IntKind.i64 r, Value.int IntKind.i64 z, Value.int IntKind.u32 u,
 Value.int IntKind.i64 m, Value.string t]
 (95 : Nat)))
 fun (v0 : Value) (w1 : World) =>
 ∃ (t2 : Bool),
 v0 = Value.bool t2 ∧
 Keeps
 (w.alloc
 (Obj.cells
 #[Value.string fo, Value.int IntKind.i64 ti, Value.int IntKind.i64 k, Value.string s, Value.int IntKind.i64 a, Value.int IntKind.i64 f, Value.int IntKind.i64 r, Value.int IntKind.i64 z,
 Value.int IntKind.u32 u, Value.int IntKind.i64 m, Value.string t]
 (95 : Nat)))
 w1 [w.heap.size] ∧
 bif t2 then
 Known w1
 [(w.heap.size,
 [((0 : Nat), Value.string fo), ((1 : Nat), Value.int IntKind.i64 ti), ((2 : Nat), Value.int IntKind.i64 k), ((3 : Nat), Value.string s), ((4 : Nat), Value.int IntKind.i64 a),
 ((5 : Nat), Value.int IntKind.i64 f), ((6 : Nat), Value.int IntKind.i64 r), ((7 : Nat), Value.int IntKind.i64 z), ((8 : Nat), Value.int IntKind.u32 u), ((9 : Nat), Value.int IntKind.i64 m),
 ((10 : Nat), Value.string t)])] →
 Rets Tryd.prog (66 : Nat) #[] w1 fun (v3 : Value) (w4 : World) =>
 ∃ (t5 : Bool),
 v3 = Value.bool t5 ∧
 Keeps w1 w4 [w.heap.size] ∧
 (Known w4
 [(w.heap.size,
 [((0 : Nat), Value.string fo), ((1 : Nat), Value.int IntKind.i64 ti), ((2 : Nat), Value.int IntKind.i64 k), ((3 : Nat), Value.string s), ((4 : Nat), Value.int IntKind.i64 a),
 ((5 : Nat), Value.int IntKind.i64 f), ((6 : Nat), Value.int IntKind.i64 r), ((7 : Nat), Value.int IntKind.i64 z), ((8 : Nat), Value.int IntKind.u32 u),
 ((9 : Nat), Value.int IntKind.i64 m), ((10 : Nat), Value.string t)])] →
 R (Ending.returned (Value.bool t5)) w4)
 else
 Known w1
 [(w.heap.size,
 [((0 : Nat), Value.string fo), ((1 : Nat), Value.int IntKind.i64 ti), ((2 : Nat), Value.int IntKind.i64 k), ((3 : Nat), Value.string s), ((4 : Nat), Value.int IntKind.i64 a),
 ((5 : Nat), Value.int IntKind.i64 f), ((6 : Nat), Value.int IntKind.i64 r), ((7 : Nat), Value.int IntKind.i64 z), ((8 : Nat), Value.int IntKind.u32 u), ((9 : Nat), Value.int IntKind.i64 m),
 ((10 : Nat), Value.string t)])] →
 Rets Tryd.prog (40 : Nat) #[Value.slice q n c] w1 fun (v6 : Value) (w7 : World) =>
 ∃ (t8 : Bool),
 v6 = Value.bool t8 ∧
 Keeps w1 w7 [w.heap.size] ∧
 bif !t8 then
 Known w7
 [(w.heap.size,
 [((0 : Nat), Value.string fo), ((1 : Nat), Value.int IntKind.i64 ti), ((2 : Nat), Value.int IntKind.i64 k), ((3 : Nat), Value.string s), ((4 : Nat), Value.int IntKind.i64 a),
 ((5 : Nat), Value.int IntKind.i64 f), ((6 : Nat), Value.int IntKind.i64 r), ((7 : Nat), Value.int IntKind.i64 z), ((8 : Nat), Value.int IntKind.u32 u),
 ((9 : Nat), Value.int IntKind.i64 m), ((10 : Nat), Value.string t)])] →
 Rets Tryd.prog (66 : Nat) #[] w7 fun (v9 : Value) (w10 : World) =>
 ∃ (t11 : Bool),
 v9 = Value.bool t11 ∧
 Keeps w7 w10 [w.heap.size] ∧
 (Known w10
 [(w.heap.size,
 [((0 : Nat), Value.string fo), ((1 : Nat), Value.int IntKind.i64 ti), ((2 : Nat), Value.int IntKind.i64 k), ((3 : Nat), Value.string s), ((4 : Nat), Value.int IntKind.i64 a),
 ((5 : Nat), Value.int IntKind.i64 f), ((6 : Nat), Value.int IntKind.i64 r), ((7 : Nat), Value.int IntKind.i64 z), ((8 : Nat), Value.int IntKind.u32 u),
 ((9 : Nat), Value.int IntKind.i64 m), ((10 : Nat), Value.string t)])] →
 R (Ending.returned (Value.bool t11)) w10)
 else
 bif decide ((↑fo.size : Int) > (300 : Int)) then
 Known w7
 [(w.heap.size,
 [((0 : Nat), Value.string fo), ((1 : Nat), Value.int IntKind.i64 ti), ((2 : Nat), Value.int IntKind.i64 k), ((3 : Nat), Value.string s), ((4 : Nat), Value.int IntKind.i64 a),
 ((5 : Nat), Value.int IntKind.i64 f), ((6 : Nat), Value.int IntKind.i64 r), ((7 : Nat), Value.int IntKind.i64 z), ((8 : Nat), Value.int IntKind.u32 u),
 ((9 : Nat), Value.int IntKind.i64 m), ((10 : Nat), Value.string t)])] →
 Rets Tryd.prog (66 : Nat) #[] w7 fun (v12 : Value) (w13 : World) =>
 ∃ (t14 : Bool),
 v12 = Value.bool t14 ∧
 Keeps w7 w13 [w.heap.size] ∧
 (Known w13
 [(w.heap.size,
 [((0 : Nat), Value.string fo), ((1 : Nat), Value.int IntKind.i64 ti), ((2 : Nat), Value.int IntKind.i64 k), ((3 : Nat), Value.string s), ((4 : Nat), Value.int IntKind.i64 a),
 ((5 : Nat), Value.int IntKind.i64 f), ((6 : Nat), Value.int IntKind.i64 r), ((7 : Nat), Value.int IntKind.i64 z), ((8 : Nat), Value.int IntKind.u32 u),
 ((9 : Nat), Value.int IntKind.i64 m), ((10 : Nat), Value.string t)])] →
 R (Ending.returned (Value.bool t14)) w13)
 else
 bif decide ((↑s.size : Int) > (200 : Int)) then
 Known w7
 [(w.heap.size,
 [((0 : Nat), Value.string fo), ((1 : Nat), Value.int IntKind.i64 ti), ((2 : Nat), Value.int IntKind.i64 k), ((3 : Nat), Value.string s), ((4 : Nat), Value.int IntKind.i64 a),
 ((5 : Nat), Value.int IntKind.i64 f), ((6 : Nat), Value.int IntKind.i64 r), ((7 : Nat), Value.int IntKind.i64 z), ((8 : Nat), Value.int IntKind.u32 u),
 ((9 : Nat), Value.int IntKind.i64 m), ((10 : Nat), Value.string t)])] →
 Rets Tryd.prog (66 : Nat) #[] w7 fun (v15 : Value) (w16 : World) =>
 ∃ (t17 : Bool),
 v15 = Value.bool t17 ∧
 Keeps w7 w16 [w.heap.size] ∧
 (Known w16
 [(w.heap.size,
 [((0 : Nat), Value.string fo), ((1 : Nat), Value.int IntKind.i64 ti), ((2 : Nat), Value.int IntKind.i64 k), ((3 : Nat), Value.string s), ((4 : Nat), Value.int IntKind.i64 a),
 ((5 : Nat), Value.int IntKind.i64 f), ((6 : Nat), Value.int IntKind.i64 r), ((7 : Nat), Value.int IntKind.i64 z), ((8 : Nat), Value.int IntKind.u32 u),
 ((9 : Nat), Value.int IntKind.i64 m), ((10 : Nat), Value.string t)])] →
 R (Ending.returned (Value.bool t17)) w16)
 else
 Known w7
 [(w.heap.size,
 [((0 : Nat), Value.string fo), ((1 : Nat), Value.int IntKind.i64 ti), ((2 : Nat), Value.int IntKind.i64 k), ((3 : Nat), Value.string s), ((4 : Nat), Value.int IntKind.i64 a),
 ((5 : Nat), Value.int IntKind.i64 f), ((6 : Nat), Value.int IntKind.i64 r), ((7 : Nat), Value.int IntKind.i64 z), ((8 : Nat), Value.int IntKind.u32 u),
 ((9 : Nat), Value.int IntKind.i64 m), ((10 : Nat), Value.string t)])] →
 Rets Tryd.prog (67 : Nat) #[Value.slice q n c] w7 fun (v18 : Value) (w19 : World) =>
 ∃ (q20 : Option Addr),
 ∃ (i21 : Int),
 v18 = Value.tuple #[Value.pointer q20, Value.int IntKind.i64 i21] ∧
 Keeps w7 w19 [w.heap.size] ∧
 bif i21 != (0 : Int) then
 Known w19
 [(w.heap.size,
 [((0 : Nat), Value.string fo), ((1 : Nat), Value.int IntKind.i64 ti), ((2 : Nat), Value.int IntKind.i64 k), ((3 : Nat), Value.string s),
 ((4 : Nat), Value.int IntKind.i64 a), ((5 : Nat), Value.int IntKind.i64 f), ((6 : Nat), Value.int IntKind.i64 r), ((7 : Nat), Value.int IntKind.i64 z),
 ((8 : Nat), Value.int IntKind.u32 u), ((9 : Nat), Value.int IntKind.i64 m), ((10 : Nat), Value.string t)])] →
 R (Ending.returned (Value.bool false)) w19
 else
 bif q20.isNone then
 Known w19
 [(w.heap.size,
 [((0 : Nat), Value.string fo), ((1 : Nat), Value.int IntKind.i64 ti), ((2 : Nat), Value.int IntKind.i64 k), ((3 : Nat), Value.string s),
 ((4 : Nat), Value.int IntKind.i64 a), ((5 : Nat), Value.int IntKind.i64 f), ((6 : Nat), Value.int IntKind.i64 r), ((7 : Nat), Value.int IntKind.i64 z),
 ((8 : Nat), Value.int IntKind.u32 u), ((9 : Nat), Value.int IntKind.i64 m), ((10 : Nat), Value.string t)])] →
 R (Ending.returned (Value.bool false)) w19
 else
 Known w19
 [(w.heap.size,
 [((0 : Nat), Value.string fo), ((1 : Nat), Value.int IntKind.i64 ti), ((2 : Nat), Value.int IntKind.i64 k), ((3 : Nat), Value.string s),
 ((4 : Nat), Value.int IntKind.i64 a), ((5 : Nat), Value.int IntKind.i64 f), ((6 : Nat), Value.int IntKind.i64 r), ((7 : Nat), Value.int IntKind.i64 z),
 ((8 : Nat), Value.int IntKind.u32 u), ((9 : Nat), Value.int IntKind.i64 m), ((10 : Nat), Value.string t)])] →
 Rets Tryd.prog (76 : Nat) #[Value.slice q n c, Value.string fo] w19 fun (v22 : Value) (w23 : World) =>
 ∃ (q24 : Option Addr),
 ∃ (n25 : Nat),
 ∃ (n26 : Nat),
 v22 = Value.slice q24 n25 n26 ∧
 Keeps w19 w23 [w.heap.size] ∧
 (Known ((w23.alloc (Obj.cells #[Value.slice none (0 : Nat) (0 : Nat)] (42 : Nat))).setCell { block := w23.heap.size, off := (0 : Nat) } (Value.slice q24 n25 n26))
 [(w.heap.size,
 [((0 : Nat), Value.string fo), ((1 : Nat), Value.int IntKind.i64 ti), ((2 : Nat), Value.int IntKind.i64 k), ((3 : Nat), Value.string s),
 ((4 : Nat), Value.int IntKind.i64 a), ((5 : Nat), Value.int IntKind.i64 f), ((6 : Nat), Value.int IntKind.i64 r), ((7 : Nat), Value.int IntKind.i64 z),
 ((8 : Nat), Value.int IntKind.u32 u), ((9 : Nat), Value.int IntKind.i64 m), ((10 : Nat), Value.string t)]),
 (w23.heap.size, [((0 : Nat), Value.slice q24 n25 n26)])] →
 Rets Tryd.prog (77 : Nat) #[Value.pointer q20, Value.string fo]
 ((w23.alloc (Obj.cells #[Value.slice none (0 : Nat) (0 : Nat)] (42 : Nat))).setCell { block := w23.heap.size, off := (0 : Nat) } (Value.slice q24 n25 n26))
 fun (v27 : Value) (w28 : World) =>
 ∃ (q29 : Option Addr),
 ∃ (n30 : Nat),
 ∃ (n31 : Nat),
 v27 = Value.slice q29 n30 n31 ∧
 Keeps
 ((w23.alloc (Obj.cells #[Value.slice none (0 : Nat) (0 : Nat)] (42 : Nat))).setCell { block := w23.heap.size, off := (0 : Nat) }
 (Value.slice q24 n25 n26))
 w28 [w.heap.size, w23.heap.size] ∧
 (Known
 ((w28.alloc (Obj.cells #[Value.slice none (0 : Nat) (0 : Nat)] (46 : Nat))).setCell { block := w28.heap.size, off := (0 : Nat) }
 (Value.slice q29 n30 n31))
 [(w.heap.size,
 [((0 : Nat), Value.string fo), ((1 : Nat), Value.int IntKind.i64 ti), ((2 : Nat), Value.int IntKind.i64 k), ((3 : Nat), Value.string s),
 ((4 : Nat), Value.int IntKind.i64 a), ((5 : Nat), Value.int IntKind.i64 f), ((6 : Nat), Value.int IntKind.i64 r),
 ((7 : Nat), Value.int IntKind.i64 z), ((8 : Nat), Value.int IntKind.u32 u), ((9 : Nat), Value.int IntKind.i64 m),
 ((10 : Nat), Value.string t)]),
 (w23.heap.size, [((0 : Nat), Value.slice q24 n25 n26)]), (w28.heap.size, [((0 : Nat), Value.slice q29 n30 n31)])] →
 Rets Tryd.prog (78 : Nat) #[Value.pointer q20, Value.string fo]
 ((w28.alloc (Obj.cells #[Value.slice none (0 : Nat) (0 : Nat)] (46 : Nat))).setCell { block := w28.heap.size, off := (0 : Nat) }
 (Value.slice q29 n30 n31))
 fun (v32 : Value) (w33 : World) =>
 ∃ (v34 : Value),
 v32 = v34 ∧
 Keeps
 ((w28.alloc (Obj.cells #[Value.slice none (0 : Nat) (0 : Nat)] (46 : Nat))).setCell { block := w28.heap.size, off := (0 : Nat) }
 (Value.slice q29 n30 n31))
 w33 [w.heap.size, w23.heap.size, w28.heap.size] ∧
 FnVal v34 fun (t35 : Bool) =>
 bif t35 then
 Known w33
 [(w.heap.size,
 [((0 : Nat), Value.string fo), ((1 : Nat), Value.int IntKind.i64 ti), ((2 : Nat), Value.int IntKind.i64 k),
 ((3 : Nat), Value.string s), ((4 : Nat), Value.int IntKind.i64 a), ((5 : Nat), Value.int IntKind.i64 f),
 ((6 : Nat), Value.int IntKind.i64 r), ((7 : Nat), Value.int IntKind.i64 z), ((8 : Nat), Value.int IntKind.u32 u),
 ((9 : Nat), Value.int IntKind.i64 m), ((10 : Nat), Value.string t)]),
 (w23.heap.size, [((0 : Nat), Value.slice q24 n25 n26)]), (w28.heap.size, [((0 : Nat), Value.slice q29 n30 n31)])] →
 R (Ending.returned (Value.bool false)) w33
 else
 bif (↑n30 : Int) != (↑n25 : Int) then
 Known w33
 [(w.heap.size,
 [((0 : Nat), Value.string fo), ((1 : Nat), Value.int IntKind.i64 ti), ((2 : Nat), Value.int IntKind.i64 k),
 ((3 : Nat), Value.string s), ((4 : Nat), Value.int IntKind.i64 a), ((5 : Nat), Value.int IntKind.i64 f),
 ((6 : Nat), Value.int IntKind.i64 r), ((7 : Nat), Value.int IntKind.i64 z), ((8 : Nat), Value.int IntKind.u32 u),
 ((9 : Nat), Value.int IntKind.i64 m), ((10 : Nat), Value.string t)]),
 (w23.heap.size, [((0 : Nat), Value.slice q24 n25 n26)]), (w28.heap.size, [((0 : Nat), Value.slice q29 n30 n31)])] →
 R (Ending.returned (Value.bool false)) w33
 else
 Known w33
 [(w.heap.size,
 [((0 : Nat), Value.string fo), ((1 : Nat), Value.int IntKind.i64 ti), ((2 : Nat), Value.int IntKind.i64 k),
 ((3 : Nat), Value.string s), ((4 : Nat), Value.int IntKind.i64 a), ((5 : Nat), Value.int IntKind.i64 f),
 ((6 : Nat), Value.int IntKind.i64 r), ((7 : Nat), Value.int IntKind.i64 z), ((8 : Nat), Value.int IntKind.u32 u),
 ((9 : Nat), Value.int IntKind.i64 m), ((10 : Nat), Value.string t)]),
 (w23.heap.size, [((0 : Nat), Value.slice q24 n25 n26)]), (w28.heap.size, [((0 : Nat), Value.slice q29 n30 n31)])] →
 Rets Tryd.prog (68 : Nat)
 #[Value.pointer q20, Value.slice q n c,
 Value.agg
 #[Value.int IntKind.i64 k, Value.string s, Value.int IntKind.i64 a, Value.int IntKind.i64 f, Value.int IntKind.i64 r,
 Value.int IntKind.i64 z, Value.int IntKind.u32 u, Value.int IntKind.i64 m, Value.string t]]
 w33 fun (v36 : Value) (w37 : World) =>
 ∃ (t38 : Bool),
 ∃ (q39 : Option Addr),
 ∃ (n40 : Nat),
 ∃ (n41 : Nat),
 v36 = Value.tuple #[Value.bool t38, Value.slice q39 n40 n41] ∧
 Keeps w33 w37 [w.heap.size, w23.heap.size, w28.heap.size] ∧
 bif !t38 then
 Known w37
 [(w.heap.size,
 [((0 : Nat), Value.string fo), ((1 : Nat), Value.int IntKind.i64 ti),
 ((2 : Nat), Value.int IntKind.i64 k), ((3 : Nat), Value.string s), ((4 : Nat), Value.int IntKind.i64 a),
 ((5 : Nat), Value.int IntKind.i64 f), ((6 : Nat), Value.int IntKind.i64 r),
 ((7 : Nat), Value.int IntKind.i64 z), ((8 : Nat), Value.int IntKind.u32 u),
 ((9 : Nat), Value.int IntKind.i64 m), ((10 : Nat), Value.string t)]),
 (w23.heap.size, [((0 : Nat), Value.slice q24 n25 n26)]),
 (w28.heap.size, [((0 : Nat), Value.slice q29 n30 n31)])] →
 R (Ending.returned (Value.bool false)) w37
 else
 Known
 ((((w37.alloc (Obj.cells #[Value.int IntKind.i64 (0 : Int)] (3 : Nat))).setCell
 {block := w37.heap.size, off := (0 : Nat) } (Value.int IntKind.i64 (0 : Int))).alloc
 (Obj.cells #[Value.bool false] (4 : Nat))).setCell
 { block := ((w37.alloc (Obj.cells #[Value.int IntKind.i64 (0 : Int)] (3 : Nat))).setCell {block := w37.heap.size, off := (0 : Nat) } (Value.int IntKind.i64 (0 : Int))).heap.size, off := (0 : Nat) }
 (Value.bool true))
 [(w.heap.size,
 [((0 : Nat), Value.string fo), ((1 : Nat), Value.int IntKind.i64 ti),
 ((2 : Nat), Value.int IntKind.i64 k), ((3 : Nat), Value.string s), ((4 : Nat), Value.int IntKind.i64 a),
 ((5 : Nat), Value.int IntKind.i64 f), ((6 : Nat), Value.int IntKind.i64 r),
 ((7 : Nat), Value.int IntKind.i64 z), ((8 : Nat), Value.int IntKind.u32 u),
 ((9 : Nat), Value.int IntKind.i64 m), ((10 : Nat), Value.string t)]),
 (w23.heap.size, [((0 : Nat), Value.slice q24 n25 n26)]),
 (w28.heap.size, [((0 : Nat), Value.slice q29 n30 n31)]),
 (w37.heap.size, [((0 : Nat), Value.int IntKind.i64 (0 : Int))]),
 (((w37.alloc (Obj.cells #[Value.int IntKind.i64 (0 : Int)] (3 : Nat))).setCell
 {block := w37.heap.size, off := (0 : Nat) } (Value.int IntKind.i64 (0 : Int))).heap.size,
 [((0 : Nat), Value.bool true)])] →
 CallsVal Tryd.prog v34
 #[Value.func (Fn.func (79 : Nat)) #[]
 #[Value.pointer
 (some
 { block := ((w37.alloc (Obj.cells #[Value.int IntKind.i64 (0 : Int)] (3 : Nat))).setCell {block := w37.heap.size, off := (0 : Nat) } (Value.int IntKind.i64 (0 : Int))).heap.size, off := (0 : Nat) }),
 Value.pointer (some { block := w37.heap.size, off := (0 : Nat) }),
 Value.pointer (some { block := w23.heap.size, off := (0 : Nat) }),
 Value.pointer (some { block := w28.heap.size, off := (0 : Nat) }),
 Value.pointer (some { block := w.heap.size, off := (0 : Nat) })]]
 ((((w37.alloc (Obj.cells #[Value.int IntKind.i64 (0 : Int)] (3 : Nat))).setCell
 {block := w37.heap.size, off := (0 : Nat) } (Value.int IntKind.i64 (0 : Int))).alloc
 (Obj.cells #[Value.bool false] (4 : Nat))).setCell
 { block := ((w37.alloc (Obj.cells #[Value.int IntKind.i64 (0 : Int)] (3 : Nat))).setCell {block := w37.heap.size, off := (0 : Nat) } (Value.int IntKind.i64 (0 : Int))).heap.size, off := (0 : Nat) }
 (Value.bool true))
 fun (v42 : Value) (w43 : World) =>
 v42 = Value.tuple #[] ∧
 Keeps
 ((((w37.alloc (Obj.cells #[Value.int IntKind.i64 (0 : Int)] (3 : Nat))).setCell
 {block := w37.heap.size, off := (0 : Nat) } (Value.int IntKind.i64 (0 : Int))).alloc
 (Obj.cells #[Value.bool false] (4 : Nat))).setCell
 { block := ((w37.alloc (Obj.cells #[Value.int IntKind.i64 (0 : Int)] (3 : Nat))).setCell {block := w37.heap.size, off := (0 : Nat) } (Value.int IntKind.i64 (0 : Int))).heap.size, off := (0 : Nat) }
 (Value.bool true))
 w43 [] ∧
 ∃ (s44 : ByteArray),
 w43.cell? { block := w.heap.size, off := (0 : Nat) } = some (Value.string s44) ∧
 w43.frozen? { block := w.heap.size, off := (0 : Nat) } = false ∧
 ∃ (i45 : Int),
 w43.cell? { block := w.heap.size, off := (1 : Nat) } = some (Value.int IntKind.i64 i45) ∧
 w43.frozen? { block := w.heap.size, off := (1 : Nat) } = false ∧
 ∃ (i46 : Int),
 w43.cell? { block := w.heap.size, off := (2 : Nat) } = some (Value.int IntKind.i64 i46) ∧
 w43.frozen? { block := w.heap.size, off := (2 : Nat) } = false ∧
 ∃ (s47 : ByteArray),
 w43.cell? { block := w.heap.size, off := (3 : Nat) } = some (Value.string s47) ∧
 w43.frozen? { block := w.heap.size, off := (3 : Nat) } = false ∧
 ∃ (i48 : Int),
 w43.cell? { block := w.heap.size, off := (4 : Nat) } =
 some (Value.int IntKind.i64 i48) ∧
 w43.frozen? { block := w.heap.size, off := (4 : Nat) } = false ∧
 ∃ (i49 : Int),
 w43.cell? { block := w.heap.size, off := (5 : Nat) } =
 some (Value.int IntKind.i64 i49) ∧
 w43.frozen? { block := w.heap.size, off := (5 : Nat) } = false ∧
 ∃ (i50 : Int),
 w43.cell? { block := w.heap.size, off := (6 : Nat) } =
 some (Value.int IntKind.i64 i50) ∧
 w43.frozen? { block := w.heap.size, off := (6 : Nat) } = false ∧
 ∃ (i51 : Int),
 w43.cell? { block := w.heap.size, off := (7 : Nat) } =
 some (Value.int IntKind.i64 i51) ∧
 w43.frozen? { block := w.heap.size, off := (7 : Nat) } =
 false ∧
 ∃ (i52 : Int),
 w43.cell? { block := w.heap.size, off := (8 : Nat) } =
 some (Value.int IntKind.u32 i52) ∧
 w43.frozen?
 {block := w.heap.size, off := (8 : Nat) } =
 false ∧
 ∃ (i53 : Int),
 w43.cell?
 {block := w.heap.size, off := (9 : Nat) } =
 some (Value.int IntKind.i64 i53) ∧
 w43.frozen?
 {block := w.heap.size, off := (9 : Nat) } =
 false ∧
 ∃ (s54 : ByteArray),
 w43.cell?
 {block := w.heap.size, off := (10 : Nat) } =
 some (Value.string s54) ∧
 w43.frozen?
 {block := w.heap.size, off := (10 : Nat) } =
 false ∧
 ∃ (q55 : Option Addr),
 ∃ (n56 : Nat),
 ∃ (n57 : Nat),
 w43.cell?
 {block := w23.heap.size, off := (0 : Nat) } =
 some
 (Value.slice q55 n56 n57) ∧
 w43.frozen?
 {block := w23.heap.size, off := (0 : Nat) } =
 false ∧
 ∃ (q58 : Option Addr),
 ∃ (n59 : Nat),
 ∃ (n60 : Nat),
 w43.cell?
 { block := w28.heap.size, off := (0 : Nat) } =
 some
 (Value.slice q58
 n59 n60) ∧
 w43.frozen?
 { block := w28.heap.size, off := (0 : Nat) } =
 false ∧
 ∃ (i61 : Int),
 w43.cell?
 { block := w37.heap.size, off := (0 : Nat) } =
 some
 (Value.int
 IntKind.i64
 i61) ∧
 w43.frozen?
 { block := w37.heap.size, off := (0 : Nat) } =
 false ∧
 ∃ (t62 :
 Bool),
 w43.cell?
 { block := ((w37.alloc (Obj.cells #[Value.int IntKind.i64 (0 : Int)] (3 : Nat))).setCell { block := w37.heap.size, off := (0 : Nat) } (Value.int IntKind.i64 (0 : Int))).heap.size, off := (0 : Nat) } =
 some
 (Value.bool
 t62) ∧
 w43.frozen?
 { block := ((w37.alloc (Obj.cells #[Value.int IntKind.i64 (0 : Int)] (3 : Nat))).setCell { block := w37.heap.size, off := (0 : Nat) } (Value.int IntKind.i64 (0 : Int))).heap.size, off := (0 : Nat) } =
 false ∧
 bif
 decide
 (i45 >
 (0 :
 Int)) then
 bif
 decide
 (i45 <
 (↑n56 :
 Int)) then
 bif
 t62 then
 bif
 i61 ==
 i45 then
 Known
 w43
 [(w.heap.size,
 [((0 :
 Nat),
 Value.string
 s44),
 ((1 :
 Nat),
 Value.int
 IntKind.i64
 i45),
 ((2 :
 Nat),
 Value.int
 IntKind.i64
 i46),
 ((3 :
 Nat),
 Value.string
 s47),
 ((4 :
 Nat),
 Value.int
 IntKind.i64
 i48),
 ((5 :
 Nat),
 Value.int
 IntKind.i64
 i49),
 ((6 :
 Nat),
 Value.int
 IntKind.i64
 i50),
 ((7 :
 Nat),
 Value.int
 IntKind.i64
 i51),
 ((8 :
 Nat),
 Value.int
 IntKind.u32
 i52),
 ((9 :
 Nat),
 Value.int
 IntKind.i64
 i53),
 ((10 :
 Nat),
 Value.string
 s54)]),
 (w23.heap.size,
 [((0 :
 Nat),
 Value.slice
 q55
 n56
 n57)]),
 (w28.heap.size,
 [((0 :
 Nat),
 Value.slice
 q58
 n59
 n60)]),
 (w37.heap.size,
 [((0 :
 Nat),
 Value.int
 IntKind.i64
 i61)]),
 (((w37.alloc
 (Obj.cells
 #[Value.int
 IntKind.i64
 (0 :
 Int)]
 (3 :
 Nat))).setCell
 { block := w37.heap.size, off := (0 : Nat) }
 (Value.int
 IntKind.i64
 (0 :
 Int))).heap.size,
 [((0 :
 Nat),
 Value.bool
 t62)])] →
 Rets
 Tryd.prog
 (66 :
 Nat)
 #[]
 w43
 fun
 (v63 :
 Value)
 (w64 :
 World) =>
 ∃
 (t65
 :
 Bool),
 v63 =
 Value.bool
 t65 ∧
 Keeps
 w43
 w64
 [] ∧
 ∃
 (s66
 :
 ByteArray),
 w64.cell?
 { block := w.heap.size, off := (0 : Nat) } =
 some
 (Value.string
 s66) ∧
 w64.frozen?
 { block := w.heap.size, off := (0 : Nat) } =
 false ∧
 ∃
 (i67
 :
 Int),
 w64.cell?
 { block := w.heap.size, off := (1 : Nat) } =
 some
 (Value.int
 IntKind.i64
 i67) ∧
 w64.frozen?
 { block := w.heap.size, off := (1 : Nat) } =
 false ∧
 ∃
 (i68
 :
 Int),
 w64.cell?
 { block := w.heap.size, off := (2 : Nat) } =
 some
 (Value.int
 IntKind.i64
 i68) ∧
 w64.frozen?
 { block := w.heap.size, off := (2 : Nat) } =
 false ∧
 ∃
 (s69
 :
 ByteArray),
 w64.cell?
 { block := w.heap.size, off := (3 : Nat) } =
 some
 (Value.string
 s69) ∧
 w64.frozen?
 { block := w.heap.size, off := (3 : Nat) } =
 false ∧
 ∃
 (i70
 :
 Int),
 w64.cell?
 { block := w.heap.size, off := (4 : Nat) } =
 some
 (Value.int
 IntKind.i64
 i70) ∧
 w64.frozen?
 { block := w.heap.size, off := (4 : Nat) } =
 false ∧
 ∃
 (i71
 :
 Int),
 w64.cell?
 { block := w.heap.size, off := (5 : Nat) } =
 some
 (Value.int
 IntKind.i64
 i71) ∧
 w64.frozen?
 { block := w.heap.size, off := (5 : Nat) } =
 false ∧
 ∃
 (i72
 :
 Int),
 w64.cell?
 { block := w.heap.size, off := (6 : Nat) } =
 some
 (Value.int
 IntKind.i64
 i72) ∧
 w64.frozen?
 { block := w.heap.size, off := (6 : Nat) } =
 false ∧
 ∃
 (i73
 :
 Int),
 w64.cell?
 { block := w.heap.size, off := (7 : Nat) } =
 some
 (Value.int
 IntKind.i64
 i73) ∧
 w64.frozen?
 { block := w.heap.size, off := (7 : Nat) } =
 false ∧
 ∃
 (i74
 :
 Int),
 w64.cell?
 { block := w.heap.size, off := (8 : Nat) } =
 some
 (Value.int
 IntKind.u32
 i74) ∧
 w64.frozen?
 { block := w.heap.size, off := (8 : Nat) } =
 false ∧
 ∃
 (i75
 :
 Int),
 w64.cell?
 { block := w.heap.size, off := (9 : Nat) } =
 some
 (Value.int
 IntKind.i64
 i75) ∧
 w64.frozen?
 { block := w.heap.size, off := (9 : Nat) } =
 false ∧
 ∃
 (s76
 :
 ByteArray),
 w64.cell?
 { block := w.heap.size, off := (10 : Nat) } =
 some
 (Value.string
 s76) ∧
 w64.frozen?
 { block := w.heap.size, off := (10 : Nat) } =
 false ∧
 ∃
 (q77
 :
 Option
 Addr),
 ∃
 (n78
 :
 Nat),
 ∃
 (n79
 :
 Nat),
 w64.cell?
 { block := w23.heap.size, off := (0 : Nat) } =
 some
 (Value.slice
 q77
 n78
 n79) ∧
 w64.frozen?
 { block := w23.heap.size, off := (0 : Nat) } =
 false ∧
 ∃
 (q80
 :
 Option
 Addr),
 ∃
 (n81
 :
 Nat),
 ∃
 (n82
 :
 Nat),
 w64.cell?
 { block := w28.heap.size, off := (0 : Nat) } =
 some
 (Value.slice
 q80
 n81
 n82) ∧
 w64.frozen?
 { block := w28.heap.size, off := (0 : Nat) } =
 false ∧
 ∃
 (i83
 :
 Int),
 w64.cell?
 { block := w37.heap.size, off := (0 : Nat) } =
 some
 (Value.int
 IntKind.i64
 i83) ∧
 w64.frozen?
 { block := w37.heap.size, off := (0 : Nat) } =
 false ∧
 ∃
 (t84
 :
 Bool),
 w64.cell?
 { block := ((w37.alloc (Obj.cells #[Value.int IntKind.i64 (0 : Int)] (3 : Nat))).setCell { block := w37.heap.size, off := (0 : Nat) } (Value.int IntKind.i64 (0 : Int))).heap.size, off := (0 : Nat) } =
 some
 (Value.bool
 t84) ∧
 w64.frozen?
 { block := ((w37.alloc (Obj.cells #[Value.int IntKind.i64 (0 : Int)] (3 : Nat))).setCell { block := w37.heap.size, off := (0 : Nat) } (Value.int IntKind.i64 (0 : Int))).heap.size, off := (0 : Nat) } =
 false ∧
 (Known
 w64
 [(w.heap.size,
 [((0 :
 Nat),
 Value.string
 s66),
 ((1 :
 Nat),
 Value.int
 IntKind.i64
 i67),
 ((2 :
 Nat),
 Value.int
 IntKind.i64
 i68),
 ((3 :
 Nat),
 Value.string
 s69),
 ((4 :
 Nat),
 Value.int
 IntKind.i64
 i70),
 ((5 :
 Nat),
 Value.int
 IntKind.i64
 i71),
 ((6 :
 Nat),
 Value.int
 IntKind.i64
 i72),
 ((7 :
 Nat),
 Value.int
 IntKind.i64
 i73),
 ((8 :
 Nat),
 Value.int
 IntKind.u32
 i74),
 ((9 :
 Nat),
 Value.int
 IntKind.i64
 i75),
 ((10 :
 Nat),
 Value.string
 s76)]),
 (w23.heap.size,
 [((0 :
 Nat),
 Value.slice
 q77
 n78
 n79)]),
 (w28.heap.size,
 [((0 :
 Nat),
 Value.slice
 q80
 n81
 n82)]),
 (w37.heap.size,
 [((0 :
 Nat),
 Value.int
 IntKind.i64
 i83)]),
 (((w37.alloc
 (Obj.cells
 #[Value.int
 IntKind.i64
 (0 :
 Int)]
 (3 :
 Nat))).setCell
 { block := w37.heap.size, off := (0 : Nat) }
 (Value.int
 IntKind.i64
 (0 :
 Int))).heap.size,
 [((0 :
 Nat),
 Value.bool
 t84)])] →
 R
 (Ending.returned
 (Value.bool
 t65))
 w64)
 else
 Known
 w43
 [(w.heap.size,
 [((0 :
 Nat),
 Value.string
 s44),
 ((1 :
 Nat),
 Value.int
 IntKind.i64
 i45),
 ((2 :
 Nat),
 Value.int
 IntKind.i64
 i46),
 ((3 :
 Nat),
 Value.string
 s47),
 ((4 :
 Nat),
 Value.int
 IntKind.i64
 i48),
 ((5 :
 Nat),
 Value.int
 IntKind.i64
 i49),
 ((6 :
 Nat),
 Value.int
 IntKind.i64
 i50),
 ((7 :
 Nat),
 Value.int
 IntKind.i64
 i51),
 ((8 :
 Nat),
 Value.int
 IntKind.u32
 i52),
 ((9 :
 Nat),
 Value.int
 IntKind.i64
 i53),
 ((10 :
 Nat),
 Value.string
 s54)]),
 (w23.heap.size,
 [((0 :
 Nat),
 Value.slice
 q55
 n56
 n57)]),
 (w28.heap.size,
 [((0 :
 Nat),
 Value.slice
 q58
 n59
 n60)]),
 (w37.heap.size,
 [((0 :
 Nat),
 Value.int
 IntKind.i64
 i61)]),
 (((w37.alloc
 (Obj.cells
 #[Value.int
 IntKind.i64
 (0 :
 Int)]
 (3 :
 Nat))).setCell
 { block := w37.heap.size, off := (0 : Nat) }
 (Value.int
 IntKind.i64
 (0 :
 Int))).heap.size,
 [((0 :
 Nat),
 Value.bool
 t62)])] →
 R
 (Ending.returned
 (Value.bool
 false))
 w43
 else
 Known
 w43
 [(w.heap.size,
 [((0 :
 Nat),
 Value.string
 s44),
 ((1 :
 Nat),
 Value.int
 IntKind.i64
 i45),
 ((2 :
 Nat),
 Value.int
 IntKind.i64
 i46),
 ((3 :
 Nat),
 Value.string
 s47),
 ((4 :
 Nat),
 Value.int
 IntKind.i64
 i48),
 ((5 :
 Nat),
 Value.int
 IntKind.i64
 i49),
 ((6 :
 Nat),
 Value.int
 IntKind.i64
 i50),
 ((7 :
 Nat),
 Value.int
 IntKind.i64
 i51),
 ((8 :
 Nat),
 Value.int
 IntKind.u32
 i52),
 ((9 :
 Nat),
 Value.int
 IntKind.i64
 i53),
 ((10 :
 Nat),
 Value.string
 s54)]),
 (w23.heap.size,
 [((0 :
 Nat),
 Value.slice
 q55
 n56
 n57)]),
 (w28.heap.size,
 [((0 :
 Nat),
 Value.slice
 q58
 n59
 n60)]),
 (w37.heap.size,
 [((0 :
 Nat),
 Value.int
 IntKind.i64
 i61)]),
 (((w37.alloc
 (Obj.cells
 #[Value.int
 IntKind.i64
 (0 :
 Int)]
 (3 :
 Nat))).setCell
 { block := w37.heap.size, off := (0 : Nat) }
 (Value.int
 IntKind.i64
 (0 :
 Int))).heap.size,
 [((0 :
 Nat),
 Value.bool
 t62)])] →
 R
 (Ending.returned
 (Value.bool
 false))
 w43
 else
 bif
 t62 then
 bif
 i61 ==
 (↑n56 :
 Int) then
 Known
 w43
 [(w.heap.size,
 [((0 :
 Nat),
 Value.string
 s44),
 ((1 :
 Nat),
 Value.int
 IntKind.i64
 i45),
 ((2 :
 Nat),
 Value.int
 IntKind.i64
 i46),
 ((3 :
 Nat),
 Value.string
 s47),
 ((4 :
 Nat),
 Value.int
 IntKind.i64
 i48),
 ((5 :
 Nat),
 Value.int
 IntKind.i64
 i49),
 ((6 :
 Nat),
 Value.int
 IntKind.i64
 i50),
 ((7 :
 Nat),
 Value.int
 IntKind.i64
 i51),
 ((8 :
 Nat),
 Value.int
 IntKind.u32
 i52),
 ((9 :
 Nat),
 Value.int
 IntKind.i64
 i53),
 ((10 :
 Nat),
 Value.string
 s54)]),
 (w23.heap.size,
 [((0 :
 Nat),
 Value.slice
 q55
 n56
 n57)]),
 (w28.heap.size,
 [((0 :
 Nat),
 Value.slice
 q58
 n59
 n60)]),
 (w37.heap.size,
 [((0 :
 Nat),
 Value.int
 IntKind.i64
 i61)]),
 (((w37.alloc
 (Obj.cells
 #[Value.int
 IntKind.i64
 (0 :
 Int)]
 (3 :
 Nat))).setCell
 { block := w37.heap.size, off := (0 : Nat) }
 (Value.int
 IntKind.i64
 (0 :
 Int))).heap.size,
 [((0 :
 Nat),
 Value.bool
 t62)])] →
 Rets
 Tryd.prog
 (66 :
 Nat)
 #[]
 w43
 fun
 (v85 :
 Value)
 (w86 :
 World) =>
 ∃
 (t87
 :
 Bool),
 v85 =
 Value.bool
 t87 ∧
 Keeps
 w43
 w86
 [] ∧
 ∃
 (s88
 :
 ByteArray),
 w86.cell?
 { block := w.heap.size, off := (0 : Nat) } =
 some
 (Value.string
 s88) ∧
 w86.frozen?
 { block := w.heap.size, off := (0 : Nat) } =
 false ∧
 ∃
 (i89
 :
 Int),
 w86.cell?
 { block := w.heap.size, off := (1 : Nat) } =
 some
 (Value.int
 IntKind.i64
 i89) ∧
 w86.frozen?
 { block := w.heap.size, off := (1 : Nat) } =
 false ∧
 ∃
 (i90
 :
 Int),
 w86.cell?
 { block := w.heap.size, off := (2 : Nat) } =
 some
 (Value.int
 IntKind.i64
 i90) ∧
 w86.frozen?
 { block := w.heap.size, off := (2 : Nat) } =
 false ∧
 ∃
 (s91
 :
 ByteArray),
 w86.cell?
 { block := w.heap.size, off := (3 : Nat) } =
 some
 (Value.string
 s91) ∧
 w86.frozen?
 { block := w.heap.size, off := (3 : Nat) } =
 false ∧
 ∃
 (i92
 :
 Int),
 w86.cell?
 { block := w.heap.size, off := (4 : Nat) } =
 some
 (Value.int
 IntKind.i64
 i92) ∧
 w86.frozen?
 { block := w.heap.size, off := (4 : Nat) } =
 false ∧
 ∃
 (i93
 :
 Int),
 w86.cell?
 { block := w.heap.size, off := (5 : Nat) } =
 some
 (Value.int
 IntKind.i64
 i93) ∧
 w86.frozen?
 { block := w.heap.size, off := (5 : Nat) } =
 false ∧
 ∃
 (i94
 :
 Int),
 w86.cell?
 { block := w.heap.size, off := (6 : Nat) } =
 some
 (Value.int
 IntKind.i64
 i94) ∧
 w86.frozen?
 { block := w.heap.size, off := (6 : Nat) } =
 false ∧
 ∃
 (i95
 :
 Int),
 w86.cell?
 { block := w.heap.size, off := (7 : Nat) } =
 some
 (Value.int
 IntKind.i64
 i95) ∧
 w86.frozen?
 { block := w.heap.size, off := (7 : Nat) } =
 false ∧
 ∃
 (i96
 :
 Int),
 w86.cell?
 { block := w.heap.size, off := (8 : Nat) } =
 some
 (Value.int
 IntKind.u32
 i96) ∧
 w86.frozen?
 { block := w.heap.size, off := (8 : Nat) } =
 false ∧
 ∃
 (i97
 :
 Int),
 w86.cell?
 { block := w.heap.size, off := (9 : Nat) } =
 some
 (Value.int
 IntKind.i64
 i97) ∧
 w86.frozen?
 { block := w.heap.size, off := (9 : Nat) } =
 false ∧
 ∃
 (s98
 :
 ByteArray),
 w86.cell?
 { block := w.heap.size, off := (10 : Nat) } =
 some
 (Value.string
 s98) ∧
 w86.frozen?
 { block := w.heap.size, off := (10 : Nat) } =
 false ∧
 ∃
 (q99
 :
 Option
 Addr),
 ∃
 (n100
 :
 Nat),
 ∃
 (n101
 :
 Nat),
 w86.cell?
 { block := w23.heap.size, off := (0 : Nat) } =
 some
 (Value.slice
 q99
 n100
 n101) ∧
 w86.frozen?
 { block := w23.heap.size, off := (0 : Nat) } =
 false ∧
 ∃
 (q102
 :
 Option
 Addr),
 ∃
 (n103
 :
 Nat),
 ∃
 (n104
 :
 Nat),
 w86.cell?
 { block := w28.heap.size, off := (0 : Nat) } =
 some
 (Value.slice
 q102
 n103
 n104) ∧
 w86.frozen?
 { block := w28.heap.size, off := (0 : Nat) } =
 false ∧
 ∃
 (i105
 :
 Int),
 w86.cell?
 { block := w37.heap.size, off := (0 : Nat) } =
 some
 (Value.int
 IntKind.i64
 i105) ∧
 w86.frozen?
 { block := w37.heap.size, off := (0 : Nat) } =
 false ∧
 ∃
 (t106
 :
 Bool),
 w86.cell?
 { block := ((w37.alloc (Obj.cells #[Value.int IntKind.i64 (0 : Int)] (3 : Nat))).setCell { block := w37.heap.size, off := (0 : Nat) } (Value.int IntKind.i64 (0 : Int))).heap.size, off := (0 : Nat) } =
 some
 (Value.bool
 t106) ∧
 w86.frozen?
 { block := ((w37.alloc (Obj.cells #[Value.int IntKind.i64 (0 : Int)] (3 : Nat))).setCell { block := w37.heap.size, off := (0 : Nat) } (Value.int IntKind.i64 (0 : Int))).heap.size, off := (0 : Nat) } =
 false ∧
 (Known
 w86
 [(w.heap.size,
 [((0 :
 Nat),
 Value.string
 s88),
 ((1 :
 Nat),
 Value.int
 IntKind.i64
 i89),
 ((2 :
 Nat),
 Value.int
 IntKind.i64
 i90),
 ((3 :
 Nat),
 Value.string
 s91),
 ((4 :
 Nat),
 Value.int
 IntKind.i64
 i92),
 ((5 :
 Nat),
 Value.int
 IntKind.i64
 i93),
 ((6 :
 Nat),
 Value.int
 IntKind.i64
 i94),
 ((7 :
 Nat),
 Value.int
 IntKind.i64
 i95),
 ((8 :
 Nat),
 Value.int
 IntKind.u32
 i96),
 ((9 :
 Nat),
 Value.int
 IntKind.i64
 i97),
 ((10 :
 Nat),
 Value.string
 s98)]),
 (w23.heap.size,
 [((0 :
 Nat),
 Value.slice
 q99
 n100
 n101)]),
 (w28.heap.size,
 [((0 :
 Nat),
 Value.slice
 q102
 n103
 n104)]),
 (w37.heap.size,
 [((0 :
 Nat),
 Value.int
 IntKind.i64
 i105)]),
 (((w37.alloc
 (Obj.cells
 #[Value.int
 IntKind.i64
 (0 :
 Int)]
 (3 :
 Nat))).setCell
 { block := w37.heap.size, off := (0 : Nat) }
 (Value.int
 IntKind.i64
 (0 :
 Int))).heap.size,
 [((0 :
 Nat),
 Value.bool
 t106)])] →
 R
 (Ending.returned
 (Value.bool
 t87))
 w86)
 else
 Known
 w43
 [(w.heap.size,
 [((0 :
 Nat),
 Value.string
 s44),
 ((1 :
 Nat),
 Value.int
 IntKind.i64
 i45),
 ((2 :
 Nat),
 Value.int
 IntKind.i64
 i46),
 ((3 :
 Nat),
 Value.string
 s47),
 ((4 :
 Nat),
 Value.int
 IntKind.i64
 i48),
 ((5 :
 Nat),
 Value.int
 IntKind.i64
 i49),
 ((6 :
 Nat),
 Value.int
 IntKind.i64
 i50),
 ((7 :
 Nat),
 Value.int
 IntKind.i64
 i51),
 ((8 :
 Nat),
 Value.int
 IntKind.u32
 i52),
 ((9 :
 Nat),
 Value.int
 IntKind.i64
 i53),
 ((10 :
 Nat),
 Value.string
 s54)]),
 (w23.heap.size,
 [((0 :
 Nat),
 Value.slice
 q55
 n56
 n57)]),
 (w28.heap.size,
 [((0 :
 Nat),
 Value.slice
 q58
 n59
 n60)]),
 (w37.heap.size,
 [((0 :
 Nat),
 Value.int
 IntKind.i64
 i61)]),
 (((w37.alloc
 (Obj.cells
 #[Value.int
 IntKind.i64
 (0 :
 Int)]
 (3 :
 Nat))).setCell
 { block := w37.heap.size, off := (0 : Nat) }
 (Value.int
 IntKind.i64
 (0 :
 Int))).heap.size,
 [((0 :
 Nat),
 Value.bool
 t62)])] →
 R
 (Ending.returned
 (Value.bool
 false))
 w43
 else
 Known
 w43
 [(w.heap.size,
 [((0 :
 Nat),
 Value.string
 s44),
 ((1 :
 Nat),
 Value.int
 IntKind.i64
 i45),
 ((2 :
 Nat),
 Value.int
 IntKind.i64
 i46),
 ((3 :
 Nat),
 Value.string
 s47),
 ((4 :
 Nat),
 Value.int
 IntKind.i64
 i48),
 ((5 :
 Nat),
 Value.int
 IntKind.i64
 i49),
 ((6 :
 Nat),
 Value.int
 IntKind.i64
 i50),
 ((7 :
 Nat),
 Value.int
 IntKind.i64
 i51),
 ((8 :
 Nat),
 Value.int
 IntKind.u32
 i52),
 ((9 :
 Nat),
 Value.int
 IntKind.i64
 i53),
 ((10 :
 Nat),
 Value.string
 s54)]),
 (w23.heap.size,
 [((0 :
 Nat),
 Value.slice
 q55
 n56
 n57)]),
 (w28.heap.size,
 [((0 :
 Nat),
 Value.slice
 q58
 n59
 n60)]),
 (w37.heap.size,
 [((0 :
 Nat),
 Value.int
 IntKind.i64
 i61)]),
 (((w37.alloc
 (Obj.cells
 #[Value.int
 IntKind.i64
 (0 :
 Int)]
 (3 :
 Nat))).setCell
 { block := w37.heap.size, off := (0 : Nat) }
 (Value.int
 IntKind.i64
 (0 :
 Int))).heap.size,
 [((0 :
 Nat),
 Value.bool
 t62)])] →
 R
 (Ending.returned
 (Value.bool
 false))
 w43
 else
 bif
 t62 then
 bif
 i61 ==
 (↑n56 :
 Int) then
 Known
 w43
 [(w.heap.size,
 [((0 :
 Nat),
 Value.string
 s44),
 ((1 :
 Nat),
 Value.int
 IntKind.i64
 i45),
 ((2 :
 Nat),
 Value.int
 IntKind.i64
 i46),
 ((3 :
 Nat),
 Value.string
 s47),
 ((4 :
 Nat),
 Value.int
 IntKind.i64
 i48),
 ((5 :
 Nat),
 Value.int
 IntKind.i64
 i49),
 ((6 :
 Nat),
 Value.int
 IntKind.i64
 i50),
 ((7 :
 Nat),
 Value.int
 IntKind.i64
 i51),
 ((8 :
 Nat),
 Value.int
 IntKind.u32
 i52),
 ((9 :
 Nat),
 Value.int
 IntKind.i64
 i53),
 ((10 :
 Nat),
 Value.string
 s54)]),
 (w23.heap.size,
 [((0 :
 Nat),
 Value.slice
 q55
 n56
 n57)]),
 (w28.heap.size,
 [((0 :
 Nat),
 Value.slice
 q58
 n59
 n60)]),
 (w37.heap.size,
 [((0 :
 Nat),
 Value.int
 IntKind.i64
 i61)]),
 (((w37.alloc
 (Obj.cells
 #[Value.int
 IntKind.i64
 (0 :
 Int)]
 (3 :
 Nat))).setCell
 { block := w37.heap.size, off := (0 : Nat) }
 (Value.int
 IntKind.i64
 (0 :
 Int))).heap.size,
 [((0 :
 Nat),
 Value.bool
 t62)])] →
 Rets
 Tryd.prog
 (66 :
 Nat)
 #[]
 w43
 fun
 (v107 :
 Value)
 (w108 :
 World) =>
 ∃
 (t109
 :
 Bool),
 v107 =
 Value.bool
 t109 ∧
 Keeps
 w43
 w108
 [] ∧
 ∃
 (s110
 :
 ByteArray),
 w108.cell?
 { block := w.heap.size, off := (0 : Nat) } =
 some
 (Value.string
 s110) ∧
 w108.frozen?
 { block := w.heap.size, off := (0 : Nat) } =
 false ∧
 ∃
 (i111
 :
 Int),
 w108.cell?
 { block := w.heap.size, off := (1 : Nat) } =
 some
 (Value.int
 IntKind.i64
 i111) ∧
 w108.frozen?
 { block := w.heap.size, off := (1 : Nat) } =
 false ∧
 ∃
 (i112
 :
 Int),
 w108.cell?
 { block := w.heap.size, off := (2 : Nat) } =
 some
 (Value.int
 IntKind.i64
 i112) ∧
 w108.frozen?
 { block := w.heap.size, off := (2 : Nat) } =
 false ∧
 ∃
 (s113
 :
 ByteArray),
 w108.cell?
 { block := w.heap.size, off := (3 : Nat) } =
 some
 (Value.string
 s113) ∧
 w108.frozen?
 { block := w.heap.size, off := (3 : Nat) } =
 false ∧
 ∃
 (i114
 :
 Int),
 w108.cell?
 { block := w.heap.size, off := (4 : Nat) } =
 some
 (Value.int
 IntKind.i64
 i114) ∧
 w108.frozen?
 { block := w.heap.size, off := (4 : Nat) } =
 false ∧
 ∃
 (i115
 :
 Int),
 w108.cell?
 { block := w.heap.size, off := (5 : Nat) } =
 some
 (Value.int
 IntKind.i64
 i115) ∧
 w108.frozen?
 { block := w.heap.size, off := (5 : Nat) } =
 false ∧
 ∃
 (i116
 :
 Int),
 w108.cell?
 { block := w.heap.size, off := (6 : Nat) } =
 some
 (Value.int
 IntKind.i64
 i116) ∧
 w108.frozen?
 { block := w.heap.size, off := (6 : Nat) } =
 false ∧
 ∃
 (i117
 :
 Int),
 w108.cell?
 { block := w.heap.size, off := (7 : Nat) } =
 some
 (Value.int
 IntKind.i64
 i117) ∧
 w108.frozen?
 { block := w.heap.size, off := (7 : Nat) } =
 false ∧
 ∃
 (i118
 :
 Int),
 w108.cell?
 { block := w.heap.size, off := (8 : Nat) } =
 some
 (Value.int
 IntKind.u32
 i118) ∧
 w108.frozen?
 { block := w.heap.size, off := (8 : Nat) } =
 false ∧
 ∃
 (i119
 :
 Int),
 w108.cell?
 { block := w.heap.size, off := (9 : Nat) } =
 some
 (Value.int
 IntKind.i64
 i119) ∧
 w108.frozen?
 { block := w.heap.size, off := (9 : Nat) } =
 false ∧
 ∃
 (s120
 :
 ByteArray),
 w108.cell?
 { block := w.heap.size, off := (10 : Nat) } =
 some
 (Value.string
 s120) ∧
 w108.frozen?
 { block := w.heap.size, off := (10 : Nat) } =
 false ∧
 ∃
 (q121
 :
 Option
 Addr),
 ∃
 (n122
 :
 Nat),
 ∃
 (n123
 :
 Nat),
 w108.cell?
 { block := w23.heap.size, off := (0 : Nat) } =
 some
 (Value.slice
 q121
 n122
 n123) ∧
 w108.frozen?
 { block := w23.heap.size, off := (0 : Nat) } =
 false ∧
 ∃
 (q124
 :
 Option
 Addr),
 ∃
 (n125
 :
 Nat),
 ∃
 (n126
 :
 Nat),
 w108.cell?
 { block := w28.heap.size, off := (0 : Nat) } =
 some
 (Value.slice
 q124
 n125
 n126) ∧
 w108.frozen?
 { block := w28.heap.size, off := (0 : Nat) } =
 false ∧
 ∃
 (i127
 :
 Int),
 w108.cell?
 { block := w37.heap.size, off := (0 : Nat) } =
 some
 (Value.int
 IntKind.i64
 i127) ∧
 w108.frozen?
 { block := w37.heap.size, off := (0 : Nat) } =
 false ∧
 ∃
 (t128
 :
 Bool),
 w108.cell?
 { block := ((w37.alloc (Obj.cells #[Value.int IntKind.i64 (0 : Int)] (3 : Nat))).setCell { block := w37.heap.size, off := (0 : Nat) } (Value.int IntKind.i64 (0 : Int))).heap.size, off := (0 : Nat) } =
 some
 (Value.bool
 t128) ∧
 w108.frozen?
 { block := ((w37.alloc (Obj.cells #[Value.int IntKind.i64 (0 : Int)] (3 : Nat))).setCell { block := w37.heap.size, off := (0 : Nat) } (Value.int IntKind.i64 (0 : Int))).heap.size, off := (0 : Nat) } =
 false ∧
 (Known
 w108
 [(w.heap.size,
 [((0 :
 Nat),
 Value.string
 s110),
 ((1 :
 Nat),
 Value.int
 IntKind.i64
 i111),
 ((2 :
 Nat),
 Value.int
 IntKind.i64
 i112),
 ((3 :
 Nat),
 Value.string
 s113),
 ((4 :
 Nat),
 Value.int
 IntKind.i64
 i114),
 ((5 :
 Nat),
 Value.int
 IntKind.i64
 i115),
 ((6 :
 Nat),
 Value.int
 IntKind.i64
 i116),
 ((7 :
 Nat),
 Value.int
 IntKind.i64
 i117),
 ((8 :
 Nat),
 Value.int
 IntKind.u32
 i118),
 ((9 :
 Nat),
 Value.int
 IntKind.i64
 i119),
 ((10 :
 Nat),
 Value.string
 s120)]),
 (w23.heap.size,
 [((0 :
 Nat),
 Value.slice
 q121
 n122
 n123)]),
 (w28.heap.size,
 [((0 :
 Nat),
 Value.slice
 q124
 n125
 n126)]),
 (w37.heap.size,
 [((0 :
 Nat),
 Value.int
 IntKind.i64
 i127)]),
 (((w37.alloc
 (Obj.cells
 #[Value.int
 IntKind.i64
 (0 :
 Int)]
 (3 :
 Nat))).setCell
 { block := w37.heap.size, off := (0 : Nat) }
 (Value.int
 IntKind.i64
 (0 :
 Int))).heap.size,
 [((0 :
 Nat),
 Value.bool
 t128)])] →
 R
 (Ending.returned
 (Value.bool
 t109))
 w108)
 else
 Known
 w43
 [(w.heap.size,
 [((0 :
 Nat),
 Value.string
 s44),
 ((1 :
 Nat),
 Value.int
 IntKind.i64
 i45),
 ((2 :
 Nat),
 Value.int
 IntKind.i64
 i46),
 ((3 :
 Nat),
 Value.string
 s47),
 ((4 :
 Nat),
 Value.int
 IntKind.i64
 i48),
 ((5 :
 Nat),
 Value.int
 IntKind.i64
 i49),
 ((6 :
 Nat),
 Value.int
 IntKind.i64
 i50),
 ((7 :
 Nat),
 Value.int
 IntKind.i64
 i51),
 ((8 :
 Nat),
 Value.int
 IntKind.u32
 i52),
 ((9 :
 Nat),
 Value.int
 IntKind.i64
 i53),
 ((10 :
 Nat),
 Value.string
 s54)]),
 (w23.heap.size,
 [((0 :
 Nat),
 Value.slice
 q55
 n56
 n57)]),
 (w28.heap.size,
 [((0 :
 Nat),
 Value.slice
 q58
 n59
 n60)]),
 (w37.heap.size,
 [((0 :
 Nat),
 Value.int
 IntKind.i64
 i61)]),
 (((w37.alloc
 (Obj.cells
 #[Value.int
 IntKind.i64
 (0 :
 Int)]
 (3 :
 Nat))).setCell
 { block := w37.heap.size, off := (0 : Nat) }
 (Value.int
 IntKind.i64
 (0 :
 Int))).heap.size,
 [((0 :
 Nat),
 Value.bool
 t62)])] →
 R
 (Ending.returned
 (Value.bool
 false))
 w43
 else
 Known
 w43
 [(w.heap.size,
 [((0 :
 Nat),
 Value.string
 s44),
 ((1 :
 Nat),
 Value.int
 IntKind.i64
 i45),
 ((2 :
 Nat),
 Value.int
 IntKind.i64
 i46),
 ((3 :
 Nat),
 Value.string
 s47),
 ((4 :
 Nat),
 Value.int
 IntKind.i64
 i48),
 ((5 :
 Nat),
 Value.int
 IntKind.i64
 i49),
 ((6 :
 Nat),
 Value.int
 IntKind.i64
 i50),
 ((7 :
 Nat),
 Value.int
 IntKind.i64
 i51),
 ((8 :
 Nat),
 Value.int
 IntKind.u32
 i52),
 ((9 :
 Nat),
 Value.int
 IntKind.i64
 i53),
 ((10 :
 Nat),
 Value.string
 s54)]),
 (w23.heap.size,
 [((0 :
 Nat),
 Value.slice
 q55
 n56
 n57)]),
 (w28.heap.size,
 [((0 :
 Nat),
 Value.slice
 q58
 n59
 n60)]),
 (w37.heap.size,
 [((0 :
 Nat),
 Value.int
 IntKind.i64
 i61)]),
 (((w37.alloc
 (Obj.cells
 #[Value.int
 IntKind.i64
 (0 :
 Int)]
 (3 :
 Nat))).setCell
 { block := w37.heap.size, off := (0 : Nat) }
 (Value.int
 IntKind.i64
 (0 :
 Int))).heap.size,
 [((0 :
 Nat),
 Value.bool
 t62)])] →
 R
 (Ending.returned
 (Value.bool
 false))
 w43))
theorem vcTryd18 (q : Option Addr) (n c : Nat) (fo : ByteArray) (ti : Int) (k : Int) (s : ByteArray) (a f r z u m : Int) (t : ByteArray) (w : World) (R : Ending → World → Prop) : SX.vcFn Tryd.prog [] Tryd.f18 [.v (.slice q n c), .v (.agg #[.string fo, .int .i64 ti, .int .i64 k, .string s, .int .i64 a, .int .i64 f, .int .i64 r, .int .i64 z, .int .u32 u, .int .i64 m, .string t])] [] w R = VCTryd18 q n c fo ti k s a f r z u m t w R := by kernel_rfl
def VCTryd79 (s : ByteArray) (a f r z u m : Int) (p1 p2 p3 p4 p5 : Option Addr) (w : World) (R : Ending → World → Prop) : Prop :=
SX.Ptr p1 fun (a0 : Addr) =>
 ∃ (t1 : Bool),
  (w.alloc (Obj.cells #[Value.string s, Value.int IntKind.i64 a, Value.int IntKind.i64 f, Value.int IntKind.i64 r, Value.int IntKind.i64 z, Value.int IntKind.u32 u, Value.int IntKind.i64 m] (50 : Nat))).drew.cell? a0 =
    some (Value.bool t1) ∧
   bif t1 then
    SX.Ptr p2 fun (a2 : Addr) =>
     ∃ (i3 : Int),
      (w.alloc
            (Obj.cells #[Value.string s, Value.int IntKind.i64 a, Value.int IntKind.i64 f, Value.int IntKind.i64 r, Value.int IntKind.i64 z, Value.int IntKind.u32 u, Value.int IntKind.i64 m]
             (50 : Nat))).drew.cell?
         a2 =
        some (Value.int IntKind.i64 i3) ∧
       SX.Ptr p3 fun (a4 : Addr) =>
        ∃ (q5 : Option Addr),
         ∃ (n6 : Nat),
          ∃ (n7 : Nat),
           (w.alloc
                 (Obj.cells #[Value.string s, Value.int IntKind.i64 a, Value.int IntKind.i64 f, Value.int IntKind.i64 r, Value.int IntKind.i64 z, Value.int IntKind.u32 u, Value.int IntKind.i64 m]
                  (50 : Nat))).drew.cell?
              a4 =
             some (Value.slice q5 n6 n7) ∧
            bif decide (i3 < (↑n6 : Int)) then
             SX.Ptr p3 fun (a8 : Addr) =>
              ∃ (q9 : Option Addr),
               ∃ (n10 : Nat),
                ∃ (n11 : Nat),
                 (w.alloc
                       (Obj.cells
                        #[Value.string s, Value.int IntKind.i64 a, Value.int IntKind.i64 f, Value.int IntKind.i64 r, Value.int IntKind.i64 z, Value.int IntKind.u32 u, Value.int IntKind.i64 m]
                        (50 : Nat))).drew.cell?
                    a8 =
                   some (Value.slice q9 n10 n11) ∧
                  SX.Ptr p2 fun (a12 : Addr) =>
                   ∃ (i13 : Int),
                    (w.alloc
                          (Obj.cells
                           #[Value.string s, Value.int IntKind.i64 a, Value.int IntKind.i64 f, Value.int IntKind.i64 r, Value.int IntKind.i64 z, Value.int IntKind.u32 u,
                            Value.int IntKind.i64 m]
                           (50 : Nat))).drew.cell?
                       a12 =
                      some (Value.int IntKind.i64 i13) ∧
                     ((0 : Int) ≤ i13 ∧ i13 < (↑n10 : Int)) ∧
                      SX.Ptr q9 fun (a14 : Addr) =>
                       ∃ (s15 : ByteArray),
                        ∃ (i16 : Int),
                         ∃ (i17 : Int),
                          ∃ (i18 : Int),
                           ∃ (i19 : Int),
                            ∃ (i20 : Int),
                             ∃ (i21 : Int),
                              ((w.alloc
                                     (Obj.cells
                                      #[Value.string s, Value.int IntKind.i64 a, Value.int IntKind.i64 f, Value.int IntKind.i64 r, Value.int IntKind.i64 z, Value.int IntKind.u32 u,
                                       Value.int IntKind.i64 m]
                                      (50 : Nat))).drew.cell?
                                  ((a14.add (i13.toNat * (7 : Nat))).add (0 : Nat)) =
                                 some (Value.string s15) ∧
                                (w.alloc
                                      (Obj.cells
                                       #[Value.string s, Value.int IntKind.i64 a, Value.int IntKind.i64 f, Value.int IntKind.i64 r, Value.int IntKind.i64 z, Value.int IntKind.u32 u,
                                        Value.int IntKind.i64 m]
                                       (50 : Nat))).drew.cell?
                                   ((a14.add (i13.toNat * (7 : Nat))).add (1 : Nat)) =
                                  some (Value.int IntKind.i64 i16) ∧
                                 (w.alloc
                                       (Obj.cells
                                        #[Value.string s, Value.int IntKind.i64 a, Value.int IntKind.i64 f, Value.int IntKind.i64 r, Value.int IntKind.i64 z,
                                         Value.int IntKind.u32 u, Value.int IntKind.i64 m]
                                        (50 : Nat))).drew.cell?
                                    ((a14.add (i13.toNat * (7 : Nat))).add (2 : Nat)) =
                                   some (Value.int IntKind.i64 i17) ∧
                                  (w.alloc
                                        (Obj.cells
                                         #[Value.string s, Value.int IntKind.i64 a, Value.int IntKind.i64 f, Value.int IntKind.i64 r, Value.int IntKind.i64 z,
                                          Value.int IntKind.u32 u, Value.int IntKind.i64 m]
                                         (50 : Nat))).drew.cell?
                                     ((a14.add (i13.toNat * (7 : Nat))).add (3 : Nat)) =
                                    some (Value.int IntKind.i64 i18) ∧
                                   (w.alloc
                                         (Obj.cells
                                          #[Value.string s, Value.int IntKind.i64 a, Value.int IntKind.i64 f, Value.int IntKind.i64 r, Value.int IntKind.i64 z,
                                           Value.int IntKind.u32 u, Value.int IntKind.i64 m]
                                          (50 : Nat))).drew.cell?
                                      ((a14.add (i13.toNat * (7 : Nat))).add (4 : Nat)) =
                                     some (Value.int IntKind.i64 i19) ∧
                                    (w.alloc
                                          (Obj.cells
                                           #[Value.string s, Value.int IntKind.i64 a, Value.int IntKind.i64 f, Value.int IntKind.i64 r, Value.int IntKind.i64 z,
                                            Value.int IntKind.u32 u, Value.int IntKind.i64 m]
                                           (50 : Nat))).drew.cell?
                                       ((a14.add (i13.toNat * (7 : Nat))).add (5 : Nat)) =
                                      some (Value.int IntKind.u32 i20) ∧
                                     (w.alloc
                                           (Obj.cells
                                            #[Value.string s, Value.int IntKind.i64 a, Value.int IntKind.i64 f, Value.int IntKind.i64 r, Value.int IntKind.i64 z,
                                             Value.int IntKind.u32 u, Value.int IntKind.i64 m]
                                            (50 : Nat))).drew.cell?
                                        ((a14.add (i13.toNat * (7 : Nat))).add (6 : Nat)) =
                                       some (Value.int IntKind.i64 i21) ∧
                                      True) ∧
                               true = true ∧
                                bif s.toList == s15.toList && (a == i16 && (f == i17 && (r == i18 && (z == i19 && (u == i20 && m == i21))))) then
                                 SX.Ptr p4 fun (a22 : Addr) =>
                                  ∃ (q23 : Option Addr),
                                   ∃ (n24 : Nat),
                                    ∃ (n25 : Nat),
                                     (w.alloc
                                           (Obj.cells
                                            #[Value.string s, Value.int IntKind.i64 a, Value.int IntKind.i64 f, Value.int IntKind.i64 r, Value.int IntKind.i64 z,
                                             Value.int IntKind.u32 u, Value.int IntKind.i64 m]
                                            (50 : Nat))).drew.cell?
                                        a22 =
                                       some (Value.slice q23 n24 n25) ∧
                                      SX.Ptr p2 fun (a26 : Addr) =>
                                       ∃ (i27 : Int),
                                        (w.alloc
                                              (Obj.cells
                                               #[Value.string s, Value.int IntKind.i64 a, Value.int IntKind.i64 f, Value.int IntKind.i64 r, Value.int IntKind.i64 z,
                                                Value.int IntKind.u32 u, Value.int IntKind.i64 m]
                                               (50 : Nat))).drew.cell?
                                           a26 =
                                          some (Value.int IntKind.i64 i27) ∧
                                         ((0 : Int) ≤ i27 ∧ i27 < (↑n24 : Int)) ∧
                                          SX.Ptr q23 fun (a28 : Addr) =>
                                           ∃ (s29 : ByteArray),
                                            (w.alloc
                                                  (Obj.cells
                                                   #[Value.string s, Value.int IntKind.i64 a, Value.int IntKind.i64 f, Value.int IntKind.i64 r, Value.int IntKind.i64 z,
                                                    Value.int IntKind.u32 u, Value.int IntKind.i64 m]
                                                   (50 : Nat))).drew.cell?
                                               (a28.add (i27.toNat * (1 : Nat))) =
                                              some (Value.string s29) ∧
                                             SX.Ptr p1 fun (a30 : Addr) =>
                                              (∃ (v31 : Value),
                                                (w.alloc
                                                     (Obj.cells
                                                      #[Value.string s, Value.int IntKind.i64 a, Value.int IntKind.i64 f, Value.int IntKind.i64 r,
                                                       Value.int IntKind.i64 z, Value.int IntKind.u32 u, Value.int IntKind.i64 m]
                                                      (50 : Nat))).drew.cell?
                                                  (a30.add (0 : Nat)) =
                                                 some v31) ∧
                                               (w.alloc
                                                     (Obj.cells
                                                      #[Value.string s, Value.int IntKind.i64 a, Value.int IntKind.i64 f, Value.int IntKind.i64 r,
                                                       Value.int IntKind.i64 z, Value.int IntKind.u32 u, Value.int IntKind.i64 m]
                                                      (50 : Nat))).drew.frozen?
                                                  (a30.add (0 : Nat)) =
                                                 false ∧
                                                Apart (a30.add (0 : Nat)) w.heap.size [(0 : Nat), (1 : Nat), (2 : Nat), (3 : Nat), (4 : Nat), (5 : Nat), (6 : Nat)] ∧
                                                 SX.Ptr p2 fun (a32 : Addr) =>
                                                  ∃ (i33 : Int),
                                                   ((w.alloc
                                                           (Obj.cells
                                                            #[Value.string s, Value.int IntKind.i64 a, Value.int IntKind.i64 f, Value.int IntKind.i64 r,
                                                             Value.int IntKind.i64 z, Value.int IntKind.u32 u, Value.int IntKind.i64 m]
                                                            (50 : Nat))).drew.setCell
                                                        (a30.add (0 : Nat)) (Value.bool (s29.toList == s.toList))).cell?
                                                      a32 =
                                                     some (Value.int IntKind.i64 i33) ∧
                                                    Wr IntKind.i64 (i33 + (1 : Int)) fun (i34 : Int) =>
                                                     SX.Ptr p2 fun (a35 : Addr) =>
                                                      (∃ (v36 : Value),
                                                        ((w.alloc
                                                               (Obj.cells
                                                                #[Value.string s, Value.int IntKind.i64 a, Value.int IntKind.i64 f, Value.int IntKind.i64 r,
                                                                 Value.int IntKind.i64 z, Value.int IntKind.u32 u, Value.int IntKind.i64 m]
                                                                (50 : Nat))).drew.setCell
                                                            (a30.add (0 : Nat)) (Value.bool (s29.toList == s.toList))).cell?
                                                          (a35.add (0 : Nat)) =
                                                         some v36) ∧
                                                       ((w.alloc
                                                               (Obj.cells
                                                                #[Value.string s, Value.int IntKind.i64 a, Value.int IntKind.i64 f, Value.int IntKind.i64 r,
                                                                 Value.int IntKind.i64 z, Value.int IntKind.u32 u, Value.int IntKind.i64 m]
                                                                (50 : Nat))).drew.setCell
                                                            (a30.add (0 : Nat)) (Value.bool (s29.toList == s.toList))).frozen?
                                                          (a35.add (0 : Nat)) =
                                                         false ∧
                                                        Apart (a35.add (0 : Nat)) w.heap.size
                                                          [(0 : Nat), (1 : Nat), (2 : Nat), (3 : Nat), (4 : Nat), (5 : Nat), (6 : Nat)] ∧
                                                         SX.Ptr p2 fun (a37 : Addr) =>
                                                          ∃ (i38 : Int),
                                                           (((w.alloc
                                                                     (Obj.cells
                                                                      #[Value.string s, Value.int IntKind.i64 a, Value.int IntKind.i64 f,
                                                                       Value.int IntKind.i64 r, Value.int IntKind.i64 z, Value.int IntKind.u32 u,
                                                                       Value.int IntKind.i64 m]
                                                                      (50 : Nat))).drew.setCell
                                                                  (a30.add (0 : Nat)) (Value.bool (s29.toList == s.toList))).setCell
                                                                (a35.add (0 : Nat)) (Value.int IntKind.i64 i34)).cell?
                                                              a37 =
                                                             some (Value.int IntKind.i64 i38) ∧
                                                            SX.Ptr p5 fun (a39 : Addr) =>
                                                             ∃ (i40 : Int),
                                                              (((w.alloc
                                                                        (Obj.cells
                                                                         #[Value.string s, Value.int IntKind.i64 a, Value.int IntKind.i64 f,
                                                                          Value.int IntKind.i64 r, Value.int IntKind.i64 z,
                                                                          Value.int IntKind.u32 u, Value.int IntKind.i64 m]
                                                                         (50 : Nat))).drew.setCell
                                                                     (a30.add (0 : Nat)) (Value.bool (s29.toList == s.toList))).setCell
                                                                   (a35.add (0 : Nat)) (Value.int IntKind.i64 i34)).cell?
                                                                 (a39.add (1 : Nat)) =
                                                                some (Value.int IntKind.i64 i40) ∧
                                                               (Known
                                                                 (((w.alloc
                                                                       (Obj.cells
                                                                        #[Value.string s, Value.int IntKind.i64 a, Value.int IntKind.i64 f,
                                                                         Value.int IntKind.i64 r, Value.int IntKind.i64 z, Value.int IntKind.u32 u,
                                                                         Value.int IntKind.i64 m]
                                                                        (50 : Nat))).drew.setCell
                                                                    (a30.add (0 : Nat)) (Value.bool (s29.toList == s.toList))).setCell
                                                                  (a35.add (0 : Nat)) (Value.int IntKind.i64 i34))
                                                                 [(w.heap.size,
                                                                   [((0 : Nat), Value.string s), ((1 : Nat), Value.int IntKind.i64 a),
                                                                    ((2 : Nat), Value.int IntKind.i64 f), ((3 : Nat), Value.int IntKind.i64 r),
                                                                    ((4 : Nat), Value.int IntKind.i64 z), ((5 : Nat), Value.int IntKind.u32 u),
                                                                    ((6 : Nat), Value.int IntKind.i64 m)])] →
                                                                R (Ending.returned (Value.bool (i38 != i40)))
                                                                 (((w.alloc
                                                                       (Obj.cells
                                                                        #[Value.string s, Value.int IntKind.i64 a, Value.int IntKind.i64 f,
                                                                         Value.int IntKind.i64 r, Value.int IntKind.i64 z, Value.int IntKind.u32 u,
                                                                         Value.int IntKind.i64 m]
                                                                        (50 : Nat))).drew.setCell
                                                                    (a30.add (0 : Nat)) (Value.bool (s29.toList == s.toList))).setCell
                                                                  (a35.add (0 : Nat)) (Value.int IntKind.i64 i34)))
                                else
                                 SX.Ptr p1 fun (a41 : Addr) =>
                                  (∃ (v42 : Value),
                                    (w.alloc
                                         (Obj.cells
                                          #[Value.string s, Value.int IntKind.i64 a, Value.int IntKind.i64 f, Value.int IntKind.i64 r, Value.int IntKind.i64 z,
                                           Value.int IntKind.u32 u, Value.int IntKind.i64 m]
                                          (50 : Nat))).drew.cell?
                                      (a41.add (0 : Nat)) =
                                     some v42) ∧
                                   (w.alloc
                                         (Obj.cells
                                          #[Value.string s, Value.int IntKind.i64 a, Value.int IntKind.i64 f, Value.int IntKind.i64 r, Value.int IntKind.i64 z,
                                           Value.int IntKind.u32 u, Value.int IntKind.i64 m]
                                          (50 : Nat))).drew.frozen?
                                      (a41.add (0 : Nat)) =
                                     false ∧
                                    Apart (a41.add (0 : Nat)) w.heap.size [(0 : Nat), (1 : Nat), (2 : Nat), (3 : Nat), (4 : Nat), (5 : Nat), (6 : Nat)] ∧
                                     SX.Ptr p2 fun (a43 : Addr) =>
                                      ∃ (i44 : Int),
                                       ((w.alloc
                                               (Obj.cells
                                                #[Value.string s, Value.int IntKind.i64 a, Value.int IntKind.i64 f, Value.int IntKind.i64 r, Value.int IntKind.i64 z,
                                                 Value.int IntKind.u32 u, Value.int IntKind.i64 m]
                                                (50 : Nat))).drew.setCell
                                            (a41.add (0 : Nat)) (Value.bool false)).cell?
                                          a43 =
                                         some (Value.int IntKind.i64 i44) ∧
                                        Wr IntKind.i64 (i44 + (1 : Int)) fun (i45 : Int) =>
                                         SX.Ptr p2 fun (a46 : Addr) =>
                                          (∃ (v47 : Value),
                                            ((w.alloc
                                                   (Obj.cells
                                                    #[Value.string s, Value.int IntKind.i64 a, Value.int IntKind.i64 f, Value.int IntKind.i64 r,
                                                     Value.int IntKind.i64 z, Value.int IntKind.u32 u, Value.int IntKind.i64 m]
                                                    (50 : Nat))).drew.setCell
                                                (a41.add (0 : Nat)) (Value.bool false)).cell?
                                              (a46.add (0 : Nat)) =
                                             some v47) ∧
                                           ((w.alloc
                                                   (Obj.cells
                                                    #[Value.string s, Value.int IntKind.i64 a, Value.int IntKind.i64 f, Value.int IntKind.i64 r,
                                                     Value.int IntKind.i64 z, Value.int IntKind.u32 u, Value.int IntKind.i64 m]
                                                    (50 : Nat))).drew.setCell
                                                (a41.add (0 : Nat)) (Value.bool false)).frozen?
                                              (a46.add (0 : Nat)) =
                                             false ∧
                                            Apart (a46.add (0 : Nat)) w.heap.size [(0 : Nat), (1 : Nat), (2 : Nat), (3 : Nat), (4 : Nat), (5 : Nat), (6 : Nat)] ∧
                                             SX.Ptr p2 fun (a48 : Addr) =>
                                              ∃ (i49 : Int),
                                               (((w.alloc
                                                         (Obj.cells
                                                          #[Value.string s, Value.int IntKind.i64 a, Value.int IntKind.i64 f, Value.int IntKind.i64 r,
                                                           Value.int IntKind.i64 z, Value.int IntKind.u32 u, Value.int IntKind.i64 m]
                                                          (50 : Nat))).drew.setCell
                                                      (a41.add (0 : Nat)) (Value.bool false)).setCell
                                                    (a46.add (0 : Nat)) (Value.int IntKind.i64 i45)).cell?
                                                  a48 =
                                                 some (Value.int IntKind.i64 i49) ∧
                                                SX.Ptr p5 fun (a50 : Addr) =>
                                                 ∃ (i51 : Int),
                                                  (((w.alloc
                                                            (Obj.cells
                                                             #[Value.string s, Value.int IntKind.i64 a, Value.int IntKind.i64 f, Value.int IntKind.i64 r,
                                                              Value.int IntKind.i64 z, Value.int IntKind.u32 u, Value.int IntKind.i64 m]
                                                             (50 : Nat))).drew.setCell
                                                         (a41.add (0 : Nat)) (Value.bool false)).setCell
                                                       (a46.add (0 : Nat)) (Value.int IntKind.i64 i45)).cell?
                                                     (a50.add (1 : Nat)) =
                                                    some (Value.int IntKind.i64 i51) ∧
                                                   (Known
                                                     (((w.alloc
                                                           (Obj.cells
                                                            #[Value.string s, Value.int IntKind.i64 a, Value.int IntKind.i64 f, Value.int IntKind.i64 r,
                                                             Value.int IntKind.i64 z, Value.int IntKind.u32 u, Value.int IntKind.i64 m]
                                                            (50 : Nat))).drew.setCell
                                                        (a41.add (0 : Nat)) (Value.bool false)).setCell
                                                      (a46.add (0 : Nat)) (Value.int IntKind.i64 i45))
                                                     [(w.heap.size,
                                                       [((0 : Nat), Value.string s), ((1 : Nat), Value.int IntKind.i64 a), ((2 : Nat), Value.int IntKind.i64 f),
                                                        ((3 : Nat), Value.int IntKind.i64 r), ((4 : Nat), Value.int IntKind.i64 z),
                                                        ((5 : Nat), Value.int IntKind.u32 u), ((6 : Nat), Value.int IntKind.i64 m)])] →
                                                    R (Ending.returned (Value.bool (i49 != i51)))
                                                     (((w.alloc
                                                           (Obj.cells
                                                            #[Value.string s, Value.int IntKind.i64 a, Value.int IntKind.i64 f, Value.int IntKind.i64 r,
                                                             Value.int IntKind.i64 z, Value.int IntKind.u32 u, Value.int IntKind.i64 m]
                                                            (50 : Nat))).drew.setCell
                                                        (a41.add (0 : Nat)) (Value.bool false)).setCell
                                                      (a46.add (0 : Nat)) (Value.int IntKind.i64 i45)))
            else
             SX.Ptr p1 fun (a52 : Addr) =>
              (∃ (v53 : Value),
                (w.alloc
                     (Obj.cells #[Value.string s, Value.int IntKind.i64 a, Value.int IntKind.i64 f, Value.int IntKind.i64 r, Value.int IntKind.i64 z, Value.int IntKind.u32 u, Value.int IntKind.i64 m]
                      (50 : Nat))).drew.cell?
                  (a52.add (0 : Nat)) =
                 some v53) ∧
               (w.alloc
                     (Obj.cells #[Value.string s, Value.int IntKind.i64 a, Value.int IntKind.i64 f, Value.int IntKind.i64 r, Value.int IntKind.i64 z, Value.int IntKind.u32 u, Value.int IntKind.i64 m]
                      (50 : Nat))).drew.frozen?
                  (a52.add (0 : Nat)) =
                 false ∧
                Apart (a52.add (0 : Nat)) w.heap.size [(0 : Nat), (1 : Nat), (2 : Nat), (3 : Nat), (4 : Nat), (5 : Nat), (6 : Nat)] ∧
                 SX.Ptr p2 fun (a54 : Addr) =>
                  ∃ (i55 : Int),
                   ((w.alloc
                           (Obj.cells
                            #[Value.string s, Value.int IntKind.i64 a, Value.int IntKind.i64 f, Value.int IntKind.i64 r, Value.int IntKind.i64 z, Value.int IntKind.u32 u,
                             Value.int IntKind.i64 m]
                            (50 : Nat))).drew.setCell
                        (a52.add (0 : Nat)) (Value.bool false)).cell?
                      a54 =
                     some (Value.int IntKind.i64 i55) ∧
                    Wr IntKind.i64 (i55 + (1 : Int)) fun (i56 : Int) =>
                     SX.Ptr p2 fun (a57 : Addr) =>
                      (∃ (v58 : Value),
                        ((w.alloc
                               (Obj.cells
                                #[Value.string s, Value.int IntKind.i64 a, Value.int IntKind.i64 f, Value.int IntKind.i64 r, Value.int IntKind.i64 z, Value.int IntKind.u32 u,
                                 Value.int IntKind.i64 m]
                                (50 : Nat))).drew.setCell
                            (a52.add (0 : Nat)) (Value.bool false)).cell?
                          (a57.add (0 : Nat)) =
                         some v58) ∧
                       ((w.alloc
                               (Obj.cells
                                #[Value.string s, Value.int IntKind.i64 a, Value.int IntKind.i64 f, Value.int IntKind.i64 r, Value.int IntKind.i64 z, Value.int IntKind.u32 u,
                                 Value.int IntKind.i64 m]
                                (50 : Nat))).drew.setCell
                            (a52.add (0 : Nat)) (Value.bool false)).frozen?
                          (a57.add (0 : Nat)) =
                         false ∧
                        Apart (a57.add (0 : Nat)) w.heap.size [(0 : Nat), (1 : Nat), (2 : Nat), (3 : Nat), (4 : Nat), (5 : Nat), (6 : Nat)] ∧
                         SX.Ptr p2 fun (a59 : Addr) =>
                          ∃ (i60 : Int),
                           (((w.alloc
                                     (Obj.cells
                                      #[Value.string s, Value.int IntKind.i64 a, Value.int IntKind.i64 f, Value.int IntKind.i64 r, Value.int IntKind.i64 z, Value.int IntKind.u32 u,
                                       Value.int IntKind.i64 m]
                                      (50 : Nat))).drew.setCell
                                  (a52.add (0 : Nat)) (Value.bool false)).setCell
                                (a57.add (0 : Nat)) (Value.int IntKind.i64 i56)).cell?
                              a59 =
                             some (Value.int IntKind.i64 i60) ∧
                            SX.Ptr p5 fun (a61 : Addr) =>
                             ∃ (i62 : Int),
                              (((w.alloc
                                        (Obj.cells
                                         #[Value.string s, Value.int IntKind.i64 a, Value.int IntKind.i64 f, Value.int IntKind.i64 r, Value.int IntKind.i64 z,
                                          Value.int IntKind.u32 u, Value.int IntKind.i64 m]
                                         (50 : Nat))).drew.setCell
                                     (a52.add (0 : Nat)) (Value.bool false)).setCell
                                   (a57.add (0 : Nat)) (Value.int IntKind.i64 i56)).cell?
                                 (a61.add (1 : Nat)) =
                                some (Value.int IntKind.i64 i62) ∧
                               (Known
                                 (((w.alloc
                                       (Obj.cells
                                        #[Value.string s, Value.int IntKind.i64 a, Value.int IntKind.i64 f, Value.int IntKind.i64 r, Value.int IntKind.i64 z,
                                         Value.int IntKind.u32 u, Value.int IntKind.i64 m]
                                        (50 : Nat))).drew.setCell
                                    (a52.add (0 : Nat)) (Value.bool false)).setCell
                                  (a57.add (0 : Nat)) (Value.int IntKind.i64 i56))
                                 [(w.heap.size,
                                   [((0 : Nat), Value.string s), ((1 : Nat), Value.int IntKind.i64 a), ((2 : Nat), Value.int IntKind.i64 f), ((3 : Nat), Value.int IntKind.i64 r),
                                    ((4 : Nat), Value.int IntKind.i64 z), ((5 : Nat), Value.int IntKind.u32 u), ((6 : Nat), Value.int IntKind.i64 m)])] →
                                R (Ending.returned (Value.bool (i60 != i62)))
                                 (((w.alloc
                                       (Obj.cells
                                        #[Value.string s, Value.int IntKind.i64 a, Value.int IntKind.i64 f, Value.int IntKind.i64 r, Value.int IntKind.i64 z,
                                         Value.int IntKind.u32 u, Value.int IntKind.i64 m]
                                        (50 : Nat))).drew.setCell
                                    (a52.add (0 : Nat)) (Value.bool false)).setCell
                                  (a57.add (0 : Nat)) (Value.int IntKind.i64 i56)))
   else
    SX.Ptr p1 fun (a63 : Addr) =>
     (∃ (v64 : Value),
       (w.alloc
            (Obj.cells #[Value.string s, Value.int IntKind.i64 a, Value.int IntKind.i64 f, Value.int IntKind.i64 r, Value.int IntKind.i64 z, Value.int IntKind.u32 u, Value.int IntKind.i64 m]
             (50 : Nat))).drew.cell?
         (a63.add (0 : Nat)) =
        some v64) ∧
      (w.alloc
            (Obj.cells #[Value.string s, Value.int IntKind.i64 a, Value.int IntKind.i64 f, Value.int IntKind.i64 r, Value.int IntKind.i64 z, Value.int IntKind.u32 u, Value.int IntKind.i64 m]
             (50 : Nat))).drew.frozen?
         (a63.add (0 : Nat)) =
        false ∧
       Apart (a63.add (0 : Nat)) w.heap.size [(0 : Nat), (1 : Nat), (2 : Nat), (3 : Nat), (4 : Nat), (5 : Nat), (6 : Nat)] ∧
        SX.Ptr p2 fun (a65 : Addr) =>
         ∃ (i66 : Int),
          ((w.alloc
                  (Obj.cells #[Value.string s, Value.int IntKind.i64 a, Value.int IntKind.i64 f, Value.int IntKind.i64 r, Value.int IntKind.i64 z, Value.int IntKind.u32 u, Value.int IntKind.i64 m]
                   (50 : Nat))).drew.setCell
               (a63.add (0 : Nat)) (Value.bool false)).cell?
             a65 =
            some (Value.int IntKind.i64 i66) ∧
           Wr IntKind.i64 (i66 + (1 : Int)) fun (i67 : Int) =>
            SX.Ptr p2 fun (a68 : Addr) =>
             (∃ (v69 : Value),
               ((w.alloc
                      (Obj.cells
                       #[Value.string s, Value.int IntKind.i64 a, Value.int IntKind.i64 f, Value.int IntKind.i64 r, Value.int IntKind.i64 z, Value.int IntKind.u32 u, Value.int IntKind.i64 m]
                       (50 : Nat))).drew.setCell
                   (a63.add (0 : Nat)) (Value.bool false)).cell?
                 (a68.add (0 : Nat)) =
                some v69) ∧
              ((w.alloc
                      (Obj.cells
                       #[Value.string s, Value.int IntKind.i64 a, Value.int IntKind.i64 f, Value.int IntKind.i64 r, Value.int IntKind.i64 z, Value.int IntKind.u32 u, Value.int IntKind.i64 m]
                       (50 : Nat))).drew.setCell
                   (a63.add (0 : Nat)) (Value.bool false)).frozen?
                 (a68.add (0 : Nat)) =
                false ∧
               Apart (a68.add (0 : Nat)) w.heap.size [(0 : Nat), (1 : Nat), (2 : Nat), (3 : Nat), (4 : Nat), (5 : Nat), (6 : Nat)] ∧
                SX.Ptr p2 fun (a70 : Addr) =>
                 ∃ (i71 : Int),
                  (((w.alloc
                            (Obj.cells
                             #[Value.string s, Value.int IntKind.i64 a, Value.int IntKind.i64 f, Value.int IntKind.i64 r, Value.int IntKind.i64 z, Value.int IntKind.u32 u,
                              Value.int IntKind.i64 m]
                             (50 : Nat))).drew.setCell
                         (a63.add (0 : Nat)) (Value.bool false)).setCell
                       (a68.add (0 : Nat)) (Value.int IntKind.i64 i67)).cell?
                     a70 =
                    some (Value.int IntKind.i64 i71) ∧
                   SX.Ptr p5 fun (a72 : Addr) =>
                    ∃ (i73 : Int),
                     (((w.alloc
                               (Obj.cells
                                #[Value.string s, Value.int IntKind.i64 a, Value.int IntKind.i64 f, Value.int IntKind.i64 r, Value.int IntKind.i64 z, Value.int IntKind.u32 u,
                                 Value.int IntKind.i64 m]
                                (50 : Nat))).drew.setCell
                            (a63.add (0 : Nat)) (Value.bool false)).setCell
                          (a68.add (0 : Nat)) (Value.int IntKind.i64 i67)).cell?
                        (a72.add (1 : Nat)) =
                       some (Value.int IntKind.i64 i73) ∧
                      (Known
                        (((w.alloc
                              (Obj.cells
                               #[Value.string s, Value.int IntKind.i64 a, Value.int IntKind.i64 f, Value.int IntKind.i64 r, Value.int IntKind.i64 z, Value.int IntKind.u32 u,
                                Value.int IntKind.i64 m]
                               (50 : Nat))).drew.setCell
                           (a63.add (0 : Nat)) (Value.bool false)).setCell
                         (a68.add (0 : Nat)) (Value.int IntKind.i64 i67))
                        [(w.heap.size,
                          [((0 : Nat), Value.string s), ((1 : Nat), Value.int IntKind.i64 a), ((2 : Nat), Value.int IntKind.i64 f), ((3 : Nat), Value.int IntKind.i64 r),
                           ((4 : Nat), Value.int IntKind.i64 z), ((5 : Nat), Value.int IntKind.u32 u), ((6 : Nat), Value.int IntKind.i64 m)])] →
                       R (Ending.returned (Value.bool (i71 != i73)))
                        (((w.alloc
                              (Obj.cells
                               #[Value.string s, Value.int IntKind.i64 a, Value.int IntKind.i64 f, Value.int IntKind.i64 r, Value.int IntKind.i64 z, Value.int IntKind.u32 u,
                                Value.int IntKind.i64 m]
                               (50 : Nat))).drew.setCell
                           (a63.add (0 : Nat)) (Value.bool false)).setCell
                         (a68.add (0 : Nat)) (Value.int IntKind.i64 i67)))
theorem vcTryd79 (s : ByteArray) (a f r z u m : Int) (p1 p2 p3 p4 p5 : Option Addr) (w : World) (R : Ending → World → Prop) : SX.vcFn Tryd.prog [] Tryd.f79 [.v (.agg #[.string s, .int .i64 a, .int .i64 f, .int .i64 r, .int .i64 z, .int .u32 u, .int .i64 m]), .v (.pointer p1), .v (.pointer p2), .v (.pointer p3), .v (.pointer p4), .v (.pointer p5)] [] w R = VCTryd79 s a f r z u m p1 p2 p3 p4 p5 w R := by kernel_rfl
end Go.Proofs.YtbpknjldphckgaaDoor
