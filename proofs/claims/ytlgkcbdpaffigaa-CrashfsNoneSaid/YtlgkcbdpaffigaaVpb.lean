/- The conditions of functions, as the executor computes them: each is equal to what 'vcFn' says. -/
import Derived.Test.YtlgkcbdpaffigaaSxLib
import Derived.Test.YtlgkcbdpaffigaaProg
namespace Go.Proofs.Ytlgkcbdpaffigaa
open Go Go.SX Go.Proofs
set_option maxRecDepth 100000
set_option linter.unusedVariables false
def VCTry11 (cap id at_ n : Int) (nm : ByteArray) (w : World) (R : Ending → World → Prop) : Prop :=
Known (w.alloc (Obj.cells #[Value.int IntKind.i64 id, Value.int IntKind.i64 at_, Value.int IntKind.i64 n, Value.string nm] (108 : Nat)))
 [(w.heap.size, [((0 : Nat), Value.int IntKind.i64 id), ((1 : Nat), Value.int IntKind.i64 at_), ((2 : Nat), Value.int IntKind.i64 n), ((3 : Nat), Value.string nm)])] →
 Rets Try.prog (27 : Nat) #[Value.pointer none, Value.slice none (0 : Nat) (0 : Nat)] (w.alloc (Obj.cells #[Value.int IntKind.i64 id, Value.int IntKind.i64 at_, Value.int IntKind.i64 n, Value.string nm] (108 : Nat)))
 fun (v0 : Value) (w1 : World) =>
 v0 = Value.tuple #[] ∧
 Keeps (w.alloc (Obj.cells #[Value.int IntKind.i64 id, Value.int IntKind.i64 at_, Value.int IntKind.i64 n, Value.string nm] (108 : Nat))) w1 [w.heap.size] ∧
 (Known w1 [(w.heap.size, [((0 : Nat), Value.int IntKind.i64 id), ((1 : Nat), Value.int IntKind.i64 at_), ((2 : Nat), Value.int IntKind.i64 n), ((3 : Nat), Value.string nm)])] →
 Rets Try.prog (32 : Nat) #[Value.pointer none, Value.agg #[Value.slice none (0 : Nat) (0 : Nat), Value.int IntKind.i64 (0 : Int), Value.int IntKind.u8 (0 : Int)]] w1 fun (v2 : Value) (w3 : World) =>
 v2 = Value.tuple #[] ∧
 Keeps w1 w3 [w.heap.size] ∧
 (Known w3 [(w.heap.size, [((0 : Nat), Value.int IntKind.i64 id), ((1 : Nat), Value.int IntKind.i64 at_), ((2 : Nat), Value.int IntKind.i64 n), ((3 : Nat), Value.string nm)])] →
 Rets Try.prog (28 : Nat) #[Value.pointer none, Value.string nm] w3 fun (v4 : Value) (w5 : World) =>
 ∃ (i6 : Int),
 ∃ (i7 : Int),
 v4 = Value.tuple #[Value.int IntKind.i64 i6, Value.int IntKind.i64 i7] ∧
 Keeps w3 w5 [w.heap.size] ∧
 (Known w5 [(w.heap.size, [((0 : Nat), Value.int IntKind.i64 id), ((1 : Nat), Value.int IntKind.i64 at_), ((2 : Nat), Value.int IntKind.i64 n), ((3 : Nat), Value.string nm)])] →
 Rets Try.prog (33 : Nat) #[Value.pointer none, Value.string nm] w5 fun (v8 : Value) (w9 : World) =>
 ∃ (i10 : Int),
 ∃ (i11 : Int),
 v8 = Value.tuple #[Value.int IntKind.i64 i10, Value.int IntKind.i64 i11] ∧
 Keeps w5 w9 [w.heap.size] ∧
 (Known w9 [(w.heap.size, [((0 : Nat), Value.int IntKind.i64 id), ((1 : Nat), Value.int IntKind.i64 at_), ((2 : Nat), Value.int IntKind.i64 n), ((3 : Nat), Value.string nm)])] →
 Rets Try.prog (34 : Nat) #[Value.pointer none, Value.int IntKind.i64 id, Value.int IntKind.i64 at_, Value.int IntKind.i64 n] w9 fun (v12 : Value) (w13 : World) =>
 ∃ (q14 : Option Addr),
 ∃ (n15 : Nat),
 ∃ (n16 : Nat),
 ∃ (i17 : Int),
 v12 = Value.tuple #[Value.slice q14 n15 n16, Value.int IntKind.i64 i17] ∧
 Keeps w9 w13 [w.heap.size] ∧
 (Known w13
 [(w.heap.size,
 [((0 : Nat), Value.int IntKind.i64 id), ((1 : Nat), Value.int IntKind.i64 at_), ((2 : Nat), Value.int IntKind.i64 n), ((3 : Nat), Value.string nm)])] →
 Rets Try.prog (51 : Nat) #[Value.pointer none] w13 fun (v18 : Value) (w19 : World) =>
 ∃ (i20 : Int),
 ∃ (i21 : Int),
 v18 = Value.tuple #[Value.int IntKind.i64 i20, Value.int IntKind.i64 i21] ∧
 Keeps w13 w19 [w.heap.size] ∧
 bif i7 != (1 : Int) then
 Known w19
 [(w.heap.size,
 [((0 : Nat), Value.int IntKind.i64 id), ((1 : Nat), Value.int IntKind.i64 at_), ((2 : Nat), Value.int IntKind.i64 n),
 ((3 : Nat), Value.string nm)])] →
 R (Ending.returned (Value.bool false)) w19
 else
 bif i11 != (1 : Int) then
 Known w19
 [(w.heap.size,
 [((0 : Nat), Value.int IntKind.i64 id), ((1 : Nat), Value.int IntKind.i64 at_), ((2 : Nat), Value.int IntKind.i64 n),
 ((3 : Nat), Value.string nm)])] →
 R (Ending.returned (Value.bool false)) w19
 else
 bif i17 != (1 : Int) then
 Known w19
 [(w.heap.size,
 [((0 : Nat), Value.int IntKind.i64 id), ((1 : Nat), Value.int IntKind.i64 at_), ((2 : Nat), Value.int IntKind.i64 n),
 ((3 : Nat), Value.string nm)])] →
 R (Ending.returned (Value.bool false)) w19
 else
 Known w19
 [(w.heap.size,
 [((0 : Nat), Value.int IntKind.i64 id), ((1 : Nat), Value.int IntKind.i64 at_), ((2 : Nat), Value.int IntKind.i64 n),
 ((3 : Nat), Value.string nm)])] →
 Rets Try.prog (29 : Nat) #[Value.pointer none, Value.int IntKind.i64 id, Value.int IntKind.i64 at_, Value.slice none (0 : Nat) (0 : Nat)] w19
 fun (v22 : Value) (w23 : World) =>
 ∃ (i24 : Int),
 v22 = Value.int IntKind.i64 i24 ∧
 Keeps w19 w23 [w.heap.size] ∧
 bif i24 != (1 : Int) then
 Known w23
 [(w.heap.size,
 [((0 : Nat), Value.int IntKind.i64 id), ((1 : Nat), Value.int IntKind.i64 at_), ((2 : Nat), Value.int IntKind.i64 n),
 ((3 : Nat), Value.string nm)])] →
 R (Ending.returned (Value.bool false)) w23
 else
 Known w23
 [(w.heap.size,
 [((0 : Nat), Value.int IntKind.i64 id), ((1 : Nat), Value.int IntKind.i64 at_), ((2 : Nat), Value.int IntKind.i64 n),
 ((3 : Nat), Value.string nm)])] →
 Rets Try.prog (30 : Nat) #[Value.pointer none, Value.int IntKind.i64 id] w23 fun (v25 : Value) (w26 : World) =>
 ∃ (i27 : Int),
 v25 = Value.int IntKind.i64 i27 ∧
 Keeps w23 w26 [w.heap.size] ∧
 bif i27 != (1 : Int) then
 Known w26
 [(w.heap.size,
 [((0 : Nat), Value.int IntKind.i64 id), ((1 : Nat), Value.int IntKind.i64 at_),
 ((2 : Nat), Value.int IntKind.i64 n), ((3 : Nat), Value.string nm)])] →
 R (Ending.returned (Value.bool false)) w26
 else
 Known w26
 [(w.heap.size,
 [((0 : Nat), Value.int IntKind.i64 id), ((1 : Nat), Value.int IntKind.i64 at_),
 ((2 : Nat), Value.int IntKind.i64 n), ((3 : Nat), Value.string nm)])] →
 Rets Try.prog (31 : Nat) #[Value.pointer none] w26 fun (v28 : Value) (w29 : World) =>
 ∃ (i30 : Int),
 v28 = Value.int IntKind.i64 i30 ∧
 Keeps w26 w29 [w.heap.size] ∧
 bif i30 != (1 : Int) then
 Known w29
 [(w.heap.size,
 [((0 : Nat), Value.int IntKind.i64 id), ((1 : Nat), Value.int IntKind.i64 at_),
 ((2 : Nat), Value.int IntKind.i64 n), ((3 : Nat), Value.string nm)])] →
 R (Ending.returned (Value.bool false)) w29
 else
 Known w29
 [(w.heap.size,
 [((0 : Nat), Value.int IntKind.i64 id), ((1 : Nat), Value.int IntKind.i64 at_),
 ((2 : Nat), Value.int IntKind.i64 n), ((3 : Nat), Value.string nm)])] →
 Rets Try.prog (52 : Nat) #[Value.pointer none, Value.string nm, Value.string nm] w29
 fun (v31 : Value) (w32 : World) =>
 ∃ (i33 : Int),
 v31 = Value.int IntKind.i64 i33 ∧
 Keeps w29 w32 [w.heap.size] ∧
 bif i33 != (1 : Int) then
 Known w32
 [(w.heap.size,
 [((0 : Nat), Value.int IntKind.i64 id), ((1 : Nat), Value.int IntKind.i64 at_),
 ((2 : Nat), Value.int IntKind.i64 n), ((3 : Nat), Value.string nm)])] →
 R (Ending.returned (Value.bool false)) w32
 else
 Known w32
 [(w.heap.size,
 [((0 : Nat), Value.int IntKind.i64 id), ((1 : Nat), Value.int IntKind.i64 at_),
 ((2 : Nat), Value.int IntKind.i64 n), ((3 : Nat), Value.string nm)])] →
 Rets Try.prog (53 : Nat) #[Value.pointer none, Value.string nm] w32
 fun (v34 : Value) (w35 : World) =>
 ∃ (i36 : Int),
 v34 = Value.int IntKind.i64 i36 ∧
 Keeps w32 w35 [w.heap.size] ∧
 bif i36 != (1 : Int) then
 Known w35
 [(w.heap.size,
 [((0 : Nat), Value.int IntKind.i64 id),
 ((1 : Nat), Value.int IntKind.i64 at_),
 ((2 : Nat), Value.int IntKind.i64 n), ((3 : Nat), Value.string nm)])] →
 R (Ending.returned (Value.bool false)) w35
 else
 Known w35
 [(w.heap.size,
 [((0 : Nat), Value.int IntKind.i64 id),
 ((1 : Nat), Value.int IntKind.i64 at_),
 ((2 : Nat), Value.int IntKind.i64 n), ((3 : Nat), Value.string nm)])] →
 Rets Try.prog (54 : Nat) #[Value.pointer none, Value.int IntKind.i64 id] w35
 fun (v37 : Value) (w38 : World) =>
 ∃ (i39 : Int),
 v37 = Value.int IntKind.i64 i39 ∧
 Keeps w35 w38 [w.heap.size] ∧
 bif i39 != (0 : Int) then
 Known w38
 [(w.heap.size,
 [((0 : Nat), Value.int IntKind.i64 id),
 ((1 : Nat), Value.int IntKind.i64 at_),
 ((2 : Nat), Value.int IntKind.i64 n),
 ((3 : Nat), Value.string nm)])] →
 R (Ending.returned (Value.bool false)) w38
 else
 Known w38
 [(w.heap.size,
 [((0 : Nat), Value.int IntKind.i64 id),
 ((1 : Nat), Value.int IntKind.i64 at_),
 ((2 : Nat), Value.int IntKind.i64 n),
 ((3 : Nat), Value.string nm)])] →
 Rets Try.prog (55 : Nat) #[Value.pointer none] w38
 fun (v40 : Value) (w41 : World) =>
 ∃ (i42 : Int),
 v40 = Value.int IntKind.i64 i42 ∧
 Keeps w38 w41 [w.heap.size] ∧
 bif i42 != (0 : Int) then
 Known w41
 [(w.heap.size,
 [((0 : Nat), Value.int IntKind.i64 id),
 ((1 : Nat), Value.int IntKind.i64 at_),
 ((2 : Nat), Value.int IntKind.i64 n),
 ((3 : Nat), Value.string nm)])] →
 R (Ending.returned (Value.bool false)) w41
 else
 Known w41
 [(w.heap.size,
 [((0 : Nat), Value.int IntKind.i64 id),
 ((1 : Nat), Value.int IntKind.i64 at_),
 ((2 : Nat), Value.int IntKind.i64 n),
 ((3 : Nat), Value.string nm)])] →
 Rets Try.prog (56 : Nat) #[Value.pointer none] w41
 fun (v43 : Value) (w44 : World) =>
 ∃ (q45 : Option Addr),
 ∃ (n46 : Nat),
 ∃ (n47 : Nat),
 v43 = Value.slice q45 n46 n47 ∧
 Keeps w41 w44 [w.heap.size] ∧
 bif (↑n46 : Int) != (0 : Int) then
 Known w44
 [(w.heap.size,
 [((0 : Nat),
 Value.int IntKind.i64 id),
 ((1 : Nat),
 Value.int IntKind.i64 at_),
 ((2 : Nat),
 Value.int IntKind.i64 n),
 ((3 : Nat), Value.string nm)])] →
 R (Ending.returned (Value.bool false)) w44
 else
 bif i20 != (0 : Int) then
 Known w44
 [(w.heap.size,
 [((0 : Nat),
 Value.int IntKind.i64 id),
 ((1 : Nat),
 Value.int IntKind.i64 at_),
 ((2 : Nat),
 Value.int IntKind.i64 n),
 ((3 : Nat), Value.string nm)])] →
 R (Ending.returned (Value.bool false)) w44
 else
 bif i21 != (0 : Int) then
 Known w44
 [(w.heap.size,
 [((0 : Nat),
 Value.int IntKind.i64 id),
 ((1 : Nat),
 Value.int IntKind.i64 at_),
 ((2 : Nat),
 Value.int IntKind.i64 n),
 ((3 : Nat),
 Value.string nm)])] →
 R (Ending.returned (Value.bool false))
 w44
 else
 Known w44
 [(w.heap.size,
 [((0 : Nat),
 Value.int IntKind.i64 id),
 ((1 : Nat),
 Value.int IntKind.i64 at_),
 ((2 : Nat),
 Value.int IntKind.i64 n),
 ((3 : Nat),
 Value.string nm)])] →
 Rets Try.prog (57 : Nat)
 #[Value.pointer none] w44
 fun (v48 : Value) (w49 : World) =>
 ∃ (i50 : Int),
 v48 = Value.int IntKind.i64 i50 ∧
 Keeps w44 w49 [w.heap.size] ∧
 bif i50 != (0 : Int) then
 Known w49
 [(w.heap.size,
 [((0 : Nat),
 Value.int
 IntKind.i64 id),
 ((1 : Nat),
 Value.int
 IntKind.i64
 at_),
 ((2 : Nat),
 Value.int
 IntKind.i64 n),
 ((3 : Nat),
 Value.string
 nm)])] →
 R
 (Ending.returned
 (Value.bool false))
 w49
 else
 Known w49
 [(w.heap.size,
 [((0 : Nat),
 Value.int
 IntKind.i64 id),
 ((1 : Nat),
 Value.int
 IntKind.i64
 at_),
 ((2 : Nat),
 Value.int
 IntKind.i64 n),
 ((3 : Nat),
 Value.string
 nm)])] →
 Rets Try.prog (24 : Nat)
 #[Value.int IntKind.i64
 cap]
 w49
 fun (v51 : Value)
 (w52 : World) =>
 ∃ (q53 : Option Addr),
 v51 =
 Value.pointer q53 ∧
 Keeps w49 w52
 [w.heap.size] ∧
 (Known w52
 [(w.heap.size,
 [((0 : Nat),
 Value.int
 IntKind.i64
 id),
 ((1 :
 Nat),
 Value.int
 IntKind.i64
 at_),
 ((2 :
 Nat),
 Value.int
 IntKind.i64
 n),
 ((3 :
 Nat),
 Value.string
 nm)])] →
 Rets Try.prog
 (33 : Nat)
 #[Value.pointer
 q53,
 Value.string
 nm]
 w52
 fun
 (v54 : Value)
 (w55 :
 World) =>
 ∃ (i56 : Int),
 ∃ (i57 : Int),
 v54 =
 Value.tuple
 #[Value.int
 IntKind.i64
 i56,
 Value.int
 IntKind.i64
 i57] ∧
 Keeps w52
 w55
 [w.heap.size] ∧
 (Known
 w55
 [(w.heap.size,
 [((0 :
 Nat),
 Value.int
 IntKind.i64
 id),
 ((1 :
 Nat),
 Value.int
 IntKind.i64
 at_),
 ((2 :
 Nat),
 Value.int
 IntKind.i64
 n),
 ((3 :
 Nat),
 Value.string
 nm)])] →
 Rets
 Try.prog
 (34 :
 Nat)
 #[Value.pointer
 q53,
 Value.int
 IntKind.i64
 id,
 Value.int
 IntKind.i64
 at_,
 Value.int
 IntKind.i64
 n]
 w55
 fun
 (v58 :
 Value)
 (w59 :
 World) =>
 ∃
 (q60
 :
 Option
 Addr),
 ∃
 (n61
 :
 Nat),
 ∃
 (n62
 :
 Nat),
 ∃
 (i63
 :
 Int),
 v58 =
 Value.tuple
 #[Value.slice
 q60
 n61
 n62,
 Value.int
 IntKind.i64
 i63] ∧
 Keeps
 w55
 w59
 [w.heap.size] ∧
 bif
 i57 ==
 (7 :
 Int) then
 bif
 i63 ==
 (1 :
 Int) then
 Known
 w59
 [(w.heap.size,
 [((0 :
 Nat),
 Value.int
 IntKind.i64
 id),
 ((1 :
 Nat),
 Value.int
 IntKind.i64
 at_),
 ((2 :
 Nat),
 Value.int
 IntKind.i64
 n),
 ((3 :
 Nat),
 Value.string
 nm)])] →
 Rets
 Try.prog
 (29 :
 Nat)
 #[Value.pointer
 q53,
 Value.int
 IntKind.i64
 id,
 Value.int
 IntKind.i64
 at_,
 Value.slice
 none
 (0 :
 Nat)
 (0 :
 Nat)]
 w59
 fun
 (v64 :
 Value)
 (w65 :
 World) =>
 ∃
 (i66
 :
 Int),
 v64 =
 Value.int
 IntKind.i64
 i66 ∧
 Keeps
 w59
 w65
 [w.heap.size] ∧
 bif
 i66 ==
 (1 :
 Int) then
 Known
 w65
 [(w.heap.size,
 [((0 :
 Nat),
 Value.int
 IntKind.i64
 id),
 ((1 :
 Nat),
 Value.int
 IntKind.i64
 at_),
 ((2 :
 Nat),
 Value.int
 IntKind.i64
 n),
 ((3 :
 Nat),
 Value.string
 nm)])] →
 Rets
 Try.prog
 (30 :
 Nat)
 #[Value.pointer
 q53,
 Value.int
 IntKind.i64
 id]
 w65
 fun
 (v67 :
 Value)
 (w68 :
 World) =>
 ∃
 (i69
 :
 Int),
 v67 =
 Value.int
 IntKind.i64
 i69 ∧
 Keeps
 w65
 w68
 [w.heap.size] ∧
 bif
 i69 ==
 (1 :
 Int) then
 Known
 w68
 [(w.heap.size,
 [((0 :
 Nat),
 Value.int
 IntKind.i64
 id),
 ((1 :
 Nat),
 Value.int
 IntKind.i64
 at_),
 ((2 :
 Nat),
 Value.int
 IntKind.i64
 n),
 ((3 :
 Nat),
 Value.string
 nm)])] →
 Rets
 Try.prog
 (54 :
 Nat)
 #[Value.pointer
 q53,
 Value.int
 IntKind.i64
 id]
 w68
 fun
 (v70 :
 Value)
 (w71 :
 World) =>
 ∃
 (i72
 :
 Int),
 v70 =
 Value.int
 IntKind.i64
 i72 ∧
 Keeps
 w68
 w71
 [w.heap.size] ∧
 bif
 i72 ==
 (0 :
 Int) then
 Known
 w71
 [(w.heap.size,
 [((0 :
 Nat),
 Value.int
 IntKind.i64
 id),
 ((1 :
 Nat),
 Value.int
 IntKind.i64
 at_),
 ((2 :
 Nat),
 Value.int
 IntKind.i64
 n),
 ((3 :
 Nat),
 Value.string
 nm)])] →
 Rets
 Try.prog
 (55 :
 Nat)
 #[Value.pointer
 q53]
 w71
 fun
 (v73 :
 Value)
 (w74 :
 World) =>
 ∃
 (i75
 :
 Int),
 v73 =
 Value.int
 IntKind.i64
 i75 ∧
 Keeps
 w71
 w74
 [w.heap.size] ∧
 bif
 i75 ==
 (0 :
 Int) then
 Known
 w74
 [(w.heap.size,
 [((0 :
 Nat),
 Value.int
 IntKind.i64
 id),
 ((1 :
 Nat),
 Value.int
 IntKind.i64
 at_),
 ((2 :
 Nat),
 Value.int
 IntKind.i64
 n),
 ((3 :
 Nat),
 Value.string
 nm)])] →
 Rets
 Try.prog
 (23 :
 Nat)
 #[]
 w74
 fun
 (v76 :
 Value)
 (w77 :
 World) =>
 ∃
 (t78
 :
 Bool),
 v76 =
 Value.bool
 t78 ∧
 Keeps
 w74
 w77
 [w.heap.size] ∧
 (Known
 w77
 [(w.heap.size,
 [((0 :
 Nat),
 Value.int
 IntKind.i64
 id),
 ((1 :
 Nat),
 Value.int
 IntKind.i64
 at_),
 ((2 :
 Nat),
 Value.int
 IntKind.i64
 n),
 ((3 :
 Nat),
 Value.string
 nm)])] →
 R
 (Ending.returned
 (Value.bool
 t78))
 w77)
 else
 Known
 w74
 [(w.heap.size,
 [((0 :
 Nat),
 Value.int
 IntKind.i64
 id),
 ((1 :
 Nat),
 Value.int
 IntKind.i64
 at_),
 ((2 :
 Nat),
 Value.int
 IntKind.i64
 n),
 ((3 :
 Nat),
 Value.string
 nm)])] →
 R
 (Ending.returned
 (Value.bool
 false))
 w74
 else
 Known
 w71
 [(w.heap.size,
 [((0 :
 Nat),
 Value.int
 IntKind.i64
 id),
 ((1 :
 Nat),
 Value.int
 IntKind.i64
 at_),
 ((2 :
 Nat),
 Value.int
 IntKind.i64
 n),
 ((3 :
 Nat),
 Value.string
 nm)])] →
 R
 (Ending.returned
 (Value.bool
 false))
 w71
 else
 Known
 w68
 [(w.heap.size,
 [((0 :
 Nat),
 Value.int
 IntKind.i64
 id),
 ((1 :
 Nat),
 Value.int
 IntKind.i64
 at_),
 ((2 :
 Nat),
 Value.int
 IntKind.i64
 n),
 ((3 :
 Nat),
 Value.string
 nm)])] →
 R
 (Ending.returned
 (Value.bool
 false))
 w68
 else
 Known
 w65
 [(w.heap.size,
 [((0 :
 Nat),
 Value.int
 IntKind.i64
 id),
 ((1 :
 Nat),
 Value.int
 IntKind.i64
 at_),
 ((2 :
 Nat),
 Value.int
 IntKind.i64
 n),
 ((3 :
 Nat),
 Value.string
 nm)])] →
 R
 (Ending.returned
 (Value.bool
 false))
 w65
 else
 Known
 w59
 [(w.heap.size,
 [((0 :
 Nat),
 Value.int
 IntKind.i64
 id),
 ((1 :
 Nat),
 Value.int
 IntKind.i64
 at_),
 ((2 :
 Nat),
 Value.int
 IntKind.i64
 n),
 ((3 :
 Nat),
 Value.string
 nm)])] →
 R
 (Ending.returned
 (Value.bool
 false))
 w59
 else
 Known
 w59
 [(w.heap.size,
 [((0 :
 Nat),
 Value.int
 IntKind.i64
 id),
 ((1 :
 Nat),
 Value.int
 IntKind.i64
 at_),
 ((2 :
 Nat),
 Value.int
 IntKind.i64
 n),
 ((3 :
 Nat),
 Value.string
 nm)])] →
 R
 (Ending.returned
 (Value.bool
 false))
 w59)))))))
theorem vcTry11 (cap id at_ n : Int) (nm : ByteArray) (w : World) (R : Ending → World → Prop) : SX.vcFn Try.prog [] Try.f11 [.v (.int .i64 cap), .v (.agg #[.int .i64 id, .int .i64 at_, .int .i64 n, .string nm])] [] w R = VCTry11 cap id at_ n nm w R := by kernel_rfl
end Go.Proofs.Ytlgkcbdpaffigaa
