/- The conditions of functions, as the executor computes them: each is equal to what 'vcFn' says. -/
import Derived.Test.YtbpknjldphckgaaDoorSxLib
import Derived.Test.YtbpknjldphckgaaDoorProg
namespace Go.Proofs.YtbpknjldphckgaaDoor
open Go Go.SX Go.Proofs
set_option maxRecDepth 100000
set_option linter.unusedVariables false
def VCTryd20 (q : Option Addr) (n c : Nat) (r : Option Addr) (m d : Nat) (fs : ByteArray) (fq : Option Addr) (fn fc : Nat) (w : World) (R : Ending → World → Prop) : Prop :=
Known (w.alloc (Obj.cells #[Value.string fs, Value.slice fq fn fc] (107 : Nat))) [(w.heap.size, [((0 : Nat), Value.string fs), ((1 : Nat), Value.slice fq fn fc)])] →
 Rets Tryd.prog (82 : Nat) #[Value.slice q n c] (w.alloc (Obj.cells #[Value.string fs, Value.slice fq fn fc] (107 : Nat))) fun (v0 : Value) (w1 : World) =>
 ∃ (t2 : Bool),
 v0 = Value.bool t2 ∧
 Keeps (w.alloc (Obj.cells #[Value.string fs, Value.slice fq fn fc] (107 : Nat))) w1 [w.heap.size] ∧
 bif t2 then
 Known w1 [(w.heap.size, [((0 : Nat), Value.string fs), ((1 : Nat), Value.slice fq fn fc)])] →
 Rets Tryd.prog (83 : Nat) #[] w1 fun (v3 : Value) (w4 : World) =>
 ∃ (t5 : Bool), v3 = Value.bool t5 ∧ Keeps w1 w4 [w.heap.size] ∧ (Known w4 [(w.heap.size, [((0 : Nat), Value.string fs), ((1 : Nat), Value.slice fq fn fc)])] → R (Ending.returned (Value.bool t5)) w4)
 else
 Known w1 [(w.heap.size, [((0 : Nat), Value.string fs), ((1 : Nat), Value.slice fq fn fc)])] →
 Rets Tryd.prog (82 : Nat) #[Value.slice r m d] w1 fun (v6 : Value) (w7 : World) =>
 ∃ (t8 : Bool),
 v6 = Value.bool t8 ∧
 Keeps w1 w7 [w.heap.size] ∧
 bif t8 then
 Known w7 [(w.heap.size, [((0 : Nat), Value.string fs), ((1 : Nat), Value.slice fq fn fc)])] →
 Rets Tryd.prog (83 : Nat) #[] w7 fun (v9 : Value) (w10 : World) =>
 ∃ (t11 : Bool),
 v9 = Value.bool t11 ∧ Keeps w7 w10 [w.heap.size] ∧ (Known w10 [(w.heap.size, [((0 : Nat), Value.string fs), ((1 : Nat), Value.slice fq fn fc)])] → R (Ending.returned (Value.bool t11)) w10)
 else
 Known (w7.alloc (Obj.cells #[Value.string fs, Value.slice fq fn fc] (107 : Nat))) [(w.heap.size, [((0 : Nat), Value.string fs), ((1 : Nat), Value.slice fq fn fc)])] →
 Rets Tryd.prog (82 : Nat) #[Value.slice (some { block := w7.heap.size, off := (0 : Nat) }) (1 : Nat) (1 : Nat)] (w7.alloc (Obj.cells #[Value.string fs, Value.slice fq fn fc] (107 : Nat)))
 fun (v12 : Value) (w13 : World) =>
 ∃ (t14 : Bool),
 v12 = Value.bool t14 ∧
 Keeps (w7.alloc (Obj.cells #[Value.string fs, Value.slice fq fn fc] (107 : Nat))) w13 [w.heap.size] ∧
 bif t14 then
 Known w13 [(w.heap.size, [((0 : Nat), Value.string fs), ((1 : Nat), Value.slice fq fn fc)])] →
 Rets Tryd.prog (83 : Nat) #[] w13 fun (v15 : Value) (w16 : World) =>
 ∃ (t17 : Bool),
 v15 = Value.bool t17 ∧
 Keeps w13 w16 [w.heap.size] ∧ (Known w16 [(w.heap.size, [((0 : Nat), Value.string fs), ((1 : Nat), Value.slice fq fn fc)])] → R (Ending.returned (Value.bool t17)) w16)
 else
 Known w13 [(w.heap.size, [((0 : Nat), Value.string fs), ((1 : Nat), Value.slice fq fn fc)])] →
 Rets Tryd.prog (84 : Nat) #[Value.slice q n c, Value.slice r m d] w13 fun (v18 : Value) (w19 : World) =>
 ∃ (t20 : Bool),
 v18 = Value.bool t20 ∧
 Keeps w13 w19 [w.heap.size] ∧
 (Known w19 [(w.heap.size, [((0 : Nat), Value.string fs), ((1 : Nat), Value.slice fq fn fc)])] →
 Rets Tryd.prog (85 : Nat) #[Value.slice q n c, Value.slice r m d] w19 fun (v21 : Value) (w22 : World) =>
 ∃ (t23 : Bool),
 v21 = Value.bool t23 ∧
 Keeps w19 w22 [w.heap.size] ∧
 bif !t20 == t23 then Known w22 [(w.heap.size, [((0 : Nat), Value.string fs), ((1 : Nat), Value.slice fq fn fc)])] → R (Ending.returned (Value.bool false)) w22
 else
 Known w22 [(w.heap.size, [((0 : Nat), Value.string fs), ((1 : Nat), Value.slice fq fn fc)])] →
 Rets Tryd.prog (84 : Nat) #[Value.slice q n c, Value.slice q n c] w22 fun (v24 : Value) (w25 : World) =>
 ∃ (t26 : Bool),
 v24 = Value.bool t26 ∧
 Keeps w22 w25 [w.heap.size] ∧
 bif !t26 then Known w25 [(w.heap.size, [((0 : Nat), Value.string fs), ((1 : Nat), Value.slice fq fn fc)])] → R (Ending.returned (Value.bool false)) w25
 else
 Known w25 [(w.heap.size, [((0 : Nat), Value.string fs), ((1 : Nat), Value.slice fq fn fc)])] →
 Rets Tryd.prog (86 : Nat) #[Value.slice q n c] w25 fun (v27 : Value) (w28 : World) =>
 ∃ (t29 : Bool),
 v27 = Value.bool t29 ∧
 Keeps w25 w28 [w.heap.size] ∧
 bif !t29 then
 Known w28 [(w.heap.size, [((0 : Nat), Value.string fs), ((1 : Nat), Value.slice fq fn fc)])] →
 Rets Tryd.prog (83 : Nat) #[] w28 fun (v30 : Value) (w31 : World) =>
 ∃ (t32 : Bool),
 v30 = Value.bool t32 ∧
 Keeps w28 w31 [w.heap.size] ∧
 (Known w31 [(w.heap.size, [((0 : Nat), Value.string fs), ((1 : Nat), Value.slice fq fn fc)])] →
 R (Ending.returned (Value.bool t32)) w31)
 else
 ∃ (I33 : Int → Option Addr → Nat → Nat → World → Prop),
 ∃ (I34 : Int → Option Addr → Nat → Nat → World → Nat),
 I33 (0 : Int) none (0 : Nat) (0 : Nat) w28 ∧
 ∀ (i35 : Int) (q36 : Option Addr) (n37 n38 : Nat) (w39 : World),
 I33 i35 q36 n37 n38 w39 →
 Known w39 [(w.heap.size, [((0 : Nat), Value.string fs), ((1 : Nat), Value.slice fq fn fc)])] →
 bif decide (i35 < (↑n : Int)) then
 ((0 : Int) ≤ i35 ∧ i35 < (↑n : Int)) ∧
 SX.Ptr q fun (a40 : Addr) =>
 ∃ (s41 : ByteArray),
 w39.drew.cell? ((a40.add (i35.toNat * (2 : Nat))).add (0 : Nat)) = some (Value.string s41) ∧
 ((0 : Int) ≤ i35 ∧ i35 < (↑n : Int)) ∧
 SX.Ptr q fun (a42 : Addr) =>
 ∃ (q43 : Option Addr),
 ∃ (n44 : Nat),
 ∃ (n45 : Nat),
 w39.drew.cell? ((a42.add (i35.toNat * (2 : Nat))).add (1 : Nat)) = some (Value.slice q43 n44 n45) ∧
 ∃ (s46 : ByteArray),
 s46.size = n44 ∧
 BytesAt w39.drew q43 s46 ∧
 Runs Tryd.prog (convert (9 : Nat) (27 : Nat) (Value.string s46)) w39.drew
 fun (v47 : Value) (w48 : World) =>
 ∃ (q49 : Option Addr),
 ∃ (n50 : Nat),
 ∃ (n51 : Nat),
 v47 = Value.slice q49 n50 n51 ∧
 Keeps w39.drew w48 [w.heap.size] ∧
 w48.cell? ((a40.add (i35.toNat * (2 : Nat))).add (0 : Nat)) =
 some (Value.string s41) ∧
 Runs Tryd.prog
 (Builtin.append_ #[(105 : Nat), (105 : Nat)] (105 : Nat)
 #[Value.slice q36 n37 n38,
 Value.slice (some { block := w48.heap.size, off := (0 : Nat) }) (1 : Nat)
 (1 : Nat)])
 (w48.alloc (Obj.cells #[Value.string s41, Value.slice q49 n50 n51] (107 : Nat)))
 fun (v52 : Value) (w53 : World) =>
 ∃ (q54 : Option Addr),
 ∃ (n55 : Nat),
 ∃ (n56 : Nat),
 v52 = Value.slice q54 n55 n56 ∧
 Keeps
 (w48.alloc
 (Obj.cells #[Value.string s41, Value.slice q49 n50 n51]
 (107 : Nat)))
 w53 [w.heap.size] ∧
 Wr IntKind.i64 (i35 + (1 : Int)) fun (i57 : Int) =>
 SameVals [Value.string fs, Value.slice fq fn fc]
 [Value.string fs, Value.slice fq fn fc] ∧
 I33 i57 q54 n55 n56 w53 ∧
 I34 i57 q54 n55 n56 w53 < I34 i35 q36 n37 n38 w39
 else
 Known w39 [(w.heap.size, [((0 : Nat), Value.string fs), ((1 : Nat), Value.slice fq fn fc)])] →
 Rets Tryd.prog (87 : Nat) #[Value.slice q n c, Value.string fs] w39 fun (v58 : Value) (w59 : World) =>
 ∃ (i60 : Int),
 v58 = Value.int IntKind.i64 i60 ∧
 Keeps w39 w59 [w.heap.size] ∧
 (Known w59 [(w.heap.size, [((0 : Nat), Value.string fs), ((1 : Nat), Value.slice fq fn fc)])] →
 Rets Tryd.prog (88 : Nat) #[Value.slice q36 n37 n38, Value.string fs] w59 fun (v61 : Value) (w62 : World) =>
 ∃ (q63 : Option Addr),
 ∃ (n64 : Nat),
 ∃ (n65 : Nat),
 ∃ (t66 : Bool),
 v61 = Value.tuple #[Value.slice q63 n64 n65, Value.bool t66] ∧
 Keeps w59 w62 [w.heap.size] ∧
 bif !t66 == decide (i60 ≥ (0 : Int)) then
 Known w62.drew
 [(w.heap.size, [((0 : Nat), Value.string fs), ((1 : Nat), Value.slice fq fn fc)])] →
 R (Ending.returned (Value.bool false)) w62.drew
 else
 bif t66 then
 ∃ (s67 : ByteArray),
 s67.size = n64 ∧
 BytesAt w62.drew q63 s67 ∧
 ((0 : Int) ≤ i60 ∧ i60 < (↑n : Int)) ∧
 SX.Ptr q fun (a68 : Addr) =>
 ∃ (q69 : Option Addr),
 ∃ (n70 : Nat),
 ∃ (n71 : Nat),
 w62.drew.cell? ((a68.add (i60.toNat * (2 : Nat))).add (1 : Nat)) =
 some (Value.slice q69 n70 n71) ∧
 ∃ (s72 : ByteArray),
 s72.size = n70 ∧
 BytesAt w62.drew q69 s72 ∧
 bif !s67.toList == s72.toList then
 Known w62.drew
 [(w.heap.size,
 [((0 : Nat), Value.string fs),
 ((1 : Nat), Value.slice fq fn fc)])] →
 R (Ending.returned (Value.bool false)) w62.drew
 else
 bif !t66 then
 bif (↑n64 : Int) != (0 : Int) then
 Known w62.drew
 [(w.heap.size,
 [((0 : Nat), Value.string fs),
 ((1 : Nat), Value.slice fq fn fc)])] →
 R (Ending.returned (Value.bool false)) w62.drew
 else
 Known w62.drew
 [(w.heap.size,
 [((0 : Nat), Value.string fs),
 ((1 : Nat), Value.slice fq fn fc)])] →
 Rets Tryd.prog (89 : Nat)
 #[Value.slice q36 n37 n38, Value.string fs,
 Value.slice fq fn fc]
 w62.drew fun (v73 : Value) (w74 : World) =>
 ∃ (q75 : Option Addr),
 ∃ (n76 : Nat),
 ∃ (n77 : Nat),
 v73 = Value.slice q75 n76 n77 ∧
 Keeps w62.drew w74 [w.heap.size] ∧
 (Known w74
 [(w.heap.size,
 [((0 : Nat), Value.string fs),
 ((1 : Nat), Value.slice fq fn fc)])] →
 Rets Tryd.prog (90 : Nat)
 #[Value.slice q36 n37 n38, Value.string fs]
 w74 fun (v78 : Value) (w79 : World) =>
 ∃ (q80 : Option Addr),
 ∃ (n81 : Nat),
 ∃ (n82 : Nat),
 v78 = Value.slice q80 n81 n82 ∧
 Keeps w74 w79 [w.heap.size] ∧
 (Known w79
 [(w.heap.size,
 [((0 : Nat),
 Value.string fs),
 ((1 : Nat),
 Value.slice fq fn
 fc)])] →
 Rets Tryd.prog (85 : Nat)
 #[Value.slice q36 n37 n38,
 Value.slice q n c]
 w79
 fun (v83 : Value)
 (w84 : World) =>
 ∃ (t85 : Bool),
 v83 = Value.bool t85 ∧
 Keeps w79 w84
 [w.heap.size] ∧
 bif t85 then
 ∃ (s86 : ByteArray),
 s86.size = fn ∧
 BytesAt w84 fq s86 ∧
 (Known w84
 [(w.heap.size,
 [((0 :
 Nat),
 Value.string
 fs),
 ((1 :
 Nat),
 Value.slice
 fq
 fn
 fc)])] →
 Rets Tryd.prog
 (91 : Nat)
 #[Value.slice
 q n c,
 Value.string
 fs,
 Value.string
 s86]
 w84
 fun
 (v87 :
 Value)
 (w88 :
 World) =>
 ∃ (q89 :
 Option
 Addr),
 ∃ (n90 :
 Nat),
 ∃ (n91 :
 Nat),
 v87 =
 Value.slice
 q89
 n90
 n91 ∧
 Keeps
 w84
 w88
 [w.heap.size] ∧
 (Known
 w88
 [(w.heap.size,
 [((0 :
 Nat),
 Value.string
 fs),
 ((1 :
 Nat),
 Value.slice
 fq
 fn
 fc)])] →
 Rets
 Tryd.prog
 (85 :
 Nat)
 #[Value.slice
 q75
 n76
 n77,
 Value.slice
 q89
 n90
 n91]
 w88
 fun
 (v92 :
 Value)
 (w93 :
 World) =>
 ∃
 (t94
 :
 Bool),
 v92 =
 Value.bool
 t94 ∧
 Keeps
 w88
 w93
 [w.heap.size] ∧
 bif
 t94 then
 Known
 w93
 [(w.heap.size,
 [((0 :
 Nat),
 Value.string
 fs),
 ((1 :
 Nat),
 Value.slice
 fq
 fn
 fc)])] →
 Rets
 Tryd.prog
 (92 :
 Nat)
 #[Value.slice
 q
 n
 c,
 Value.string
 fs]
 w93
 fun
 (v95 :
 Value)
 (w96 :
 World) =>
 ∃
 (q97
 :
 Option
 Addr),
 ∃
 (n98
 :
 Nat),
 ∃
 (n99
 :
 Nat),
 v95 =
 Value.slice
 q97
 n98
 n99 ∧
 Keeps
 w93
 w96
 [w.heap.size] ∧
 (Known
 w96
 [(w.heap.size,
 [((0 :
 Nat),
 Value.string
 fs),
 ((1 :
 Nat),
 Value.slice
 fq
 fn
 fc)])] →
 Rets
 Tryd.prog
 (85 :
 Nat)
 #[Value.slice
 q80
 n81
 n82,
 Value.slice
 q97
 n98
 n99]
 w96
 fun
 (v100 :
 Value)
 (w101 :
 World) =>
 ∃
 (t102
 :
 Bool),
 v100 =
 Value.bool
 t102 ∧
 Keeps
 w96
 w101
 [w.heap.size] ∧
 bif
 t102 then
 Known
 w101
 [(w.heap.size,
 [((0 :
 Nat),
 Value.string
 fs),
 ((1 :
 Nat),
 Value.slice
 fq
 fn
 fc)])] →
 Rets
 Tryd.prog
 (83 :
 Nat)
 #[]
 w101
 fun
 (v103 :
 Value)
 (w104 :
 World) =>
 ∃
 (t105
 :
 Bool),
 v103 =
 Value.bool
 t105 ∧
 Keeps
 w101
 w104
 [w.heap.size] ∧
 (Known
 w104
 [(w.heap.size,
 [((0 :
 Nat),
 Value.string
 fs),
 ((1 :
 Nat),
 Value.slice
 fq
 fn
 fc)])] →
 R
 (Ending.returned
 (Value.bool
 t105))
 w104)
 else
 Known
 w101
 [(w.heap.size,
 [((0 :
 Nat),
 Value.string
 fs),
 ((1 :
 Nat),
 Value.slice
 fq
 fn
 fc)])] →
 R
 (Ending.returned
 (Value.bool
 false))
 w101)
 else
 Known
 w93
 [(w.heap.size,
 [((0 :
 Nat),
 Value.string
 fs),
 ((1 :
 Nat),
 Value.slice
 fq
 fn
 fc)])] →
 R
 (Ending.returned
 (Value.bool
 false))
 w93))
 else
 Known w84
 [(w.heap.size,
 [((0 : Nat),
 Value.string
 fs),
 ((1 : Nat),
 Value.slice
 fq fn
 fc)])] →
 R
 (Ending.returned
 (Value.bool
 false))
 w84))
 else
 Known w62.drew
 [(w.heap.size,
 [((0 : Nat), Value.string fs),
 ((1 : Nat), Value.slice fq fn fc)])] →
 Rets Tryd.prog (89 : Nat)
 #[Value.slice q36 n37 n38, Value.string fs,
 Value.slice fq fn fc]
 w62.drew fun (v106 : Value) (w107 : World) =>
 ∃ (q108 : Option Addr),
 ∃ (n109 : Nat),
 ∃ (n110 : Nat),
 v106 = Value.slice q108 n109 n110 ∧
 Keeps w62.drew w107 [w.heap.size] ∧
 (Known w107
 [(w.heap.size,
 [((0 : Nat), Value.string fs),
 ((1 : Nat), Value.slice fq fn fc)])] →
 Rets Tryd.prog (90 : Nat)
 #[Value.slice q36 n37 n38, Value.string fs] w107
 fun (v111 : Value) (w112 : World) =>
 ∃ (q113 : Option Addr),
 ∃ (n114 : Nat),
 ∃ (n115 : Nat),
 v111 = Value.slice q113 n114 n115 ∧
 Keeps w107 w112 [w.heap.size] ∧
 (Known w112
 [(w.heap.size,
 [((0 : Nat), Value.string fs),
 ((1 : Nat),
 Value.slice fq fn fc)])] →
 Rets Tryd.prog (85 : Nat)
 #[Value.slice q36 n37 n38,
 Value.slice q n c]
 w112
 fun (v116 : Value)
 (w117 : World) =>
 ∃ (t118 : Bool),
 v116 = Value.bool t118 ∧
 Keeps w112 w117
 [w.heap.size] ∧
 bif t118 then
 ∃ (s119 : ByteArray),
 s119.size = fn ∧
 BytesAt w117 fq s119 ∧
 (Known w117
 [(w.heap.size,
 [((0 : Nat),
 Value.string
 fs),
 ((1 :
 Nat),
 Value.slice
 fq fn
 fc)])] →
 Rets Tryd.prog
 (91 : Nat)
 #[Value.slice q
 n c,
 Value.string
 fs,
 Value.string
 s119]
 w117
 fun
 (v120 : Value)
 (w121 :
 World) =>
 ∃ (q122 :
 Option Addr),
 ∃ (n123 :
 Nat),
 ∃ (n124 :
 Nat),
 v120 =
 Value.slice
 q122
 n123
 n124 ∧
 Keeps
 w117
 w121
 [w.heap.size] ∧
 (Known
 w121
 [(w.heap.size,
 [((0 :
 Nat),
 Value.string
 fs),
 ((1 :
 Nat),
 Value.slice
 fq
 fn
 fc)])] →
 Rets
 Tryd.prog
 (85 :
 Nat)
 #[Value.slice
 q108
 n109
 n110,
 Value.slice
 q122
 n123
 n124]
 w121
 fun
 (v125 :
 Value)
 (w126 :
 World) =>
 ∃
 (t127
 :
 Bool),
 v125 =
 Value.bool
 t127 ∧
 Keeps
 w121
 w126
 [w.heap.size] ∧
 bif
 t127 then
 Known
 w126
 [(w.heap.size,
 [((0 :
 Nat),
 Value.string
 fs),
 ((1 :
 Nat),
 Value.slice
 fq
 fn
 fc)])] →
 Rets
 Tryd.prog
 (92 :
 Nat)
 #[Value.slice
 q
 n
 c,
 Value.string
 fs]
 w126
 fun
 (v128 :
 Value)
 (w129 :
 World) =>
 ∃
 (q130
 :
 Option
 Addr),
 ∃
 (n131
 :
 Nat),
 ∃
 (n132
 :
 Nat),
 v128 =
 Value.slice
 q130
 n131
 n132 ∧
 Keeps
 w126
 w129
 [w.heap.size] ∧
 (Known
 w129
 [(w.heap.size,
 [((0 :
 Nat),
 Value.string
 fs),
 ((1 :
 Nat),
 Value.slice
 fq
 fn
 fc)])] →
 Rets
 Tryd.prog
 (85 :
 Nat)
 #[Value.slice
 q113
 n114
 n115,
 Value.slice
 q130
 n131
 n132]
 w129
 fun
 (v133 :
 Value)
 (w134 :
 World) =>
 ∃
 (t135
 :
 Bool),
 v133 =
 Value.bool
 t135 ∧
 Keeps
 w129
 w134
 [w.heap.size] ∧
 bif
 t135 then
 Known
 w134
 [(w.heap.size,
 [((0 :
 Nat),
 Value.string
 fs),
 ((1 :
 Nat),
 Value.slice
 fq
 fn
 fc)])] →
 Rets
 Tryd.prog
 (83 :
 Nat)
 #[]
 w134
 fun
 (v136 :
 Value)
 (w137 :
 World) =>
 ∃
 (t138
 :
 Bool),
 v136 =
 Value.bool
 t138 ∧
 Keeps
 w134
 w137
 [w.heap.size] ∧
 (Known
 w137
 [(w.heap.size,
 [((0 :
 Nat),
 Value.string
 fs),
 ((1 :
 Nat),
 Value.slice
 fq
 fn
 fc)])] →
 R
 (Ending.returned
 (Value.bool
 t138))
 w137)
 else
 Known
 w134
 [(w.heap.size,
 [((0 :
 Nat),
 Value.string
 fs),
 ((1 :
 Nat),
 Value.slice
 fq
 fn
 fc)])] →
 R
 (Ending.returned
 (Value.bool
 false))
 w134)
 else
 Known
 w126
 [(w.heap.size,
 [((0 :
 Nat),
 Value.string
 fs),
 ((1 :
 Nat),
 Value.slice
 fq
 fn
 fc)])] →
 R
 (Ending.returned
 (Value.bool
 false))
 w126))
 else
 Known w117
 [(w.heap.size,
 [((0 : Nat),
 Value.string
 fs),
 ((1 : Nat),
 Value.slice fq
 fn fc)])] →
 R
 (Ending.returned
 (Value.bool false))
 w117))
 else
 bif !t66 then
 bif (↑n64 : Int) != (0 : Int) then
 Known w62.drew
 [(w.heap.size, [((0 : Nat), Value.string fs), ((1 : Nat), Value.slice fq fn fc)])] →
 R (Ending.returned (Value.bool false)) w62.drew
 else
 Known w62.drew
 [(w.heap.size, [((0 : Nat), Value.string fs), ((1 : Nat), Value.slice fq fn fc)])] →
 Rets Tryd.prog (89 : Nat)
 #[Value.slice q36 n37 n38, Value.string fs, Value.slice fq fn fc] w62.drew
 fun (v139 : Value) (w140 : World) =>
 ∃ (q141 : Option Addr),
 ∃ (n142 : Nat),
 ∃ (n143 : Nat),
 v139 = Value.slice q141 n142 n143 ∧
 Keeps w62.drew w140 [w.heap.size] ∧
 (Known w140
 [(w.heap.size,
 [((0 : Nat), Value.string fs),
 ((1 : Nat), Value.slice fq fn fc)])] →
 Rets Tryd.prog (90 : Nat) #[Value.slice q36 n37 n38, Value.string fs] w140
 fun (v144 : Value) (w145 : World) =>
 ∃ (q146 : Option Addr),
 ∃ (n147 : Nat),
 ∃ (n148 : Nat),
 v144 = Value.slice q146 n147 n148 ∧
 Keeps w140 w145 [w.heap.size] ∧
 (Known w145
 [(w.heap.size,
 [((0 : Nat), Value.string fs),
 ((1 : Nat), Value.slice fq fn fc)])] →
 Rets Tryd.prog (85 : Nat)
 #[Value.slice q36 n37 n38, Value.slice q n c] w145
 fun (v149 : Value) (w150 : World) =>
 ∃ (t151 : Bool),
 v149 = Value.bool t151 ∧
 Keeps w145 w150 [w.heap.size] ∧
 bif t151 then
 ∃ (s152 : ByteArray),
 s152.size = fn ∧
 BytesAt w150 fq s152 ∧
 (Known w150
 [(w.heap.size,
 [((0 : Nat), Value.string fs),
 ((1 : Nat),
 Value.slice fq fn fc)])] →
 Rets Tryd.prog (91 : Nat)
 #[Value.slice q n c, Value.string fs,
 Value.string s152]
 w150
 fun (v153 : Value) (w154 : World) =>
 ∃ (q155 : Option Addr),
 ∃ (n156 : Nat),
 ∃ (n157 : Nat),
 v153 =
 Value.slice q155 n156 n157 ∧
 Keeps w150 w154 [w.heap.size] ∧
 (Known w154
 [(w.heap.size,
 [((0 : Nat),
 Value.string fs),
 ((1 : Nat),
 Value.slice fq fn
 fc)])] →
 Rets Tryd.prog (85 : Nat)
 #[Value.slice q141 n142
 n143,
 Value.slice q155 n156
 n157]
 w154
 fun (v158 : Value)
 (w159 : World) =>
 ∃ (t160 : Bool),
 v158 = Value.bool t160 ∧
 Keeps w154 w159
 [w.heap.size] ∧
 bif t160 then
 Known w159
 [(w.heap.size,
 [((0 :
 Nat),
 Value.string
 fs),
 ((1 :
 Nat),
 Value.slice
 fq
 fn
 fc)])] →
 Rets Tryd.prog
 (92 : Nat)
 #[Value.slice
 q n c,
 Value.string
 fs]
 w159
 fun
 (v161 :
 Value)
 (w162 :
 World) =>
 ∃ (q163 :
 Option
 Addr),
 ∃ (n164 :
 Nat),
 ∃ (n165 :
 Nat),
 v161 =
 Value.slice
 q163
 n164
 n165 ∧
 Keeps
 w159
 w162
 [w.heap.size] ∧
 (Known
 w162
 [(w.heap.size,
 [((0 :
 Nat),
 Value.string
 fs),
 ((1 :
 Nat),
 Value.slice
 fq
 fn
 fc)])] →
 Rets
 Tryd.prog
 (85 :
 Nat)
 #[Value.slice
 q146
 n147
 n148,
 Value.slice
 q163
 n164
 n165]
 w162
 fun
 (v166 :
 Value)
 (w167 :
 World) =>
 ∃
 (t168
 :
 Bool),
 v166 =
 Value.bool
 t168 ∧
 Keeps
 w162
 w167
 [w.heap.size] ∧
 bif
 t168 then
 Known
 w167
 [(w.heap.size,
 [((0 :
 Nat),
 Value.string
 fs),
 ((1 :
 Nat),
 Value.slice
 fq
 fn
 fc)])] →
 Rets
 Tryd.prog
 (83 :
 Nat)
 #[]
 w167
 fun
 (v169 :
 Value)
 (w170 :
 World) =>
 ∃
 (t171
 :
 Bool),
 v169 =
 Value.bool
 t171 ∧
 Keeps
 w167
 w170
 [w.heap.size] ∧
 (Known
 w170
 [(w.heap.size,
 [((0 :
 Nat),
 Value.string
 fs),
 ((1 :
 Nat),
 Value.slice
 fq
 fn
 fc)])] →
 R
 (Ending.returned
 (Value.bool
 t171))
 w170)
 else
 Known
 w167
 [(w.heap.size,
 [((0 :
 Nat),
 Value.string
 fs),
 ((1 :
 Nat),
 Value.slice
 fq
 fn
 fc)])] →
 R
 (Ending.returned
 (Value.bool
 false))
 w167)
 else
 Known w159
 [(w.heap.size,
 [((0 :
 Nat),
 Value.string
 fs),
 ((1 :
 Nat),
 Value.slice
 fq
 fn
 fc)])] →
 R
 (Ending.returned
 (Value.bool
 false))
 w159))
 else
 Known w150
 [(w.heap.size,
 [((0 : Nat), Value.string fs),
 ((1 : Nat), Value.slice fq fn fc)])] →
 R (Ending.returned (Value.bool false)) w150))
 else
 Known w62.drew
 [(w.heap.size, [((0 : Nat), Value.string fs), ((1 : Nat), Value.slice fq fn fc)])] →
 Rets Tryd.prog (89 : Nat)
 #[Value.slice q36 n37 n38, Value.string fs, Value.slice fq fn fc] w62.drew
 fun (v172 : Value) (w173 : World) =>
 ∃ (q174 : Option Addr),
 ∃ (n175 : Nat),
 ∃ (n176 : Nat),
 v172 = Value.slice q174 n175 n176 ∧
 Keeps w62.drew w173 [w.heap.size] ∧
 (Known w173
 [(w.heap.size,
 [((0 : Nat), Value.string fs), ((1 : Nat), Value.slice fq fn fc)])] →
 Rets Tryd.prog (90 : Nat) #[Value.slice q36 n37 n38, Value.string fs] w173
 fun (v177 : Value) (w178 : World) =>
 ∃ (q179 : Option Addr),
 ∃ (n180 : Nat),
 ∃ (n181 : Nat),
 v177 = Value.slice q179 n180 n181 ∧
 Keeps w173 w178 [w.heap.size] ∧
 (Known w178
 [(w.heap.size,
 [((0 : Nat), Value.string fs),
 ((1 : Nat), Value.slice fq fn fc)])] →
 Rets Tryd.prog (85 : Nat)
 #[Value.slice q36 n37 n38, Value.slice q n c] w178
 fun (v182 : Value) (w183 : World) =>
 ∃ (t184 : Bool),
 v182 = Value.bool t184 ∧
 Keeps w178 w183 [w.heap.size] ∧
 bif t184 then
 ∃ (s185 : ByteArray),
 s185.size = fn ∧
 BytesAt w183 fq s185 ∧
 (Known w183
 [(w.heap.size,
 [((0 : Nat), Value.string fs),
 ((1 : Nat),
 Value.slice fq fn fc)])] →
 Rets Tryd.prog (91 : Nat)
 #[Value.slice q n c, Value.string fs,
 Value.string s185]
 w183 fun (v186 : Value) (w187 : World) =>
 ∃ (q188 : Option Addr),
 ∃ (n189 : Nat),
 ∃ (n190 : Nat),
 v186 = Value.slice q188 n189 n190 ∧
 Keeps w183 w187 [w.heap.size] ∧
 (Known w187
 [(w.heap.size,
 [((0 : Nat),
 Value.string fs),
 ((1 : Nat),
 Value.slice fq fn
 fc)])] →
 Rets Tryd.prog (85 : Nat)
 #[Value.slice q174 n175
 n176,
 Value.slice q188 n189
 n190]
 w187
 fun (v191 : Value)
 (w192 : World) =>
 ∃ (t193 : Bool),
 v191 = Value.bool t193 ∧
 Keeps w187 w192
 [w.heap.size] ∧
 bif t193 then
 Known w192
 [(w.heap.size,
 [((0 : Nat),
 Value.string
 fs),
 ((1 :
 Nat),
 Value.slice
 fq fn
 fc)])] →
 Rets Tryd.prog
 (92 : Nat)
 #[Value.slice q
 n c,
 Value.string
 fs]
 w192
 fun
 (v194 : Value)
 (w195 :
 World) =>
 ∃ (q196 :
 Option Addr),
 ∃ (n197 :
 Nat),
 ∃ (n198 :
 Nat),
 v194 =
 Value.slice
 q196
 n197
 n198 ∧
 Keeps
 w192
 w195
 [w.heap.size] ∧
 (Known
 w195
 [(w.heap.size,
 [((0 :
 Nat),
 Value.string
 fs),
 ((1 :
 Nat),
 Value.slice
 fq
 fn
 fc)])] →
 Rets
 Tryd.prog
 (85 :
 Nat)
 #[Value.slice
 q179
 n180
 n181,
 Value.slice
 q196
 n197
 n198]
 w195
 fun
 (v199 :
 Value)
 (w200 :
 World) =>
 ∃
 (t201
 :
 Bool),
 v199 =
 Value.bool
 t201 ∧
 Keeps
 w195
 w200
 [w.heap.size] ∧
 bif
 t201 then
 Known
 w200
 [(w.heap.size,
 [((0 :
 Nat),
 Value.string
 fs),
 ((1 :
 Nat),
 Value.slice
 fq
 fn
 fc)])] →
 Rets
 Tryd.prog
 (83 :
 Nat)
 #[]
 w200
 fun
 (v202 :
 Value)
 (w203 :
 World) =>
 ∃
 (t204
 :
 Bool),
 v202 =
 Value.bool
 t204 ∧
 Keeps
 w200
 w203
 [w.heap.size] ∧
 (Known
 w203
 [(w.heap.size,
 [((0 :
 Nat),
 Value.string
 fs),
 ((1 :
 Nat),
 Value.slice
 fq
 fn
 fc)])] →
 R
 (Ending.returned
 (Value.bool
 t204))
 w203)
 else
 Known
 w200
 [(w.heap.size,
 [((0 :
 Nat),
 Value.string
 fs),
 ((1 :
 Nat),
 Value.slice
 fq
 fn
 fc)])] →
 R
 (Ending.returned
 (Value.bool
 false))
 w200)
 else
 Known w192
 [(w.heap.size,
 [((0 : Nat),
 Value.string
 fs),
 ((1 :
 Nat),
 Value.slice
 fq fn
 fc)])] →
 R
 (Ending.returned
 (Value.bool
 false))
 w192))
 else
 Known w183
 [(w.heap.size,
 [((0 : Nat), Value.string fs),
 ((1 : Nat), Value.slice fq fn fc)])] →
 R (Ending.returned (Value.bool false)) w183))))
theorem vcTryd20 (q : Option Addr) (n c : Nat) (r : Option Addr) (m d : Nat) (fs : ByteArray) (fq : Option Addr) (fn fc : Nat) (w : World) (R : Ending → World → Prop) : SX.vcFn Tryd.prog [(9, ⟨[(8, .int .i64), (7, .slice)], [0, 5], []⟩)] Tryd.f20 [.v (.slice q n c), .v (.slice r m d), .v (.agg #[.string fs, .slice fq fn fc])] [] w R = VCTryd20 q n c r m d fs fq fn fc w R := by kernel_rfl
end Go.Proofs.YtbpknjldphckgaaDoor
