/- The conditions of functions, as the executor computes them: each is equal to what 'vcFn' says. -/
import Derived.Test.YtbpknjldphckgaaDoorSxLib
import Derived.Test.YtbpknjldphckgaaDoorProg
namespace Go.Proofs.YtbpknjldphckgaaDoor
open Go Go.SX Go.Proofs
set_option maxRecDepth 100000
set_option linter.unusedVariables false
def VCTryd93 (w : World) (R : Ending → World → Prop) : Prop :=
Rets Tryd.prog (97 : Nat) #[] w fun (v0 : Value) (w1 : World) =>
 ∃ (q2 : Option Addr),
  v0 = Value.pointer q2 ∧
   Keeps w w1 [] ∧
    bif q2.isNone then R (Ending.returned (Value.pointer none)) w1
    else
     Rets Tryd.prog (94 : Nat)
      #[Value.pointer q2,
       Value.agg
        #[Value.int IntKind.i64 (1 : Int), Value.string { data := #[] }, Value.slice none (0 : Nat) (0 : Nat), Value.int IntKind.i64 (0 : Int), Value.slice none (0 : Nat) (0 : Nat),
         Value.int IntKind.i64 (0 : Int), Value.int IntKind.u8 (0 : Int)],
       Value.agg
        #[Value.int IntKind.i64 (0 : Int), Value.slice none (0 : Nat) (0 : Nat), Value.int IntKind.i64 (0 : Int), Value.slice none (0 : Nat) (0 : Nat), Value.slice none (0 : Nat) (0 : Nat), Value.bool false,
         Value.bool false]]
      w1 fun (v3 : Value) (w4 : World) =>
      ∃ (t5 : Bool),
       v3 = Value.bool t5 ∧
        Keeps w1 w4 [] ∧
         bif !t5 then R (Ending.returned (Value.pointer none)) w4
         else
          Rets Tryd.prog (94 : Nat)
           #[Value.pointer q2,
            Value.agg
             #[Value.int IntKind.i64 (2 : Int), Value.string { data := #[] }, Value.slice none (0 : Nat) (0 : Nat), Value.int IntKind.i64 (0 : Int), Value.slice none (0 : Nat) (0 : Nat),
              Value.int IntKind.i64 (0 : Int), Value.int IntKind.u8 (0 : Int)],
            Value.agg
             #[Value.int IntKind.i64 (0 : Int), Value.slice none (0 : Nat) (0 : Nat), Value.int IntKind.i64 (0 : Int), Value.slice none (0 : Nat) (0 : Nat), Value.slice none (0 : Nat) (0 : Nat),
              Value.bool false, Value.bool false]]
           w4 fun (v6 : Value) (w7 : World) => ∃ (t8 : Bool), v6 = Value.bool t8 ∧ Keeps w4 w7 [] ∧ bif !t8 then R (Ending.returned (Value.pointer none)) w7 else R (Ending.returned (Value.pointer q2)) w7
theorem vcTryd93 (w : World) (R : Ending → World → Prop) : SX.vcFn Tryd.prog [] Tryd.f93 [] [] w R = VCTryd93  w R := by kernel_rfl
def VCTryd21 (fs : ByteArray) (fq : Option Addr) (fn fc : Nat) (r : Option Addr) (m d : Nat) (w : World) (R : Ending → World → Prop) : Prop :=
Known (w.alloc (Obj.cells #[Value.string fs, Value.slice fq fn fc] (107 : Nat))) [(w.heap.size, [((0 : Nat), Value.string fs), ((1 : Nat), Value.slice fq fn fc)])] →
 Rets Tryd.prog (29 : Nat) #[Value.string fs] (w.alloc (Obj.cells #[Value.string fs, Value.slice fq fn fc] (107 : Nat))) fun (v0 : Value) (w1 : World) =>
 ∃ (t2 : Bool),
 v0 = Value.bool t2 ∧
 Keeps (w.alloc (Obj.cells #[Value.string fs, Value.slice fq fn fc] (107 : Nat))) w1 [w.heap.size] ∧
 bif !t2 then
 Known w1 [(w.heap.size, [((0 : Nat), Value.string fs), ((1 : Nat), Value.slice fq fn fc)])] →
 Rets Tryd.prog (83 : Nat) #[] w1 fun (v3 : Value) (w4 : World) =>
 ∃ (t5 : Bool), v3 = Value.bool t5 ∧ Keeps w1 w4 [w.heap.size] ∧ (Known w4 [(w.heap.size, [((0 : Nat), Value.string fs), ((1 : Nat), Value.slice fq fn fc)])] → R (Ending.returned (Value.bool t5)) w4)
 else
 bif decide ((↑fn : Int) > (65536 : Int)) then
 Known w1 [(w.heap.size, [((0 : Nat), Value.string fs), ((1 : Nat), Value.slice fq fn fc)])] →
 Rets Tryd.prog (83 : Nat) #[] w1 fun (v6 : Value) (w7 : World) =>
 ∃ (t8 : Bool), v6 = Value.bool t8 ∧ Keeps w1 w7 [w.heap.size] ∧ (Known w7 [(w.heap.size, [((0 : Nat), Value.string fs), ((1 : Nat), Value.slice fq fn fc)])] → R (Ending.returned (Value.bool t8)) w7)
 else
 bif decide ((↑m : Int) > (70000 : Int)) then
 Known w1 [(w.heap.size, [((0 : Nat), Value.string fs), ((1 : Nat), Value.slice fq fn fc)])] →
 Rets Tryd.prog (83 : Nat) #[] w1 fun (v9 : Value) (w10 : World) =>
 ∃ (t11 : Bool),
 v9 = Value.bool t11 ∧ Keeps w1 w10 [w.heap.size] ∧ (Known w10 [(w.heap.size, [((0 : Nat), Value.string fs), ((1 : Nat), Value.slice fq fn fc)])] → R (Ending.returned (Value.bool t11)) w10)
 else
 ∃ (I12 : Int → World → Prop),
 ∃ (I13 : Int → World → Nat),
 I12 (0 : Int) w1 ∧
 ∀ (i14 : Int) (w15 : World),
 I12 i14 w15 →
 Known w15 [(w.heap.size, [((0 : Nat), Value.string fs), ((1 : Nat), Value.slice fq fn fc)])] →
 bif decide (i14 < (2 : Int)) then
 Known w15 [(w.heap.size, [((0 : Nat), Value.string fs), ((1 : Nat), Value.slice fq fn fc)])] →
 Rets Tryd.prog (93 : Nat) #[] w15 fun (v16 : Value) (w17 : World) =>
 ∃ (q18 : Option Addr),
 v16 = Value.pointer q18 ∧
 Keeps w15 w17 [w.heap.size] ∧
 bif q18.isNone then Known w17 [(w.heap.size, [((0 : Nat), Value.string fs), ((1 : Nat), Value.slice fq fn fc)])] → R (Ending.returned (Value.bool false)) w17
 else
 ∃ (I19 : ByteArray → Option Addr → Nat → Nat → World → Prop),
 (∀ (s20 : ByteArray) (q21 : Option Addr) (n22 n23 : Nat) (w24 : World),
 I19 s20 q21 n22 n23 w24 →
 Known w24 [(w.heap.size, [((0 : Nat), Value.string s20), ((1 : Nat), Value.slice q21 n22 n23)])] →
 Known
 ((((((((w24.alloc
 (Obj.cells
 #[Value.int IntKind.i64 (0 : Int), Value.string { data := #[] }, Value.slice none (0 : Nat) (0 : Nat),
 Value.int IntKind.i64 (0 : Int), Value.slice none (0 : Nat) (0 : Nat), Value.int IntKind.i64 (0 : Int),
 Value.int IntKind.u8 (0 : Int)]
 (124 : Nat))).setCell
 {block := w24.heap.size, off := (0 : Nat) } (Value.int IntKind.i64 (8 : Int))).setCell
 {block := w24.heap.size, off := (1 : Nat) } (Value.string s20)).setCell
 {block := w24.heap.size, off := (2 : Nat) } (Value.slice none (0 : Nat) (0 : Nat))).setCell
 {block := w24.heap.size, off := (3 : Nat) } (Value.int IntKind.i64 (0 : Int))).setCell
 {block := w24.heap.size, off := (4 : Nat) } (Value.slice none (0 : Nat) (0 : Nat))).setCell
 {block := w24.heap.size, off := (5 : Nat) } (Value.int IntKind.i64 (0 : Int))).setCell
 {block := w24.heap.size, off := (6 : Nat) } (Value.int IntKind.u8 (0 : Int))).drew
 [(w.heap.size, [((0 : Nat), Value.string s20), ((1 : Nat), Value.slice q21 n22 n23)]),
 (w24.heap.size,
 [((0 : Nat), Value.int IntKind.i64 (8 : Int)), ((1 : Nat), Value.string s20), ((2 : Nat), Value.slice none (0 : Nat) (0 : Nat)),
 ((3 : Nat), Value.int IntKind.i64 (0 : Int)), ((4 : Nat), Value.slice none (0 : Nat) (0 : Nat)), ((5 : Nat), Value.int IntKind.i64 (0 : Int)),
 ((6 : Nat), Value.int IntKind.u8 (0 : Int))])] →
 Rets Tryd.prog (94 : Nat)
 #[Value.pointer q18,
 Value.agg
 #[Value.int IntKind.i64 (8 : Int), Value.string s20, Value.slice none (0 : Nat) (0 : Nat), Value.int IntKind.i64 (0 : Int),
 Value.slice none (0 : Nat) (0 : Nat), Value.int IntKind.i64 (0 : Int), Value.int IntKind.u8 (0 : Int)],
 Value.agg
 #[Value.int IntKind.i64 (0 : Int), Value.slice q21 n22 n23, Value.int IntKind.i64 (0 : Int), Value.slice none (0 : Nat) (0 : Nat),
 Value.slice none (0 : Nat) (0 : Nat), Value.bool false, Value.bool false]]
 ((((((((w24.alloc
 (Obj.cells
 #[Value.int IntKind.i64 (0 : Int), Value.string { data := #[] }, Value.slice none (0 : Nat) (0 : Nat),
 Value.int IntKind.i64 (0 : Int), Value.slice none (0 : Nat) (0 : Nat), Value.int IntKind.i64 (0 : Int),
 Value.int IntKind.u8 (0 : Int)]
 (124 : Nat))).setCell
 {block := w24.heap.size, off := (0 : Nat) } (Value.int IntKind.i64 (8 : Int))).setCell
 {block := w24.heap.size, off := (1 : Nat) } (Value.string s20)).setCell
 {block := w24.heap.size, off := (2 : Nat) } (Value.slice none (0 : Nat) (0 : Nat))).setCell
 {block := w24.heap.size, off := (3 : Nat) } (Value.int IntKind.i64 (0 : Int))).setCell
 {block := w24.heap.size, off := (4 : Nat) } (Value.slice none (0 : Nat) (0 : Nat))).setCell
 {block := w24.heap.size, off := (5 : Nat) } (Value.int IntKind.i64 (0 : Int))).setCell
 {block := w24.heap.size, off := (6 : Nat) } (Value.int IntKind.u8 (0 : Int))).drew
 fun (v25 : Value) (w26 : World) =>
 ∃ (t27 : Bool),
 v25 = Value.bool t27 ∧
 Keeps
 ((((((((w24.alloc
 (Obj.cells
 #[Value.int IntKind.i64 (0 : Int), Value.string { data := #[] }, Value.slice none (0 : Nat) (0 : Nat),
 Value.int IntKind.i64 (0 : Int), Value.slice none (0 : Nat) (0 : Nat), Value.int IntKind.i64 (0 : Int),
 Value.int IntKind.u8 (0 : Int)]
 (124 : Nat))).setCell
 {block := w24.heap.size, off := (0 : Nat) } (Value.int IntKind.i64 (8 : Int))).setCell
 {block := w24.heap.size, off := (1 : Nat) } (Value.string s20)).setCell
 {block := w24.heap.size, off := (2 : Nat) } (Value.slice none (0 : Nat) (0 : Nat))).setCell
 {block := w24.heap.size, off := (3 : Nat) } (Value.int IntKind.i64 (0 : Int))).setCell
 {block := w24.heap.size, off := (4 : Nat) } (Value.slice none (0 : Nat) (0 : Nat))).setCell
 {block := w24.heap.size, off := (5 : Nat) } (Value.int IntKind.i64 (0 : Int))).setCell
 {block := w24.heap.size, off := (6 : Nat) } (Value.int IntKind.u8 (0 : Int))).drew
 w26 [w.heap.size, w24.heap.size] ∧
 bif !t27 then
 Known w26
 [(w.heap.size, [((0 : Nat), Value.string s20), ((1 : Nat), Value.slice q21 n22 n23)]),
 (w24.heap.size,
 [((0 : Nat), Value.int IntKind.i64 (8 : Int)), ((1 : Nat), Value.string s20), ((2 : Nat), Value.slice none (0 : Nat) (0 : Nat)),
 ((3 : Nat), Value.int IntKind.i64 (0 : Int)), ((4 : Nat), Value.slice none (0 : Nat) (0 : Nat)), ((5 : Nat), Value.int IntKind.i64 (0 : Int)),
 ((6 : Nat), Value.int IntKind.u8 (0 : Int))])] →
 R (Ending.returned (Value.bool false)) w26
 else
 ∃ (s28 : ByteArray),
 s28.size = m ∧
 BytesAt w26 r s28 ∧
 ∃ (s29 : ByteArray),
 s29.size = n22 ∧
 BytesAt w26 q21 s29 ∧
 (Known w26
 [(w.heap.size, [((0 : Nat), Value.string s20), ((1 : Nat), Value.slice q21 n22 n23)]),
 (w24.heap.size,
 [((0 : Nat), Value.int IntKind.i64 (8 : Int)), ((1 : Nat), Value.string s20), ((2 : Nat), Value.slice none (0 : Nat) (0 : Nat)),
 ((3 : Nat), Value.int IntKind.i64 (0 : Int)), ((4 : Nat), Value.slice none (0 : Nat) (0 : Nat)),
 ((5 : Nat), Value.int IntKind.i64 (0 : Int)), ((6 : Nat), Value.int IntKind.u8 (0 : Int))])] →
 Rets Tryd.prog (94 : Nat)
 #[Value.pointer q18,
 Value.agg
 #[Value.int IntKind.i64 (8 : Int), Value.string s20, Value.slice none (0 : Nat) (0 : Nat), Value.int IntKind.i64 (0 : Int),
 Value.slice none (0 : Nat) (0 : Nat), Value.int IntKind.i64 (0 : Int), Value.int IntKind.u8 (0 : Int)],
 Value.agg
 #[Value.int IntKind.i64 (0 : Int), Value.slice r m d, Value.int IntKind.i64 (0 : Int), Value.slice none (0 : Nat) (0 : Nat),
 Value.slice none (0 : Nat) (0 : Nat), Value.bool false, Value.bool false]]
 w26 fun (v30 : Value) (w31 : World) =>
 ∃ (t32 : Bool),
 v30 = Value.bool t32 ∧
 Keeps w26 w31 [w.heap.size, w24.heap.size] ∧
 BytesAt w31 q21 s29 ∧
 w31.cell? { block := w.heap.size, off := (1 : Nat) } = some (Value.slice q21 n22 n23) ∧
 BytesAt w31 r s28 ∧
 bif !t32 == (s28.toList == s29.toList) then
 Known w31
 [(w.heap.size, [((0 : Nat), Value.string s20), ((1 : Nat), Value.slice q21 n22 n23)]),
 (w24.heap.size,
 [((0 : Nat), Value.int IntKind.i64 (8 : Int)), ((1 : Nat), Value.string s20),
 ((2 : Nat), Value.slice none (0 : Nat) (0 : Nat)), ((3 : Nat), Value.int IntKind.i64 (0 : Int)),
 ((4 : Nat), Value.slice none (0 : Nat) (0 : Nat)), ((5 : Nat), Value.int IntKind.i64 (0 : Int)),
 ((6 : Nat), Value.int IntKind.u8 (0 : Int))])] →
 R (Ending.returned (Value.bool false)) w31
 else
 Known w31
 [(w.heap.size, [((0 : Nat), Value.string s20), ((1 : Nat), Value.slice q21 n22 n23)]),
 (w24.heap.size,
 [((0 : Nat), Value.int IntKind.i64 (8 : Int)), ((1 : Nat), Value.string s20),
 ((2 : Nat), Value.slice none (0 : Nat) (0 : Nat)), ((3 : Nat), Value.int IntKind.i64 (0 : Int)),
 ((4 : Nat), Value.slice none (0 : Nat) (0 : Nat)), ((5 : Nat), Value.int IntKind.i64 (0 : Int)),
 ((6 : Nat), Value.int IntKind.u8 (0 : Int))])] →
 Rets Tryd.prog (94 : Nat)
 #[Value.pointer q18,
 Value.agg
 #[Value.int IntKind.i64 (8 : Int), Value.string s20, Value.slice none (0 : Nat) (0 : Nat),
 Value.int IntKind.i64 (0 : Int), Value.slice none (0 : Nat) (0 : Nat), Value.int IntKind.i64 (0 : Int),
 Value.int IntKind.u8 (0 : Int)],
 Value.agg
 #[Value.int IntKind.i64 (7 : Int), Value.slice none (0 : Nat) (0 : Nat), Value.int IntKind.i64 (0 : Int),
 Value.slice none (0 : Nat) (0 : Nat), Value.slice none (0 : Nat) (0 : Nat), Value.bool false, Value.bool false]]
 w31 fun (v33 : Value) (w34 : World) =>
 ∃ (t35 : Bool),
 v33 = Value.bool t35 ∧
 Keeps w31 w34 [w.heap.size, w24.heap.size] ∧
 bif t35 then
 Known w34
 [(w.heap.size, [((0 : Nat), Value.string s20), ((1 : Nat), Value.slice q21 n22 n23)]),
 (w24.heap.size,
 [((0 : Nat), Value.int IntKind.i64 (8 : Int)), ((1 : Nat), Value.string s20),
 ((2 : Nat), Value.slice none (0 : Nat) (0 : Nat)), ((3 : Nat), Value.int IntKind.i64 (0 : Int)),
 ((4 : Nat), Value.slice none (0 : Nat) (0 : Nat)), ((5 : Nat), Value.int IntKind.i64 (0 : Int)),
 ((6 : Nat), Value.int IntKind.u8 (0 : Int))])] →
 R (Ending.returned (Value.bool false)) w34
 else
 Known w34
 [(w.heap.size, [((0 : Nat), Value.string s20), ((1 : Nat), Value.slice q21 n22 n23)]),
 (w24.heap.size,
 [((0 : Nat), Value.int IntKind.i64 (8 : Int)), ((1 : Nat), Value.string s20),
 ((2 : Nat), Value.slice none (0 : Nat) (0 : Nat)), ((3 : Nat), Value.int IntKind.i64 (0 : Int)),
 ((4 : Nat), Value.slice none (0 : Nat) (0 : Nat)), ((5 : Nat), Value.int IntKind.i64 (0 : Int)),
 ((6 : Nat), Value.int IntKind.u8 (0 : Int))])] →
 Rets Tryd.prog (94 : Nat)
 #[Value.pointer q18,
 Value.agg
 #[Value.int IntKind.i64 (9 : Int), Value.string s20, Value.slice none (0 : Nat) (0 : Nat),
 Value.int IntKind.i64 (0 : Int), Value.slice none (0 : Nat) (0 : Nat), Value.int IntKind.i64 (0 : Int),
 Value.int IntKind.u8 (0 : Int)],
 Value.agg
 #[Value.int IntKind.i64 (0 : Int), Value.slice none (0 : Nat) (0 : Nat),
 Value.int IntKind.i64 (↑n22 : Int), Value.slice none (0 : Nat) (0 : Nat),
 Value.slice none (0 : Nat) (0 : Nat), Value.bool false, Value.bool false]]
 w34 fun (v36 : Value) (w37 : World) =>
 ∃ (t38 : Bool),
 v36 = Value.bool t38 ∧
 Keeps w34 w37 [w.heap.size, w24.heap.size] ∧
 bif !t38 then
 Known w37
 [(w.heap.size, [((0 : Nat), Value.string s20), ((1 : Nat), Value.slice q21 n22 n23)]),
 (w24.heap.size,
 [((0 : Nat), Value.int IntKind.i64 (8 : Int)), ((1 : Nat), Value.string s20),
 ((2 : Nat), Value.slice none (0 : Nat) (0 : Nat)),
 ((3 : Nat), Value.int IntKind.i64 (0 : Int)),
 ((4 : Nat), Value.slice none (0 : Nat) (0 : Nat)),
 ((5 : Nat), Value.int IntKind.i64 (0 : Int)),
 ((6 : Nat), Value.int IntKind.u8 (0 : Int))])] →
 R (Ending.returned (Value.bool false)) w37
 else
 Known (w37.alloc (Obj.cells #[Value.string s20] (9 : Nat)))
 [(w.heap.size, [((0 : Nat), Value.string s20), ((1 : Nat), Value.slice q21 n22 n23)]),
 (w24.heap.size,
 [((0 : Nat), Value.int IntKind.i64 (8 : Int)), ((1 : Nat), Value.string s20),
 ((2 : Nat), Value.slice none (0 : Nat) (0 : Nat)),
 ((3 : Nat), Value.int IntKind.i64 (0 : Int)),
 ((4 : Nat), Value.slice none (0 : Nat) (0 : Nat)),
 ((5 : Nat), Value.int IntKind.i64 (0 : Int)),
 ((6 : Nat), Value.int IntKind.u8 (0 : Int))])] →
 Rets Tryd.prog (94 : Nat)
 #[Value.pointer q18,
 Value.agg
 #[Value.int IntKind.i64 (10 : Int), Value.string { data := #[] },
 Value.slice none (0 : Nat) (0 : Nat), Value.int IntKind.i64 (0 : Int),
 Value.slice none (0 : Nat) (0 : Nat), Value.int IntKind.i64 (0 : Int),
 Value.int IntKind.u8 (0 : Int)],
 Value.agg
 #[Value.int IntKind.i64 (0 : Int), Value.slice none (0 : Nat) (0 : Nat),
 Value.int IntKind.i64 (0 : Int),
 Value.slice (some { block := w37.heap.size, off := (0 : Nat) }) (1 : Nat) (1 : Nat),
 Value.slice none (0 : Nat) (0 : Nat), Value.bool false, Value.bool false]]
 (w37.alloc (Obj.cells #[Value.string s20] (9 : Nat))) fun (v39 : Value) (w40 : World) =>
 ∃ (t41 : Bool),
 v39 = Value.bool t41 ∧
 Keeps (w37.alloc (Obj.cells #[Value.string s20] (9 : Nat))) w40 [w.heap.size, w24.heap.size] ∧
 bif !t41 then
 Known w40
 [(w.heap.size, [((0 : Nat), Value.string s20), ((1 : Nat), Value.slice q21 n22 n23)]),
 (w24.heap.size,
 [((0 : Nat), Value.int IntKind.i64 (8 : Int)), ((1 : Nat), Value.string s20),
 ((2 : Nat), Value.slice none (0 : Nat) (0 : Nat)),
 ((3 : Nat), Value.int IntKind.i64 (0 : Int)),
 ((4 : Nat), Value.slice none (0 : Nat) (0 : Nat)),
 ((5 : Nat), Value.int IntKind.i64 (0 : Int)),
 ((6 : Nat), Value.int IntKind.u8 (0 : Int))])] →
 R (Ending.returned (Value.bool false)) w40
 else
 Known w40
 [(w.heap.size, [((0 : Nat), Value.string s20), ((1 : Nat), Value.slice q21 n22 n23)]),
 (w24.heap.size,
 [((0 : Nat), Value.int IntKind.i64 (8 : Int)), ((1 : Nat), Value.string s20),
 ((2 : Nat), Value.slice none (0 : Nat) (0 : Nat)),
 ((3 : Nat), Value.int IntKind.i64 (0 : Int)),
 ((4 : Nat), Value.slice none (0 : Nat) (0 : Nat)),
 ((5 : Nat), Value.int IntKind.i64 (0 : Int)),
 ((6 : Nat), Value.int IntKind.u8 (0 : Int))])] →
 Rets Tryd.prog (94 : Nat)
 #[Value.pointer q18,
 Value.agg
 #[Value.int IntKind.i64 (10 : Int), Value.string { data := #[] },
 Value.slice none (0 : Nat) (0 : Nat), Value.int IntKind.i64 (0 : Int),
 Value.slice none (0 : Nat) (0 : Nat), Value.int IntKind.i64 (0 : Int),
 Value.int IntKind.u8 (0 : Int)],
 Value.agg
 #[Value.int IntKind.i64 (0 : Int), Value.slice none (0 : Nat) (0 : Nat),
 Value.int IntKind.i64 (0 : Int), Value.slice none (0 : Nat) (0 : Nat),
 Value.slice none (0 : Nat) (0 : Nat), Value.bool false, Value.bool false]]
 w40 fun (v42 : Value) (w43 : World) =>
 ∃ (t44 : Bool),
 v42 = Value.bool t44 ∧
 Keeps w40 w43 [w.heap.size, w24.heap.size] ∧
 bif t44 then
 Known w43
 [(w.heap.size,
 [((0 : Nat), Value.string s20),
 ((1 : Nat), Value.slice q21 n22 n23)]),
 (w24.heap.size,
 [((0 : Nat), Value.int IntKind.i64 (8 : Int)),
 ((1 : Nat), Value.string s20),
 ((2 : Nat), Value.slice none (0 : Nat) (0 : Nat)),
 ((3 : Nat), Value.int IntKind.i64 (0 : Int)),
 ((4 : Nat), Value.slice none (0 : Nat) (0 : Nat)),
 ((5 : Nat), Value.int IntKind.i64 (0 : Int)),
 ((6 : Nat), Value.int IntKind.u8 (0 : Int))])] →
 R (Ending.returned (Value.bool false)) w43
 else
 Known w43
 [(w.heap.size,
 [((0 : Nat), Value.string s20),
 ((1 : Nat), Value.slice q21 n22 n23)]),
 (w24.heap.size,
 [((0 : Nat), Value.int IntKind.i64 (8 : Int)),
 ((1 : Nat), Value.string s20),
 ((2 : Nat), Value.slice none (0 : Nat) (0 : Nat)),
 ((3 : Nat), Value.int IntKind.i64 (0 : Int)),
 ((4 : Nat), Value.slice none (0 : Nat) (0 : Nat)),
 ((5 : Nat), Value.int IntKind.i64 (0 : Int)),
 ((6 : Nat), Value.int IntKind.u8 (0 : Int))])] →
 Rets Tryd.prog (94 : Nat)
 #[Value.pointer q18,
 Value.agg
 #[Value.int IntKind.i64 (11 : Int), Value.string s20,
 Value.slice none (0 : Nat) (0 : Nat),
 Value.int IntKind.i64 (0 : Int),
 Value.slice none (0 : Nat) (0 : Nat),
 Value.int IntKind.i64 (0 : Int), Value.int IntKind.u8 (0 : Int)],
 Value.agg
 #[Value.int IntKind.i64 (0 : Int),
 Value.slice none (0 : Nat) (0 : Nat),
 Value.int IntKind.i64 (0 : Int),
 Value.slice none (0 : Nat) (0 : Nat),
 Value.slice none (0 : Nat) (0 : Nat), Value.bool false,
 Value.bool false]]
 w43 fun (v45 : Value) (w46 : World) =>
 ∃ (t47 : Bool),
 v45 = Value.bool t47 ∧
 Keeps w43 w46 [w.heap.size, w24.heap.size] ∧
 bif !t47 then
 Known w46
 [(w.heap.size,
 [((0 : Nat), Value.string s20),
 ((1 : Nat), Value.slice q21 n22 n23)]),
 (w24.heap.size,
 [((0 : Nat), Value.int IntKind.i64 (8 : Int)),
 ((1 : Nat), Value.string s20),
 ((2 : Nat), Value.slice none (0 : Nat) (0 : Nat)),
 ((3 : Nat), Value.int IntKind.i64 (0 : Int)),
 ((4 : Nat), Value.slice none (0 : Nat) (0 : Nat)),
 ((5 : Nat), Value.int IntKind.i64 (0 : Int)),
 ((6 : Nat), Value.int IntKind.u8 (0 : Int))])] →
 R (Ending.returned (Value.bool false)) w46
 else
 Known w46
 [(w.heap.size,
 [((0 : Nat), Value.string s20),
 ((1 : Nat), Value.slice q21 n22 n23)]),
 (w24.heap.size,
 [((0 : Nat), Value.int IntKind.i64 (8 : Int)),
 ((1 : Nat), Value.string s20),
 ((2 : Nat), Value.slice none (0 : Nat) (0 : Nat)),
 ((3 : Nat), Value.int IntKind.i64 (0 : Int)),
 ((4 : Nat), Value.slice none (0 : Nat) (0 : Nat)),
 ((5 : Nat), Value.int IntKind.i64 (0 : Int)),
 ((6 : Nat), Value.int IntKind.u8 (0 : Int))])] →
 Rets Tryd.prog (94 : Nat)
 #[Value.pointer q18,
 Value.agg
 #[Value.int IntKind.i64 (8 : Int), Value.string s20,
 Value.slice none (0 : Nat) (0 : Nat),
 Value.int IntKind.i64 (0 : Int),
 Value.slice none (0 : Nat) (0 : Nat),
 Value.int IntKind.i64 (0 : Int),
 Value.int IntKind.u8 (0 : Int)],
 Value.agg
 #[Value.int IntKind.i64 (7 : Int),
 Value.slice none (0 : Nat) (0 : Nat),
 Value.int IntKind.i64 (0 : Int),
 Value.slice none (0 : Nat) (0 : Nat),
 Value.slice none (0 : Nat) (0 : Nat), Value.bool false,
 Value.bool false]]
 w46 fun (v48 : Value) (w49 : World) =>
 ∃ (t50 : Bool),
 v48 = Value.bool t50 ∧
 Keeps w46 w49 [w.heap.size, w24.heap.size] ∧
 bif !t50 then
 Known w49
 [(w.heap.size,
 [((0 : Nat), Value.string s20),
 ((1 : Nat), Value.slice q21 n22 n23)]),
 (w24.heap.size,
 [((0 : Nat), Value.int IntKind.i64 (8 : Int)),
 ((1 : Nat), Value.string s20),
 ((2 : Nat),
 Value.slice none (0 : Nat) (0 : Nat)),
 ((3 : Nat),
 Value.int IntKind.i64 (0 : Int)),
 ((4 : Nat),
 Value.slice none (0 : Nat) (0 : Nat)),
 ((5 : Nat),
 Value.int IntKind.i64 (0 : Int)),
 ((6 : Nat),
 Value.int IntKind.u8 (0 : Int))])] →
 R (Ending.returned (Value.bool false)) w49
 else
 Known w49
 [(w.heap.size,
 [((0 : Nat), Value.string s20),
 ((1 : Nat), Value.slice q21 n22 n23)]),
 (w24.heap.size,
 [((0 : Nat), Value.int IntKind.i64 (8 : Int)),
 ((1 : Nat), Value.string s20),
 ((2 : Nat),
 Value.slice none (0 : Nat) (0 : Nat)),
 ((3 : Nat),
 Value.int IntKind.i64 (0 : Int)),
 ((4 : Nat),
 Value.slice none (0 : Nat) (0 : Nat)),
 ((5 : Nat),
 Value.int IntKind.i64 (0 : Int)),
 ((6 : Nat),
 Value.int IntKind.u8 (0 : Int))])] →
 Rets Tryd.prog (94 : Nat)
 #[Value.pointer q18,
 Value.agg
 #[Value.int IntKind.i64 (10 : Int),
 Value.string { data := #[] },
 Value.slice none (0 : Nat) (0 : Nat),
 Value.int IntKind.i64 (0 : Int),
 Value.slice none (0 : Nat) (0 : Nat),
 Value.int IntKind.i64 (0 : Int),
 Value.int IntKind.u8 (0 : Int)],
 Value.agg
 #[Value.int IntKind.i64 (0 : Int),
 Value.slice none (0 : Nat) (0 : Nat),
 Value.int IntKind.i64 (0 : Int),
 Value.slice none (0 : Nat) (0 : Nat),
 Value.slice none (0 : Nat) (0 : Nat),
 Value.bool false, Value.bool false]]
 w49 fun (v51 : Value) (w52 : World) =>
 ∃ (t53 : Bool),
 v51 = Value.bool t53 ∧
 Keeps w49 w52 [w.heap.size, w24.heap.size] ∧
 bif !t53 then
 Known w52
 [(w.heap.size,
 [((0 : Nat), Value.string s20),
 ((1 : Nat),
 Value.slice q21 n22 n23)]),
 (w24.heap.size,
 [((0 : Nat),
 Value.int IntKind.i64
 (8 : Int)),
 ((1 : Nat), Value.string s20),
 ((2 : Nat),
 Value.slice none (0 : Nat)
 (0 : Nat)),
 ((3 : Nat),
 Value.int IntKind.i64
 (0 : Int)),
 ((4 : Nat),
 Value.slice none (0 : Nat)
 (0 : Nat)),
 ((5 : Nat),
 Value.int IntKind.i64
 (0 : Int)),
 ((6 : Nat),
 Value.int IntKind.u8
 (0 : Int))])] →
 R (Ending.returned (Value.bool false))
 w52
 else
 Wr IntKind.i64 (i14 + (1 : Int))
 fun (i54 : Int) =>
 SameVals
 [Value.string s20,
 Value.slice q21 n22 n23]
 [Value.string fs,
 Value.slice fq fn fc] ∧
 I12 i54 w52 ∧
 I13 i54 w52 < I13 i14 w15)) ∧
 bif i14 == (0 : Int) then
 Known w17 [(w.heap.size, [((0 : Nat), Value.string fs), ((1 : Nat), Value.slice fq fn fc)])] →
 Rets Tryd.prog (94 : Nat)
 #[Value.pointer q18,
 Value.agg
 #[Value.int IntKind.i64 (3 : Int), Value.string fs, Value.slice fq fn fc, Value.int IntKind.i64 (0 : Int), Value.slice none (0 : Nat) (0 : Nat),
 Value.int IntKind.i64 (0 : Int), Value.int IntKind.u8 (0 : Int)],
 Value.agg
 #[Value.int IntKind.i64 (0 : Int), Value.slice none (0 : Nat) (0 : Nat), Value.int IntKind.i64 (0 : Int), Value.slice none (0 : Nat) (0 : Nat),
 Value.slice none (0 : Nat) (0 : Nat), Value.bool false, Value.bool false]]
 w17 fun (v55 : Value) (w56 : World) =>
 ∃ (t57 : Bool),
 v55 = Value.bool t57 ∧
 Keeps w17 w56 [w.heap.size] ∧
 bif !t57 then Known w56 [(w.heap.size, [((0 : Nat), Value.string fs), ((1 : Nat), Value.slice fq fn fc)])] → R (Ending.returned (Value.bool false)) w56
 else I19 fs fq fn fc w56
 else
 Known w17 [(w.heap.size, [((0 : Nat), Value.string fs), ((1 : Nat), Value.slice fq fn fc)])] →
 Rets Tryd.prog (94 : Nat)
 #[Value.pointer q18,
 Value.agg
 #[Value.int IntKind.i64 (4 : Int), Value.string fs, Value.slice none (0 : Nat) (0 : Nat), Value.int IntKind.i64 (0 : Int), Value.slice none (0 : Nat) (0 : Nat),
 Value.int IntKind.i64 (0 : Int), Value.int IntKind.u8 (0 : Int)],
 Value.agg
 #[Value.int IntKind.i64 (0 : Int), Value.slice none (0 : Nat) (0 : Nat), Value.int IntKind.i64 (0 : Int), Value.slice none (0 : Nat) (0 : Nat),
 Value.slice none (0 : Nat) (0 : Nat), Value.bool false, Value.bool false]]
 w17 fun (v58 : Value) (w59 : World) =>
 ∃ (t60 : Bool),
 v58 = Value.bool t60 ∧
 Keeps w17 w59 [w.heap.size] ∧
 bif !t60 then Known w59 [(w.heap.size, [((0 : Nat), Value.string fs), ((1 : Nat), Value.slice fq fn fc)])] → R (Ending.returned (Value.bool false)) w59
 else
 Known w59 [(w.heap.size, [((0 : Nat), Value.string fs), ((1 : Nat), Value.slice fq fn fc)])] →
 Rets Tryd.prog (94 : Nat)
 #[Value.pointer q18,
 Value.agg
 #[Value.int IntKind.i64 (8 : Int), Value.string fs, Value.slice none (0 : Nat) (0 : Nat), Value.int IntKind.i64 (0 : Int),
 Value.slice none (0 : Nat) (0 : Nat), Value.int IntKind.i64 (0 : Int), Value.int IntKind.u8 (0 : Int)],
 Value.agg
 #[Value.int IntKind.i64 (7 : Int), Value.slice none (0 : Nat) (0 : Nat), Value.int IntKind.i64 (0 : Int), Value.slice none (0 : Nat) (0 : Nat),
 Value.slice none (0 : Nat) (0 : Nat), Value.bool false, Value.bool false]]
 w59 fun (v61 : Value) (w62 : World) =>
 ∃ (t63 : Bool),
 v61 = Value.bool t63 ∧
 Keeps w59 w62 [w.heap.size] ∧
 bif !t63 then
 Known w62 [(w.heap.size, [((0 : Nat), Value.string fs), ((1 : Nat), Value.slice fq fn fc)])] → R (Ending.returned (Value.bool false)) w62
 else
 Known w62 [(w.heap.size, [((0 : Nat), Value.string fs), ((1 : Nat), Value.slice fq fn fc)])] →
 Rets Tryd.prog (94 : Nat)
 #[Value.pointer q18,
 Value.agg
 #[Value.int IntKind.i64 (3 : Int), Value.string fs, Value.slice none (0 : Nat) (0 : Nat), Value.int IntKind.i64 (0 : Int),
 Value.slice none (0 : Nat) (0 : Nat), Value.int IntKind.i64 (0 : Int), Value.int IntKind.u8 (0 : Int)],
 Value.agg
 #[Value.int IntKind.i64 (8 : Int), Value.slice none (0 : Nat) (0 : Nat), Value.int IntKind.i64 (0 : Int),
 Value.slice none (0 : Nat) (0 : Nat), Value.slice none (0 : Nat) (0 : Nat), Value.bool false, Value.bool false]]
 w62 fun (v64 : Value) (w65 : World) =>
 ∃ (t66 : Bool),
 v64 = Value.bool t66 ∧
 Keeps w62 w65 [w.heap.size] ∧
 bif !t66 then
 Known w65 [(w.heap.size, [((0 : Nat), Value.string fs), ((1 : Nat), Value.slice fq fn fc)])] →
 R (Ending.returned (Value.bool false)) w65
 else
 Known w65 [(w.heap.size, [((0 : Nat), Value.string fs), ((1 : Nat), Value.slice fq fn fc)])] →
 Rets Tryd.prog (94 : Nat)
 #[Value.pointer q18,
 Value.agg
 #[Value.int IntKind.i64 (5 : Int), Value.string { data := #[] }, Value.slice fq fn fc, Value.int IntKind.i64 (0 : Int),
 Value.slice none (0 : Nat) (0 : Nat), Value.int IntKind.i64 (0 : Int), Value.int IntKind.u8 (0 : Int)],
 Value.agg
 #[Value.int IntKind.i64 (0 : Int), Value.slice none (0 : Nat) (0 : Nat), Value.int IntKind.i64 (0 : Int),
 Value.slice none (0 : Nat) (0 : Nat), Value.slice none (0 : Nat) (0 : Nat), Value.bool false, Value.bool false]]
 w65 fun (v67 : Value) (w68 : World) =>
 ∃ (t69 : Bool),
 v67 = Value.bool t69 ∧
 Keeps w65 w68 [w.heap.size] ∧
 bif !t69 then
 Known w68 [(w.heap.size, [((0 : Nat), Value.string fs), ((1 : Nat), Value.slice fq fn fc)])] →
 R (Ending.returned (Value.bool false)) w68
 else
 Known w68 [(w.heap.size, [((0 : Nat), Value.string fs), ((1 : Nat), Value.slice fq fn fc)])] →
 Rets Tryd.prog (94 : Nat)
 #[Value.pointer q18,
 Value.agg
 #[Value.int IntKind.i64 (6 : Int), Value.string { data := #[] }, Value.slice none (0 : Nat) (0 : Nat),
 Value.int IntKind.i64 (0 : Int), Value.slice none (0 : Nat) (0 : Nat), Value.int IntKind.i64 (0 : Int),
 Value.int IntKind.u8 (0 : Int)],
 Value.agg
 #[Value.int IntKind.i64 (0 : Int), Value.slice none (0 : Nat) (0 : Nat), Value.int IntKind.i64 (0 : Int),
 Value.slice none (0 : Nat) (0 : Nat), Value.slice none (0 : Nat) (0 : Nat), Value.bool false, Value.bool false]]
 w68 fun (v70 : Value) (w71 : World) =>
 ∃ (t72 : Bool),
 v70 = Value.bool t72 ∧
 Keeps w68 w71 [w.heap.size] ∧
 bif !t72 then
 Known w71 [(w.heap.size, [((0 : Nat), Value.string fs), ((1 : Nat), Value.slice fq fn fc)])] →
 R (Ending.returned (Value.bool false)) w71
 else I19 fs fq fn fc w71
 else
 Known w15 [(w.heap.size, [((0 : Nat), Value.string fs), ((1 : Nat), Value.slice fq fn fc)])] →
 Rets Tryd.prog (83 : Nat) #[] w15 fun (v73 : Value) (w74 : World) =>
 ∃ (t75 : Bool),
 v73 = Value.bool t75 ∧
 Keeps w15 w74 [w.heap.size] ∧ (Known w74 [(w.heap.size, [((0 : Nat), Value.string fs), ((1 : Nat), Value.slice fq fn fc)])] → R (Ending.returned (Value.bool t75)) w74)
theorem vcTryd21 (fs : ByteArray) (fq : Option Addr) (fn fc : Nat) (r : Option Addr) (m d : Nat) (w : World) (R : Ending → World → Prop) : SX.vcFn Tryd.prog [(1000014, ⟨[], [6, 1, 2, 5], [(0, 0, .str), (0, 1, .slice)]⟩), (4, ⟨[(5, .int .i64)], [2, 1], []⟩)] Tryd.f21 [.v (.agg #[.string fs, .slice fq fn fc]), .v (.slice r m d)] [] w R = VCTryd21 fs fq fn fc r m d w R := by kernel_rfl
end Go.Proofs.YtbpknjldphckgaaDoor
