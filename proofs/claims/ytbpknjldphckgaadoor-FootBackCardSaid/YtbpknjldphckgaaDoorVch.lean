/- The conditions of functions, as the executor computes them: each is equal to what 'vcFn' says. -/
import Derived.Test.YtbpknjldphckgaaDoorSxLib
import Derived.Test.YtbpknjldphckgaaDoorProg
namespace Go.Proofs.YtbpknjldphckgaaDoor
open Go Go.SX Go.Proofs
set_option maxRecDepth 100000
set_option linter.unusedVariables false
def VCTryd57 (t : Option Addr) (n l u : Int) (w : World) (R : Ending → World → Prop) : Prop :=
Known (w.alloc (Obj.cells #[Value.int IntKind.i64 n, Value.int IntKind.i64 l, Value.int IntKind.u32 u] (68 : Nat)))
  [(w.heap.size, [((0 : Nat), Value.int IntKind.i64 n), ((1 : Nat), Value.int IntKind.i64 l), ((2 : Nat), Value.int IntKind.u32 u)])] →
 Rets Tryd.prog (59 : Nat) #[Value.agg #[Value.int IntKind.i64 n, Value.int IntKind.i64 l, Value.int IntKind.u32 u]]
  (w.alloc (Obj.cells #[Value.int IntKind.i64 n, Value.int IntKind.i64 l, Value.int IntKind.u32 u] (68 : Nat))) fun (v0 : Value) (w1 : World) =>
  ∃ (t2 : Bool),
   v0 = Value.bool t2 ∧
    Keeps (w.alloc (Obj.cells #[Value.int IntKind.i64 n, Value.int IntKind.i64 l, Value.int IntKind.u32 u] (68 : Nat))) w1 [w.heap.size] ∧
     bif !t2 then
      Known w1 [(w.heap.size, [((0 : Nat), Value.int IntKind.i64 n), ((1 : Nat), Value.int IntKind.i64 l), ((2 : Nat), Value.int IntKind.u32 u)])] →
       R (Ending.returned (Value.tuple #[Value.slice none (0 : Nat) (0 : Nat), Value.int IntKind.i64 (1 : Int)])) w1
     else
      Runs Tryd.prog (convert (27 : Nat) (27 : Nat) (Value.slice (some { block := w1.heap.size, off := (0 : Nat) }) (4 : Nat) (4 : Nat)))
       (w1.alloc (Obj.cells #[Value.int IntKind.u8 (70 : Int), Value.int IntKind.u8 (79 : Int), Value.int IntKind.u8 (79 : Int), Value.int IntKind.u8 (84 : Int)] (5 : Nat))) fun (v3 : Value) (w4 : World) =>
       ∃ (q5 : Option Addr),
        ∃ (n6 : Nat),
         ∃ (n7 : Nat),
          v3 = Value.slice q5 n6 n7 ∧
           Keeps (w1.alloc (Obj.cells #[Value.int IntKind.u8 (70 : Int), Value.int IntKind.u8 (79 : Int), Value.int IntKind.u8 (79 : Int), Value.int IntKind.u8 (84 : Int)] (5 : Nat))) w4 [w.heap.size] ∧
            Wr IntKind.u32 n fun (i8 : Int) =>
             Wr IntKind.u32 l fun (i9 : Int) =>
              ∃ (I10 : Int → Option Addr → Nat → Nat → World → Prop),
               ∃ (I11 : Int → Option Addr → Nat → Nat → World → Nat),
                I10 (0 : Int) q5 n6 n7 w4 ∧
                 ∀ (i12 : Int) (q13 : Option Addr) (n14 n15 : Nat) (w16 : World),
                  I10 i12 q13 n14 n15 w16 →
                   Known w16 [(w.heap.size, [((0 : Nat), Value.int IntKind.i64 n), ((1 : Nat), Value.int IntKind.i64 l), ((2 : Nat), Value.int IntKind.u32 u)])] →
                    bif decide (i12 < (3 : Int)) then
                     ((0 : Int) ≤ i12 ∧ i12 < (↑(3 : Nat) : Int)) ∧
                      ∃ (i17 : Int),
                       nth [Value.int IntKind.u32 i8, Value.int IntKind.u32 i9, Value.int IntKind.u32 u] i12.toNat = some (Value.int IntKind.u32 i17) ∧
                        (Known w16 [(w.heap.size, [((0 : Nat), Value.int IntKind.i64 n), ((1 : Nat), Value.int IntKind.i64 l), ((2 : Nat), Value.int IntKind.u32 u)])] →
                         Rets Tryd.prog (105 : Nat) #[Value.slice q13 n14 n15, Value.int IntKind.u32 i17, Value.int IntKind.i64 (4 : Int)] w16 fun (v18 : Value) (w19 : World) =>
                          ∃ (q20 : Option Addr),
                           ∃ (n21 : Nat),
                            ∃ (n22 : Nat),
                             v18 = Value.slice q20 n21 n22 ∧
                              Keeps w16 w19 [w.heap.size] ∧
                               Wr IntKind.i64 (i12 + (1 : Int)) fun (i23 : Int) =>
                                SameVals [Value.int IntKind.i64 n, Value.int IntKind.i64 l, Value.int IntKind.u32 u]
                                  [Value.int IntKind.i64 n, Value.int IntKind.i64 l, Value.int IntKind.u32 u] ∧
                                 I10 i23 q20 n21 n22 w19 ∧ I11 i23 q20 n21 n22 w19 < I11 i12 q13 n14 n15 w16)
                    else
                     Known w16 [(w.heap.size, [((0 : Nat), Value.int IntKind.i64 n), ((1 : Nat), Value.int IntKind.i64 l), ((2 : Nat), Value.int IntKind.u32 u)])] →
                      Rets Tryd.prog (106 : Nat) #[Value.pointer t, Value.slice q13 n14 n15] w16 fun (v24 : Value) (w25 : World) =>
                       ∃ (i26 : Int),
                        v24 = Value.int IntKind.u32 i26 ∧
                         Keeps w16 w25 [w.heap.size] ∧
                          (Known w25 [(w.heap.size, [((0 : Nat), Value.int IntKind.i64 n), ((1 : Nat), Value.int IntKind.i64 l), ((2 : Nat), Value.int IntKind.u32 u)])] →
                           Rets Tryd.prog (105 : Nat) #[Value.slice q13 n14 n15, Value.int IntKind.u32 i26, Value.int IntKind.i64 (4 : Int)] w25 fun (v27 : Value) (w28 : World) =>
                            ∃ (q29 : Option Addr),
                             ∃ (n30 : Nat),
                              ∃ (n31 : Nat),
                               v27 = Value.slice q29 n30 n31 ∧
                                Keeps w25 w28 [w.heap.size] ∧
                                 (Known w28 [(w.heap.size, [((0 : Nat), Value.int IntKind.i64 n), ((1 : Nat), Value.int IntKind.i64 l), ((2 : Nat), Value.int IntKind.u32 u)])] →
                                  R (Ending.returned (Value.tuple #[Value.slice q29 n30 n31, Value.int IntKind.i64 (0 : Int)])) w28))
theorem vcTryd57 (t : Option Addr) (n l u : Int) (w : World) (R : Ending → World → Prop) : SX.vcFn Tryd.prog [(5, ⟨[(23, .int .i64), (6, .slice)], [22, 0], []⟩)] Tryd.f57 [.v (.pointer t), .v (.agg #[.int .i64 n, .int .i64 l, .int .u32 u])] [] w R = VCTryd57 t n l u w R := by kernel_rfl
def VCTryd58 (n l u : Int) (w : World) (R : Ending → World → Prop) : Prop :=
bif decide (n ≥ (0 : Int)) then
 bif decide (n < (201 : Int)) then
  bif decide (l ≥ (0 : Int)) then
   Known (w.alloc (Obj.cells #[Value.int IntKind.i64 n, Value.int IntKind.i64 l, Value.int IntKind.u32 u] (71 : Nat)))
     [(w.heap.size, [((0 : Nat), Value.int IntKind.i64 n), ((1 : Nat), Value.int IntKind.i64 l), ((2 : Nat), Value.int IntKind.u32 u)])] →
    R (Ending.returned (Value.bool (decide (l < (16401 : Int))))) (w.alloc (Obj.cells #[Value.int IntKind.i64 n, Value.int IntKind.i64 l, Value.int IntKind.u32 u] (71 : Nat)))
  else
   Known (w.alloc (Obj.cells #[Value.int IntKind.i64 n, Value.int IntKind.i64 l, Value.int IntKind.u32 u] (71 : Nat)))
     [(w.heap.size, [((0 : Nat), Value.int IntKind.i64 n), ((1 : Nat), Value.int IntKind.i64 l), ((2 : Nat), Value.int IntKind.u32 u)])] →
    R (Ending.returned (Value.bool false)) (w.alloc (Obj.cells #[Value.int IntKind.i64 n, Value.int IntKind.i64 l, Value.int IntKind.u32 u] (71 : Nat)))
 else
  Known (w.alloc (Obj.cells #[Value.int IntKind.i64 n, Value.int IntKind.i64 l, Value.int IntKind.u32 u] (71 : Nat)))
    [(w.heap.size, [((0 : Nat), Value.int IntKind.i64 n), ((1 : Nat), Value.int IntKind.i64 l), ((2 : Nat), Value.int IntKind.u32 u)])] →
   R (Ending.returned (Value.bool false)) (w.alloc (Obj.cells #[Value.int IntKind.i64 n, Value.int IntKind.i64 l, Value.int IntKind.u32 u] (71 : Nat)))
else
 Known (w.alloc (Obj.cells #[Value.int IntKind.i64 n, Value.int IntKind.i64 l, Value.int IntKind.u32 u] (71 : Nat)))
   [(w.heap.size, [((0 : Nat), Value.int IntKind.i64 n), ((1 : Nat), Value.int IntKind.i64 l), ((2 : Nat), Value.int IntKind.u32 u)])] →
  R (Ending.returned (Value.bool false)) (w.alloc (Obj.cells #[Value.int IntKind.i64 n, Value.int IntKind.i64 l, Value.int IntKind.u32 u] (71 : Nat)))
theorem vcTryd58 (n l u : Int) (w : World) (R : Ending → World → Prop) : SX.vcFn Tryd.prog [] Tryd.f58 [.v (.agg #[.int .i64 n, .int .i64 l, .int .u32 u])] [] w R = VCTryd58 n l u w R := by kernel_rfl
def VCTryd59 (n l u : Int) (w : World) (R : Ending → World → Prop) : Prop :=
bif decide (n ≥ (0 : Int)) then
 bif decide (n ≤ (200 : Int)) then
  bif decide (l ≥ (0 : Int)) then
   Known (w.alloc (Obj.cells #[Value.int IntKind.i64 n, Value.int IntKind.i64 l, Value.int IntKind.u32 u] (68 : Nat)))
     [(w.heap.size, [((0 : Nat), Value.int IntKind.i64 n), ((1 : Nat), Value.int IntKind.i64 l), ((2 : Nat), Value.int IntKind.u32 u)])] →
    R (Ending.returned (Value.bool (decide (l ≤ (16400 : Int))))) (w.alloc (Obj.cells #[Value.int IntKind.i64 n, Value.int IntKind.i64 l, Value.int IntKind.u32 u] (68 : Nat)))
  else
   Known (w.alloc (Obj.cells #[Value.int IntKind.i64 n, Value.int IntKind.i64 l, Value.int IntKind.u32 u] (68 : Nat)))
     [(w.heap.size, [((0 : Nat), Value.int IntKind.i64 n), ((1 : Nat), Value.int IntKind.i64 l), ((2 : Nat), Value.int IntKind.u32 u)])] →
    R (Ending.returned (Value.bool false)) (w.alloc (Obj.cells #[Value.int IntKind.i64 n, Value.int IntKind.i64 l, Value.int IntKind.u32 u] (68 : Nat)))
 else
  Known (w.alloc (Obj.cells #[Value.int IntKind.i64 n, Value.int IntKind.i64 l, Value.int IntKind.u32 u] (68 : Nat)))
    [(w.heap.size, [((0 : Nat), Value.int IntKind.i64 n), ((1 : Nat), Value.int IntKind.i64 l), ((2 : Nat), Value.int IntKind.u32 u)])] →
   R (Ending.returned (Value.bool false)) (w.alloc (Obj.cells #[Value.int IntKind.i64 n, Value.int IntKind.i64 l, Value.int IntKind.u32 u] (68 : Nat)))
else
 Known (w.alloc (Obj.cells #[Value.int IntKind.i64 n, Value.int IntKind.i64 l, Value.int IntKind.u32 u] (68 : Nat)))
   [(w.heap.size, [((0 : Nat), Value.int IntKind.i64 n), ((1 : Nat), Value.int IntKind.i64 l), ((2 : Nat), Value.int IntKind.u32 u)])] →
  R (Ending.returned (Value.bool false)) (w.alloc (Obj.cells #[Value.int IntKind.i64 n, Value.int IntKind.i64 l, Value.int IntKind.u32 u] (68 : Nat)))
theorem vcTryd59 (n l u : Int) (w : World) (R : Ending → World → Prop) : SX.vcFn Tryd.prog [] Tryd.f59 [.v (.agg #[.int .i64 n, .int .i64 l, .int .u32 u])] [] w R = VCTryd59 n l u w R := by kernel_rfl
def VCTryd60 (w : World) (R : Ending → World → Prop) : Prop :=
Rets Tryd.prog (26 : Nat) #[] w fun (v0 : Value) (w1 : World) =>
 ∃ (x2 : Array Value),
  v0 = Value.agg x2 ∧
   Keeps w w1 [] ∧
    Runs Tryd.prog (Instr.storeAt (25 : Nat) (Value.pointer (some { block := w1.heap.size, off := (0 : Nat) })) (Value.agg x2)) (w1.alloc (Obj.cells (zeroA Tryd.prog (25 : Nat)) (25 : Nat)))
     fun (x3 : Unit) (w4 : World) =>
     Keeps (w1.alloc (Obj.cells (zeroA Tryd.prog (25 : Nat)) (25 : Nat))) w4 [] ∧
      Rets Tryd.prog (63 : Nat) #[Value.pointer (some { block := w1.heap.size, off := (0 : Nat) }), Value.slice none (0 : Nat) (0 : Nat)] w4 fun (v5 : Value) (w6 : World) =>
       ∃ (q7 : Option Addr),
        ∃ (n8 : Nat),
         ∃ (n9 : Nat),
          ∃ (i10 : Int),
           v5 = Value.tuple #[Value.slice q7 n8 n9, Value.int IntKind.i64 i10] ∧
            Keeps w4 w6 [] ∧
             Rets Tryd.prog (64 : Nat) #[Value.pointer (some { block := w1.heap.size, off := (0 : Nat) }), Value.slice q7 n8 n9] w6 fun (v11 : Value) (w12 : World) =>
              ∃ (q13 : Option Addr),
               ∃ (n14 : Nat),
                ∃ (n15 : Nat),
                 ∃ (i16 : Int),
                  v11 = Value.tuple #[Value.slice q13 n14 n15, Value.int IntKind.i64 i16] ∧
                   Keeps w6 w12 [] ∧
                    bif i10 == (0 : Int) then
                     bif i16 == (0 : Int) then bif (↑n8 : Int) == (20 : Int) then R (Ending.returned (Value.bool ((↑n14 : Int) == (0 : Int)))) w12 else R (Ending.returned (Value.bool false)) w12
                     else R (Ending.returned (Value.bool false)) w12
                    else R (Ending.returned (Value.bool false)) w12
theorem vcTryd60 (w : World) (R : Ending → World → Prop) : SX.vcFn Tryd.prog [] Tryd.f60 [] [] w R = VCTryd60  w R := by kernel_rfl
def VCTryd61 (n l u : Int) (w : World) (R : Ending → World → Prop) : Prop :=
Runs Tryd.prog
 (convert (27 : Nat) (27 : Nat)
  (Value.slice (some { block := (w.alloc (Obj.cells #[Value.int IntKind.i64 n, Value.int IntKind.i64 l, Value.int IntKind.u32 u] (71 : Nat))).heap.size, off := (0 : Nat) }) (4 : Nat) (4 : Nat)))
 ((w.alloc (Obj.cells #[Value.int IntKind.i64 n, Value.int IntKind.i64 l, Value.int IntKind.u32 u] (71 : Nat))).alloc
  (Obj.cells #[Value.int IntKind.u8 (70 : Int), Value.int IntKind.u8 (79 : Int), Value.int IntKind.u8 (79 : Int), Value.int IntKind.u8 (84 : Int)] (5 : Nat)))
 fun (v0 : Value) (w1 : World) =>
 ∃ (q2 : Option Addr),
  ∃ (n3 : Nat),
   ∃ (n4 : Nat),
    v0 = Value.slice q2 n3 n4 ∧
     Keeps
       ((w.alloc (Obj.cells #[Value.int IntKind.i64 n, Value.int IntKind.i64 l, Value.int IntKind.u32 u] (71 : Nat))).alloc
        (Obj.cells #[Value.int IntKind.u8 (70 : Int), Value.int IntKind.u8 (79 : Int), Value.int IntKind.u8 (79 : Int), Value.int IntKind.u8 (84 : Int)] (5 : Nat)))
       w1 [w.heap.size] ∧
      Wr IntKind.u32 n fun (i5 : Int) =>
       Known w1 [(w.heap.size, [((0 : Nat), Value.int IntKind.i64 n), ((1 : Nat), Value.int IntKind.i64 l), ((2 : Nat), Value.int IntKind.u32 u)])] →
        Rets Tryd.prog (120 : Nat) #[Value.int IntKind.u32 i5, Value.int IntKind.i64 (4 : Int)] w1 fun (v6 : Value) (w7 : World) =>
         ∃ (q8 : Option Addr),
          ∃ (n9 : Nat),
           ∃ (n10 : Nat),
            v6 = Value.slice q8 n9 n10 ∧
             Keeps w1 w7 [w.heap.size] ∧
              Runs Tryd.prog (Builtin.append_ #[(27 : Nat), (27 : Nat)] (27 : Nat) #[Value.slice q2 n3 n4, Value.slice q8 n9 n10]) w7 fun (v11 : Value) (w12 : World) =>
               ∃ (q13 : Option Addr),
                ∃ (n14 : Nat),
                 ∃ (n15 : Nat),
                  v11 = Value.slice q13 n14 n15 ∧
                   Keeps w7 w12 [w.heap.size] ∧
                    Wr IntKind.u32 l fun (i16 : Int) =>
                     Known w12 [(w.heap.size, [((0 : Nat), Value.int IntKind.i64 n), ((1 : Nat), Value.int IntKind.i64 l), ((2 : Nat), Value.int IntKind.u32 u)])] →
                      Rets Tryd.prog (120 : Nat) #[Value.int IntKind.u32 i16, Value.int IntKind.i64 (4 : Int)] w12 fun (v17 : Value) (w18 : World) =>
                       ∃ (q19 : Option Addr),
                        ∃ (n20 : Nat),
                         ∃ (n21 : Nat),
                          v17 = Value.slice q19 n20 n21 ∧
                           Keeps w12 w18 [w.heap.size] ∧
                            Runs Tryd.prog (Builtin.append_ #[(27 : Nat), (27 : Nat)] (27 : Nat) #[Value.slice q13 n14 n15, Value.slice q19 n20 n21]) w18 fun (v22 : Value) (w23 : World) =>
                             ∃ (q24 : Option Addr),
                              ∃ (n25 : Nat),
                               ∃ (n26 : Nat),
                                v22 = Value.slice q24 n25 n26 ∧
                                 Keeps w18 w23 [w.heap.size] ∧
                                  (Known w23 [(w.heap.size, [((0 : Nat), Value.int IntKind.i64 n), ((1 : Nat), Value.int IntKind.i64 l), ((2 : Nat), Value.int IntKind.u32 u)])] →
                                   Rets Tryd.prog (120 : Nat) #[Value.int IntKind.u32 u, Value.int IntKind.i64 (4 : Int)] w23 fun (v27 : Value) (w28 : World) =>
                                    ∃ (q29 : Option Addr),
                                     ∃ (n30 : Nat),
                                      ∃ (n31 : Nat),
                                       v27 = Value.slice q29 n30 n31 ∧
                                        Keeps w23 w28 [w.heap.size] ∧
                                         Runs Tryd.prog (Builtin.append_ #[(27 : Nat), (27 : Nat)] (27 : Nat) #[Value.slice q24 n25 n26, Value.slice q29 n30 n31]) w28
                                          fun (v32 : Value) (w33 : World) =>
                                          ∃ (q34 : Option Addr),
                                           ∃ (n35 : Nat),
                                            ∃ (n36 : Nat),
                                             v32 = Value.slice q34 n35 n36 ∧
                                              Keeps w28 w33 [w.heap.size] ∧
                                               (Known w33
                                                 [(w.heap.size,
                                                   [((0 : Nat), Value.int IntKind.i64 n), ((1 : Nat), Value.int IntKind.i64 l), ((2 : Nat), Value.int IntKind.u32 u)])] →
                                                Rets Tryd.prog (108 : Nat) #[Value.slice q34 n35 n36] w33 fun (v37 : Value) (w38 : World) =>
                                                 ∃ (q39 : Option Addr),
                                                  ∃ (n40 : Nat),
                                                   ∃ (n41 : Nat),
                                                    v37 = Value.slice q39 n40 n41 ∧
                                                     Keeps w33 w38 [w.heap.size] ∧
                                                      (Known w38
                                                        [(w.heap.size,
                                                         [((0 : Nat), Value.int IntKind.i64 n), ((1 : Nat), Value.int IntKind.i64 l),
                                                          ((2 : Nat), Value.int IntKind.u32 u)])] →
                                                       R (Ending.returned (Value.slice q39 n40 n41)) w38)))
theorem vcTryd61 (n l u : Int) (w : World) (R : Ending → World → Prop) : SX.vcFn Tryd.prog [] Tryd.f61 [.v (.agg #[.int .i64 n, .int .i64 l, .int .u32 u])] [] w R = VCTryd61 n l u w R := by kernel_rfl
def VCTryd62 (p0 : Option Addr) (n0 c0 : Nat) (w : World) (R : Ending → World → Prop) : Prop :=
∃ (I0 : Int → World → Prop),
 ∃ (I1 : Int → World → Nat),
  I0 (0 : Int) w ∧
   ∀ (i2 : Int) (w3 : World),
    I0 i2 w3 →
     bif decide (i2 < (↑n0 : Int)) then
      bif decide (i2 < (300 : Int)) then
       ((0 : Int) ≤ i2 ∧ i2 < (↑n0 : Int)) ∧
        SX.Ptr p0 fun (a4 : Addr) =>
         ∃ (s5 : ByteArray),
          w3.cell? ((a4.add (i2.toNat * (7 : Nat))).add (0 : Nat)) = some (Value.string s5) ∧
           bif decide ((↑s5.size : Int) > (200 : Int)) then R (Ending.returned (Value.bool true)) w3 else Wr IntKind.i64 (i2 + (1 : Int)) fun (i6 : Int) => I0 i6 w3 ∧ I1 i6 w3 < I1 i2 w3
      else R (Ending.returned (Value.bool (decide ((↑n0 : Int) > (250 : Int))))) w3
     else R (Ending.returned (Value.bool (decide ((↑n0 : Int) > (250 : Int))))) w3
theorem vcTryd62 (p0 : Option Addr) (n0 c0 : Nat) (w : World) (R : Ending → World → Prop) : SX.vcFn Tryd.prog [(2, ⟨[(3, .int .i64)], [0], []⟩)] Tryd.f62 [.v (.slice p0 n0 c0)] [] w R = VCTryd62 p0 n0 c0 w R := by kernel_rfl
def VCTryd63 (p0 : Option Addr) (p1 : Option Addr) (n1 c1 : Nat) (w : World) (R : Ending → World → Prop) : Prop :=
Rets Tryd.prog (41 : Nat) #[Value.slice p1 n1 c1] w fun (v0 : Value) (w1 : World) =>
 ∃ (q2 : Option Addr),
  ∃ (n3 : Nat),
   ∃ (n4 : Nat),
    ∃ (i5 : Int),
     v0 = Value.tuple #[Value.slice q2 n3 n4, Value.int IntKind.i64 i5] ∧
      Keeps w w1 [] ∧
       bif i5 != (0 : Int) then R (Ending.returned (Value.tuple #[Value.slice none (0 : Nat) (0 : Nat), Value.int IntKind.i64 i5])) w1
       else
        Rets Tryd.prog (106 : Nat) #[Value.pointer p0, Value.slice q2 n3 n4] w1 fun (v6 : Value) (w7 : World) =>
         ∃ (i8 : Int),
          v6 = Value.int IntKind.u32 i8 ∧
           Keeps w1 w7 [] ∧
            Rets Tryd.prog (57 : Nat) #[Value.pointer p0, Value.agg #[Value.int IntKind.i64 (↑n1 : Int), Value.int IntKind.i64 (↑n3 : Int), Value.int IntKind.u32 i8]] w7 fun (v9 : Value) (w10 : World) =>
             ∃ (q11 : Option Addr),
              ∃ (n12 : Nat),
               ∃ (n13 : Nat),
                ∃ (i14 : Int),
                 v9 = Value.tuple #[Value.slice q11 n12 n13, Value.int IntKind.i64 i14] ∧
                  Keeps w7 w10 [] ∧
                   bif i14 != (0 : Int) then R (Ending.returned (Value.tuple #[Value.slice none (0 : Nat) (0 : Nat), Value.int IntKind.i64 i14])) w10
                   else
                    Runs Tryd.prog (Builtin.append_ #[(27 : Nat), (27 : Nat)] (27 : Nat) #[Value.slice q2 n3 n4, Value.slice q11 n12 n13]) w10 fun (v15 : Value) (w16 : World) =>
                     ∃ (q17 : Option Addr),
                      ∃ (n18 : Nat),
                       ∃ (n19 : Nat), v15 = Value.slice q17 n18 n19 ∧ Keeps w10 w16 [] ∧ R (Ending.returned (Value.tuple #[Value.slice q17 n18 n19, Value.int IntKind.i64 (0 : Int)])) w16
theorem vcTryd63 (p0 : Option Addr) (p1 : Option Addr) (n1 c1 : Nat) (w : World) (R : Ending → World → Prop) : SX.vcFn Tryd.prog [] Tryd.f63 [.v (.pointer p0), .v (.slice p1 n1 c1)] [] w R = VCTryd63 p0 p1 n1 c1 w R := by kernel_rfl
def VCTryd64 (p0 : Option Addr) (p1 : Option Addr) (n1 c1 : Nat) (w : World) (R : Ending → World → Prop) : Prop :=
Rets Tryd.prog (122 : Nat) #[Value.pointer p0, Value.slice p1 n1 c1] w fun (v0 : Value) (w1 : World) =>
 ∃ (i2 : Int),
  ∃ (i3 : Int),
   ∃ (i4 : Int),
    ∃ (i5 : Int),
     v0 = Value.tuple #[Value.agg #[Value.int IntKind.i64 i2, Value.int IntKind.i64 i3, Value.int IntKind.u32 i4], Value.int IntKind.i64 i5] ∧
      Keeps w w1 [] ∧
       bif i5 != (0 : Int) then
        Known
          ((((w1.alloc (Obj.cells #[Value.int IntKind.i64 (0 : Int), Value.int IntKind.i64 (0 : Int), Value.int IntKind.u32 (0 : Int)] (68 : Nat))).setCell { block := w1.heap.size, off := (0 : Nat) }
               (Value.int IntKind.i64 i2)).setCell
             {block := w1.heap.size, off := (1 : Nat) } (Value.int IntKind.i64 i3)).setCell
           {block := w1.heap.size, off := (2 : Nat) } (Value.int IntKind.u32 i4))
          [(w1.heap.size, [((0 : Nat), Value.int IntKind.i64 i2), ((1 : Nat), Value.int IntKind.i64 i3), ((2 : Nat), Value.int IntKind.u32 i4)])] →
         R (Ending.returned (Value.tuple #[Value.slice none (0 : Nat) (0 : Nat), Value.int IntKind.i64 i5]))
          ((((w1.alloc (Obj.cells #[Value.int IntKind.i64 (0 : Int), Value.int IntKind.i64 (0 : Int), Value.int IntKind.u32 (0 : Int)] (68 : Nat))).setCell { block := w1.heap.size, off := (0 : Nat) }
               (Value.int IntKind.i64 i2)).setCell
             {block := w1.heap.size, off := (1 : Nat) } (Value.int IntKind.i64 i3)).setCell
           {block := w1.heap.size, off := (2 : Nat) } (Value.int IntKind.u32 i4))
       else
        Wr IntKind.i64 ((↑n1 : Int) - (20 : Int)) fun (i6 : Int) =>
         ((0 : Int) ≤ i6 ∧ i6 ≤ (↑c1 : Int)) ∧
          bif i3 != (↑(i6.toNat - (0 : Nat)) : Int) then
           Known
             ((((w1.alloc (Obj.cells #[Value.int IntKind.i64 (0 : Int), Value.int IntKind.i64 (0 : Int), Value.int IntKind.u32 (0 : Int)] (68 : Nat))).setCell { block := w1.heap.size, off := (0 : Nat) }
                  (Value.int IntKind.i64 i2)).setCell
                {block := w1.heap.size, off := (1 : Nat) } (Value.int IntKind.i64 i3)).setCell
              {block := w1.heap.size, off := (2 : Nat) } (Value.int IntKind.u32 i4))
             [(w1.heap.size, [((0 : Nat), Value.int IntKind.i64 i2), ((1 : Nat), Value.int IntKind.i64 i3), ((2 : Nat), Value.int IntKind.u32 i4)])] →
            R (Ending.returned (Value.tuple #[Value.slice none (0 : Nat) (0 : Nat), Value.int IntKind.i64 (5 : Int)]))
             ((((w1.alloc (Obj.cells #[Value.int IntKind.i64 (0 : Int), Value.int IntKind.i64 (0 : Int), Value.int IntKind.u32 (0 : Int)] (68 : Nat))).setCell { block := w1.heap.size, off := (0 : Nat) }
                  (Value.int IntKind.i64 i2)).setCell
                {block := w1.heap.size, off := (1 : Nat) } (Value.int IntKind.i64 i3)).setCell
              {block := w1.heap.size, off := (2 : Nat) } (Value.int IntKind.u32 i4))
          else
           Known
             ((((w1.alloc (Obj.cells #[Value.int IntKind.i64 (0 : Int), Value.int IntKind.i64 (0 : Int), Value.int IntKind.u32 (0 : Int)] (68 : Nat))).setCell { block := w1.heap.size, off := (0 : Nat) }
                   (Value.int IntKind.i64 i2)).setCell
                 {block := w1.heap.size, off := (1 : Nat) } (Value.int IntKind.i64 i3)).setCell
               {block := w1.heap.size, off := (2 : Nat) } (Value.int IntKind.u32 i4)).drew
             [(w1.heap.size, [((0 : Nat), Value.int IntKind.i64 i2), ((1 : Nat), Value.int IntKind.i64 i3), ((2 : Nat), Value.int IntKind.u32 i4)])] →
            Rets Tryd.prog (106 : Nat) #[Value.pointer p0, Value.slice (cutA p1 c1 (0 : Nat) (1 : Nat)) (i6.toNat - (0 : Nat)) (c1 - (0 : Nat))]
             ((((w1.alloc (Obj.cells #[Value.int IntKind.i64 (0 : Int), Value.int IntKind.i64 (0 : Int), Value.int IntKind.u32 (0 : Int)] (68 : Nat))).setCell { block := w1.heap.size, off := (0 : Nat) }
                   (Value.int IntKind.i64 i2)).setCell
                 {block := w1.heap.size, off := (1 : Nat) } (Value.int IntKind.i64 i3)).setCell
               {block := w1.heap.size, off := (2 : Nat) } (Value.int IntKind.u32 i4)).drew
             fun (v7 : Value) (w8 : World) =>
             ∃ (i9 : Int),
              v7 = Value.int IntKind.u32 i9 ∧
               Keeps
                 ((((w1.alloc (Obj.cells #[Value.int IntKind.i64 (0 : Int), Value.int IntKind.i64 (0 : Int), Value.int IntKind.u32 (0 : Int)] (68 : Nat))).setCell
                       {block := w1.heap.size, off := (0 : Nat) } (Value.int IntKind.i64 i2)).setCell
                     {block := w1.heap.size, off := (1 : Nat) } (Value.int IntKind.i64 i3)).setCell
                   {block := w1.heap.size, off := (2 : Nat) } (Value.int IntKind.u32 i4)).drew
                 w8 [w1.heap.size] ∧
                w8.cell? { block := w1.heap.size, off := (2 : Nat) } = some (Value.int IntKind.u32 i4) ∧
                 bif i4 != i9 then
                  Known w8 [(w1.heap.size, [((0 : Nat), Value.int IntKind.i64 i2), ((1 : Nat), Value.int IntKind.i64 i3), ((2 : Nat), Value.int IntKind.u32 i4)])] →
                   R (Ending.returned (Value.tuple #[Value.slice none (0 : Nat) (0 : Nat), Value.int IntKind.i64 (4 : Int)])) w8
                 else
                  Known w8 [(w1.heap.size, [((0 : Nat), Value.int IntKind.i64 i2), ((1 : Nat), Value.int IntKind.i64 i3), ((2 : Nat), Value.int IntKind.u32 i4)])] →
                   Rets Tryd.prog (117 : Nat) #[Value.slice (cutA p1 c1 (0 : Nat) (1 : Nat)) (i6.toNat - (0 : Nat)) (c1 - (0 : Nat)), Value.int IntKind.i64 i2] w8 fun (v10 : Value) (w11 : World) =>
                    ∃ (q12 : Option Addr),
                     ∃ (n13 : Nat),
                      ∃ (n14 : Nat),
                       ∃ (i15 : Int),
                        v10 = Value.tuple #[Value.slice q12 n13 n14, Value.int IntKind.i64 i15] ∧
                         Keeps w8 w11 [w1.heap.size] ∧
                          (Known w11 [(w1.heap.size, [((0 : Nat), Value.int IntKind.i64 i2), ((1 : Nat), Value.int IntKind.i64 i3), ((2 : Nat), Value.int IntKind.u32 i4)])] →
                           R (Ending.returned (Value.tuple #[Value.slice q12 n13 n14, Value.int IntKind.i64 i15])) w11)
theorem vcTryd64 (p0 : Option Addr) (p1 : Option Addr) (n1 c1 : Nat) (w : World) (R : Ending → World → Prop) : SX.vcFn Tryd.prog [] Tryd.f64 [.v (.pointer p0), .v (.slice p1 n1 c1)] [] w R = VCTryd64 p0 p1 n1 c1 w R := by kernel_rfl
def VCTryd122 (p0 : Option Addr) (p1 : Option Addr) (n1 c1 : Nat) (w : World) (R : Ending → World → Prop) : Prop :=
bif decide ((↑n1 : Int) < (20 : Int)) then
 Known
   ((((w.alloc (Obj.cells #[Value.int IntKind.i64 (0 : Int), Value.int IntKind.i64 (0 : Int), Value.int IntKind.u32 (0 : Int)] (68 : Nat))).setCell { block := w.heap.size, off := (0 : Nat) }
        (Value.int IntKind.i64 (0 : Int))).setCell
      {block := w.heap.size, off := (1 : Nat) } (Value.int IntKind.i64 (0 : Int))).setCell
    {block := w.heap.size, off := (2 : Nat) } (Value.int IntKind.u32 (0 : Int)))
   [(w.heap.size, [((0 : Nat), Value.int IntKind.i64 (0 : Int)), ((1 : Nat), Value.int IntKind.i64 (0 : Int)), ((2 : Nat), Value.int IntKind.u32 (0 : Int))])] →
  R (Ending.returned (Value.tuple #[Value.agg #[Value.int IntKind.i64 (0 : Int), Value.int IntKind.i64 (0 : Int), Value.int IntKind.u32 (0 : Int)], Value.int IntKind.i64 (2 : Int)]))
   ((((w.alloc (Obj.cells #[Value.int IntKind.i64 (0 : Int), Value.int IntKind.i64 (0 : Int), Value.int IntKind.u32 (0 : Int)] (68 : Nat))).setCell { block := w.heap.size, off := (0 : Nat) }
        (Value.int IntKind.i64 (0 : Int))).setCell
      {block := w.heap.size, off := (1 : Nat) } (Value.int IntKind.i64 (0 : Int))).setCell
    {block := w.heap.size, off := (2 : Nat) } (Value.int IntKind.u32 (0 : Int)))
else
 Wr IntKind.i64 ((↑n1 : Int) - (20 : Int)) fun (i0 : Int) =>
  ((0 : Int) ≤ i0 ∧ i0 ≤ (↑n1 : Int)) ∧
   (Known (w.alloc (Obj.cells #[Value.int IntKind.i64 (0 : Int), Value.int IntKind.i64 (0 : Int), Value.int IntKind.u32 (0 : Int)] (68 : Nat)))
     [(w.heap.size, [((0 : Nat), Value.int IntKind.i64 (0 : Int)), ((1 : Nat), Value.int IntKind.i64 (0 : Int)), ((2 : Nat), Value.int IntKind.u32 (0 : Int))])] →
    Rets Tryd.prog (109 : Nat) #[Value.slice (cutA p1 c1 i0.toNat (1 : Nat)) (n1 - i0.toNat) (c1 - i0.toNat)]
     (w.alloc (Obj.cells #[Value.int IntKind.i64 (0 : Int), Value.int IntKind.i64 (0 : Int), Value.int IntKind.u32 (0 : Int)] (68 : Nat))) fun (v1 : Value) (w2 : World) =>
     ∃ (q3 : Option Addr),
      v1 = Value.pointer q3 ∧
       Keeps (w.alloc (Obj.cells #[Value.int IntKind.i64 (0 : Int), Value.int IntKind.i64 (0 : Int), Value.int IntKind.u32 (0 : Int)] (68 : Nat))) w2 [w.heap.size] ∧
        (Known w2 [(w.heap.size, [((0 : Nat), Value.int IntKind.i64 (0 : Int)), ((1 : Nat), Value.int IntKind.i64 (0 : Int)), ((2 : Nat), Value.int IntKind.u32 (0 : Int))])] →
         Rets Tryd.prog (110 : Nat) #[Value.pointer q3, Value.int IntKind.i64 (4 : Int)] w2 fun (v4 : Value) (w5 : World) =>
          ∃ (q6 : Option Addr),
           ∃ (n7 : Nat),
            ∃ (n8 : Nat),
             v4 = Value.slice q6 n7 n8 ∧
              Keeps w2 w5 [w.heap.size] ∧
               ∃ (s9 : ByteArray),
                s9.size = n7 ∧
                 BytesAt w5 q6 s9 ∧
                  (Known w5 [(w.heap.size, [((0 : Nat), Value.int IntKind.i64 (0 : Int)), ((1 : Nat), Value.int IntKind.i64 (0 : Int)), ((2 : Nat), Value.int IntKind.u32 (0 : Int))])] →
                   Rets Tryd.prog (111 : Nat) #[Value.pointer q3, Value.int IntKind.i64 (4 : Int)] w5 fun (v10 : Value) (w11 : World) =>
                    ∃ (i12 : Int),
                     v10 = Value.int IntKind.u32 i12 ∧
                      Keeps w5 w11 [w.heap.size] ∧
                       Wr IntKind.i64 i12 fun (i13 : Int) =>
                        Known w11 [(w.heap.size, [((0 : Nat), Value.int IntKind.i64 (0 : Int)), ((1 : Nat), Value.int IntKind.i64 (0 : Int)), ((2 : Nat), Value.int IntKind.u32 (0 : Int))])] →
                         Rets Tryd.prog (111 : Nat) #[Value.pointer q3, Value.int IntKind.i64 (4 : Int)] w11 fun (v14 : Value) (w15 : World) =>
                          ∃ (i16 : Int),
                           v14 = Value.int IntKind.u32 i16 ∧
                            Keeps w11 w15 [w.heap.size] ∧
                             Wr IntKind.i64 i16 fun (i17 : Int) =>
                              Known w15
                                [(w.heap.size,
                                  [((0 : Nat), Value.int IntKind.i64 (0 : Int)), ((1 : Nat), Value.int IntKind.i64 (0 : Int)), ((2 : Nat), Value.int IntKind.u32 (0 : Int))])] →
                               Rets Tryd.prog (111 : Nat) #[Value.pointer q3, Value.int IntKind.i64 (4 : Int)] w15 fun (v18 : Value) (w19 : World) =>
                                ∃ (i20 : Int),
                                 v18 = Value.int IntKind.u32 i20 ∧
                                  Keeps w15 w19 [w.heap.size] ∧
                                   bif !s9.toList == ({ data := #[(70 : UInt8), (79 : UInt8), (79 : UInt8), (84 : UInt8)] } : ByteArray).toList then
                                    Known
                                      (((((((w19.alloc
                                                   (Obj.cells #[Value.int IntKind.i64 (0 : Int), Value.int IntKind.i64 (0 : Int), Value.int IntKind.u32 (0 : Int)]
                                                    (68 : Nat))).setCell
                                                 {block := w19.heap.size, off := (0 : Nat) } (Value.int IntKind.i64 i13)).setCell
                                               {block := w19.heap.size, off := (1 : Nat) } (Value.int IntKind.i64 i17)).setCell
                                             {block := w19.heap.size, off := (2 : Nat) } (Value.int IntKind.u32 i20)).setCell
                                           {block := w.heap.size, off := (0 : Nat) } (Value.int IntKind.i64 (0 : Int))).setCell
                                         {block := w.heap.size, off := (1 : Nat) } (Value.int IntKind.i64 (0 : Int))).setCell
                                       {block := w.heap.size, off := (2 : Nat) } (Value.int IntKind.u32 (0 : Int)))
                                      [(w.heap.size,
                                        [((0 : Nat), Value.int IntKind.i64 (0 : Int)), ((1 : Nat), Value.int IntKind.i64 (0 : Int)), ((2 : Nat), Value.int IntKind.u32 (0 : Int))]),
                                       (w19.heap.size, [((0 : Nat), Value.int IntKind.i64 i13), ((1 : Nat), Value.int IntKind.i64 i17), ((2 : Nat), Value.int IntKind.u32 i20)])] →
                                     R
                                      (Ending.returned
                                       (Value.tuple
                                        #[Value.agg #[Value.int IntKind.i64 (0 : Int), Value.int IntKind.i64 (0 : Int), Value.int IntKind.u32 (0 : Int)],
                                         Value.int IntKind.i64 (3 : Int)]))
                                      (((((((w19.alloc
                                                   (Obj.cells #[Value.int IntKind.i64 (0 : Int), Value.int IntKind.i64 (0 : Int), Value.int IntKind.u32 (0 : Int)]
                                                    (68 : Nat))).setCell
                                                 {block := w19.heap.size, off := (0 : Nat) } (Value.int IntKind.i64 i13)).setCell
                                               {block := w19.heap.size, off := (1 : Nat) } (Value.int IntKind.i64 i17)).setCell
                                             {block := w19.heap.size, off := (2 : Nat) } (Value.int IntKind.u32 i20)).setCell
                                           {block := w.heap.size, off := (0 : Nat) } (Value.int IntKind.i64 (0 : Int))).setCell
                                         {block := w.heap.size, off := (1 : Nat) } (Value.int IntKind.i64 (0 : Int))).setCell
                                       {block := w.heap.size, off := (2 : Nat) } (Value.int IntKind.u32 (0 : Int)))
                                   else
                                    ((0 : Int) ≤ (16 : Int) ∧ (16 : Int) ≤ (↑(c1 - i0.toNat) : Int)) ∧
                                     (Known
                                       ((((w19.alloc
                                               (Obj.cells #[Value.int IntKind.i64 (0 : Int), Value.int IntKind.i64 (0 : Int), Value.int IntKind.u32 (0 : Int)]
                                                (68 : Nat))).setCell
                                             {block := w19.heap.size, off := (0 : Nat) } (Value.int IntKind.i64 i13)).setCell
                                           {block := w19.heap.size, off := (1 : Nat) } (Value.int IntKind.i64 i17)).setCell
                                         {block := w19.heap.size, off := (2 : Nat) } (Value.int IntKind.u32 i20)).drew
                                       [(w.heap.size,
                                         [((0 : Nat), Value.int IntKind.i64 (0 : Int)), ((1 : Nat), Value.int IntKind.i64 (0 : Int)),
                                          ((2 : Nat), Value.int IntKind.u32 (0 : Int))]),
                                        (w19.heap.size, [((0 : Nat), Value.int IntKind.i64 i13), ((1 : Nat), Value.int IntKind.i64 i17), ((2 : Nat), Value.int IntKind.u32 i20)])] →
                                      Rets Tryd.prog (111 : Nat) #[Value.pointer q3, Value.int IntKind.i64 (4 : Int)]
                                       ((((w19.alloc
                                               (Obj.cells #[Value.int IntKind.i64 (0 : Int), Value.int IntKind.i64 (0 : Int), Value.int IntKind.u32 (0 : Int)]
                                                (68 : Nat))).setCell
                                             {block := w19.heap.size, off := (0 : Nat) } (Value.int IntKind.i64 i13)).setCell
                                           {block := w19.heap.size, off := (1 : Nat) } (Value.int IntKind.i64 i17)).setCell
                                         {block := w19.heap.size, off := (2 : Nat) } (Value.int IntKind.u32 i20)).drew
                                       fun (v21 : Value) (w22 : World) =>
                                       ∃ (i23 : Int),
                                        v21 = Value.int IntKind.u32 i23 ∧
                                         Keeps
                                           ((((w19.alloc
                                                   (Obj.cells #[Value.int IntKind.i64 (0 : Int), Value.int IntKind.i64 (0 : Int), Value.int IntKind.u32 (0 : Int)]
                                                    (68 : Nat))).setCell
                                                 {block := w19.heap.size, off := (0 : Nat) } (Value.int IntKind.i64 i13)).setCell
                                               {block := w19.heap.size, off := (1 : Nat) } (Value.int IntKind.i64 i17)).setCell
                                             {block := w19.heap.size, off := (2 : Nat) } (Value.int IntKind.u32 i20)).drew
                                           w22 [w.heap.size, w19.heap.size] ∧
                                          (Known w22
                                            [(w.heap.size,
                                              [((0 : Nat), Value.int IntKind.i64 (0 : Int)), ((1 : Nat), Value.int IntKind.i64 (0 : Int)),
                                               ((2 : Nat), Value.int IntKind.u32 (0 : Int))]),
                                             (w19.heap.size,
                                              [((0 : Nat), Value.int IntKind.i64 i13), ((1 : Nat), Value.int IntKind.i64 i17), ((2 : Nat), Value.int IntKind.u32 i20)])] →
                                           Rets Tryd.prog (106 : Nat)
                                            #[Value.pointer p0,
                                             Value.slice (cutA (cutA p1 c1 i0.toNat (1 : Nat)) (c1 - i0.toNat) (0 : Nat) (1 : Nat)) (16 : Nat) (c1 - i0.toNat - (0 : Nat))]
                                            w22 fun (v24 : Value) (w25 : World) =>
                                            ∃ (i26 : Int),
                                             v24 = Value.int IntKind.u32 i26 ∧
                                              Keeps w22 w25 [w.heap.size, w19.heap.size] ∧
                                               bif i23 != i26 then
                                                Known
                                                  (((w25.setCell { block := w.heap.size, off := (0 : Nat) } (Value.int IntKind.i64 (0 : Int))).setCell
                                                     {block := w.heap.size, off := (1 : Nat) } (Value.int IntKind.i64 (0 : Int))).setCell
                                                   {block := w.heap.size, off := (2 : Nat) } (Value.int IntKind.u32 (0 : Int)))
                                                  [(w.heap.size,
                                                    [((0 : Nat), Value.int IntKind.i64 (0 : Int)), ((1 : Nat), Value.int IntKind.i64 (0 : Int)),
                                                     ((2 : Nat), Value.int IntKind.u32 (0 : Int))]),
                                                   (w19.heap.size,
                                                    [((0 : Nat), Value.int IntKind.i64 i13), ((1 : Nat), Value.int IntKind.i64 i17),
                                                     ((2 : Nat), Value.int IntKind.u32 i20)])] →
                                                 R
                                                  (Ending.returned
                                                   (Value.tuple
                                                    #[Value.agg #[Value.int IntKind.i64 (0 : Int), Value.int IntKind.i64 (0 : Int), Value.int IntKind.u32 (0 : Int)],
                                                     Value.int IntKind.i64 (4 : Int)]))
                                                  (((w25.setCell { block := w.heap.size, off := (0 : Nat) } (Value.int IntKind.i64 (0 : Int))).setCell
                                                     {block := w.heap.size, off := (1 : Nat) } (Value.int IntKind.i64 (0 : Int))).setCell
                                                   {block := w.heap.size, off := (2 : Nat) } (Value.int IntKind.u32 (0 : Int)))
                                               else
                                                Known w25
                                                  [(w.heap.size,
                                                    [((0 : Nat), Value.int IntKind.i64 (0 : Int)), ((1 : Nat), Value.int IntKind.i64 (0 : Int)),
                                                     ((2 : Nat), Value.int IntKind.u32 (0 : Int))]),
                                                   (w19.heap.size,
                                                    [((0 : Nat), Value.int IntKind.i64 i13), ((1 : Nat), Value.int IntKind.i64 i17),
                                                     ((2 : Nat), Value.int IntKind.u32 i20)])] →
                                                 Rets Tryd.prog (59 : Nat) #[Value.agg #[Value.int IntKind.i64 i13, Value.int IntKind.i64 i17, Value.int IntKind.u32 i20]]
                                                  w25 fun (v27 : Value) (w28 : World) =>
                                                  ∃ (t29 : Bool),
                                                   v27 = Value.bool t29 ∧
                                                    Keeps w25 w28 [w.heap.size, w19.heap.size] ∧
                                                     bif !t29 then
                                                      Known
                                                        (((w28.setCell { block := w.heap.size, off := (0 : Nat) } (Value.int IntKind.i64 (0 : Int))).setCell
                                                           {block := w.heap.size, off := (1 : Nat) } (Value.int IntKind.i64 (0 : Int))).setCell
                                                         {block := w.heap.size, off := (2 : Nat) } (Value.int IntKind.u32 (0 : Int)))
                                                        [(w.heap.size,
                                                          [((0 : Nat), Value.int IntKind.i64 (0 : Int)), ((1 : Nat), Value.int IntKind.i64 (0 : Int)),
                                                           ((2 : Nat), Value.int IntKind.u32 (0 : Int))]),
                                                         (w19.heap.size,
                                                          [((0 : Nat), Value.int IntKind.i64 i13), ((1 : Nat), Value.int IntKind.i64 i17),
                                                           ((2 : Nat), Value.int IntKind.u32 i20)])] →
                                                       R
                                                        (Ending.returned
                                                         (Value.tuple
                                                          #[Value.agg
                                                            #[Value.int IntKind.i64 (0 : Int), Value.int IntKind.i64 (0 : Int),
                                                             Value.int IntKind.u32 (0 : Int)],
                                                           Value.int IntKind.i64 (3 : Int)]))
                                                        (((w28.setCell { block := w.heap.size, off := (0 : Nat) } (Value.int IntKind.i64 (0 : Int))).setCell
                                                           {block := w.heap.size, off := (1 : Nat) } (Value.int IntKind.i64 (0 : Int))).setCell
                                                         {block := w.heap.size, off := (2 : Nat) } (Value.int IntKind.u32 (0 : Int)))
                                                     else
                                                      Known
                                                        (((w28.setCell { block := w.heap.size, off := (0 : Nat) } (Value.int IntKind.i64 i13)).setCell
                                                           {block := w.heap.size, off := (1 : Nat) } (Value.int IntKind.i64 i17)).setCell
                                                         {block := w.heap.size, off := (2 : Nat) } (Value.int IntKind.u32 i20))
                                                        [(w.heap.size,
                                                          [((0 : Nat), Value.int IntKind.i64 i13), ((1 : Nat), Value.int IntKind.i64 i17),
                                                           ((2 : Nat), Value.int IntKind.u32 i20)]),
                                                         (w19.heap.size,
                                                          [((0 : Nat), Value.int IntKind.i64 i13), ((1 : Nat), Value.int IntKind.i64 i17),
                                                           ((2 : Nat), Value.int IntKind.u32 i20)])] →
                                                       R
                                                        (Ending.returned
                                                         (Value.tuple
                                                          #[Value.agg #[Value.int IntKind.i64 i13, Value.int IntKind.i64 i17, Value.int IntKind.u32 i20],
                                                           Value.int IntKind.i64 (0 : Int)]))
                                                        (((w28.setCell { block := w.heap.size, off := (0 : Nat) } (Value.int IntKind.i64 i13)).setCell
                                                           {block := w.heap.size, off := (1 : Nat) } (Value.int IntKind.i64 i17)).setCell
                                                         {block := w.heap.size, off := (2 : Nat) } (Value.int IntKind.u32 i20)))))))
theorem vcTryd122 (p0 : Option Addr) (p1 : Option Addr) (n1 c1 : Nat) (w : World) (R : Ending → World → Prop) : SX.vcFn Tryd.prog [] Tryd.f122 [.v (.pointer p0), .v (.slice p1 n1 c1)] [] w R = VCTryd122 p0 p1 n1 c1 w R := by kernel_rfl
def VCTryd13 (n l u : Int) (w : World) (R : Ending → World → Prop) : Prop :=
Known (w.alloc (Obj.cells #[Value.int IntKind.i64 n, Value.int IntKind.i64 l, Value.int IntKind.u32 u] (68 : Nat)))
  [(w.heap.size, [((0 : Nat), Value.int IntKind.i64 n), ((1 : Nat), Value.int IntKind.i64 l), ((2 : Nat), Value.int IntKind.u32 u)])] →
 Rets Tryd.prog (26 : Nat) #[] (w.alloc (Obj.cells #[Value.int IntKind.i64 n, Value.int IntKind.i64 l, Value.int IntKind.u32 u] (68 : Nat))) fun (v0 : Value) (w1 : World) =>
  ∃ (x2 : Array Value),
   v0 = Value.agg x2 ∧
    Keeps (w.alloc (Obj.cells #[Value.int IntKind.i64 n, Value.int IntKind.i64 l, Value.int IntKind.u32 u] (68 : Nat))) w1 [w.heap.size] ∧
     Runs Tryd.prog (Instr.storeAt (25 : Nat) (Value.pointer (some { block := w1.heap.size, off := (0 : Nat) })) (Value.agg x2)) (w1.alloc (Obj.cells (zeroA Tryd.prog (25 : Nat)) (25 : Nat)))
      fun (x3 : Unit) (w4 : World) =>
      Keeps (w1.alloc (Obj.cells (zeroA Tryd.prog (25 : Nat)) (25 : Nat))) w4 [w.heap.size] ∧
       (Known w4 [(w.heap.size, [((0 : Nat), Value.int IntKind.i64 n), ((1 : Nat), Value.int IntKind.i64 l), ((2 : Nat), Value.int IntKind.u32 u)])] →
        Rets Tryd.prog (57 : Nat) #[Value.pointer (some { block := w1.heap.size, off := (0 : Nat) }), Value.agg #[Value.int IntKind.i64 n, Value.int IntKind.i64 l, Value.int IntKind.u32 u]] w4
         fun (v5 : Value) (w6 : World) =>
         ∃ (q7 : Option Addr),
          ∃ (n8 : Nat),
           ∃ (n9 : Nat),
            ∃ (i10 : Int),
             v5 = Value.tuple #[Value.slice q7 n8 n9, Value.int IntKind.i64 i10] ∧
              Keeps w4 w6 [w.heap.size] ∧
               (Known w6 [(w.heap.size, [((0 : Nat), Value.int IntKind.i64 n), ((1 : Nat), Value.int IntKind.i64 l), ((2 : Nat), Value.int IntKind.u32 u)])] →
                Rets Tryd.prog (58 : Nat) #[Value.agg #[Value.int IntKind.i64 n, Value.int IntKind.i64 l, Value.int IntKind.u32 u]] w6 fun (v11 : Value) (w12 : World) =>
                 ∃ (t13 : Bool),
                  v11 = Value.bool t13 ∧
                   Keeps w6 w12 [w.heap.size] ∧
                    (Known w12 [(w.heap.size, [((0 : Nat), Value.int IntKind.i64 n), ((1 : Nat), Value.int IntKind.i64 l), ((2 : Nat), Value.int IntKind.u32 u)])] →
                     Rets Tryd.prog (59 : Nat) #[Value.agg #[Value.int IntKind.i64 n, Value.int IntKind.i64 l, Value.int IntKind.u32 u]] w12 fun (v14 : Value) (w15 : World) =>
                      ∃ (t16 : Bool),
                       v14 = Value.bool t16 ∧
                        Keeps w12 w15 [w.heap.size] ∧
                         bif !t16 == t13 then
                          Known w15 [(w.heap.size, [((0 : Nat), Value.int IntKind.i64 n), ((1 : Nat), Value.int IntKind.i64 l), ((2 : Nat), Value.int IntKind.u32 u)])] →
                           R (Ending.returned (Value.bool false)) w15
                         else
                          bif !t13 then
                           bif i10 == (1 : Int) then
                            bif (↑n8 : Int) == (0 : Int) then
                             Known w15 [(w.heap.size, [((0 : Nat), Value.int IntKind.i64 n), ((1 : Nat), Value.int IntKind.i64 l), ((2 : Nat), Value.int IntKind.u32 u)])] →
                              Rets Tryd.prog (60 : Nat) #[] w15 fun (v17 : Value) (w18 : World) =>
                               ∃ (t19 : Bool),
                                v17 = Value.bool t19 ∧
                                 Keeps w15 w18 [w.heap.size] ∧
                                  (Known w18 [(w.heap.size, [((0 : Nat), Value.int IntKind.i64 n), ((1 : Nat), Value.int IntKind.i64 l), ((2 : Nat), Value.int IntKind.u32 u)])] →
                                   R (Ending.returned (Value.bool t19)) w18)
                            else
                             Known w15 [(w.heap.size, [((0 : Nat), Value.int IntKind.i64 n), ((1 : Nat), Value.int IntKind.i64 l), ((2 : Nat), Value.int IntKind.u32 u)])] →
                              R (Ending.returned (Value.bool false)) w15
                           else
                            Known w15 [(w.heap.size, [((0 : Nat), Value.int IntKind.i64 n), ((1 : Nat), Value.int IntKind.i64 l), ((2 : Nat), Value.int IntKind.u32 u)])] →
                             R (Ending.returned (Value.bool false)) w15
                          else
                           bif i10 == (0 : Int) then
                            ∃ (s20 : ByteArray),
                             s20.size = n8 ∧
                              BytesAt w15.drew q7 s20 ∧
                               (Known w15.drew [(w.heap.size, [((0 : Nat), Value.int IntKind.i64 n), ((1 : Nat), Value.int IntKind.i64 l), ((2 : Nat), Value.int IntKind.u32 u)])] →
                                Rets Tryd.prog (61 : Nat) #[Value.agg #[Value.int IntKind.i64 n, Value.int IntKind.i64 l, Value.int IntKind.u32 u]] w15.drew
                                 fun (v21 : Value) (w22 : World) =>
                                 ∃ (q23 : Option Addr),
                                  ∃ (n24 : Nat),
                                   ∃ (n25 : Nat),
                                    v21 = Value.slice q23 n24 n25 ∧
                                     Keeps w15.drew w22 [w.heap.size] ∧
                                      BytesAt w22 q7 s20 ∧
                                       ∃ (s26 : ByteArray),
                                        s26.size = n24 ∧
                                         BytesAt w22 q23 s26 ∧
                                          bif s20.toList == s26.toList then
                                           Known w22
                                             [(w.heap.size,
                                               [((0 : Nat), Value.int IntKind.i64 n), ((1 : Nat), Value.int IntKind.i64 l), ((2 : Nat), Value.int IntKind.u32 u)])] →
                                            Rets Tryd.prog (60 : Nat) #[] w22 fun (v27 : Value) (w28 : World) =>
                                             ∃ (t29 : Bool),
                                              v27 = Value.bool t29 ∧
                                               Keeps w22 w28 [w.heap.size] ∧
                                                (Known w28
                                                  [(w.heap.size,
                                                   [((0 : Nat), Value.int IntKind.i64 n), ((1 : Nat), Value.int IntKind.i64 l),
                                                    ((2 : Nat), Value.int IntKind.u32 u)])] →
                                                 R (Ending.returned (Value.bool t29)) w28)
                                          else
                                           Known w22
                                             [(w.heap.size,
                                               [((0 : Nat), Value.int IntKind.i64 n), ((1 : Nat), Value.int IntKind.i64 l), ((2 : Nat), Value.int IntKind.u32 u)])] →
                                            R (Ending.returned (Value.bool false)) w22)
                           else
                            Known w15.drew [(w.heap.size, [((0 : Nat), Value.int IntKind.i64 n), ((1 : Nat), Value.int IntKind.i64 l), ((2 : Nat), Value.int IntKind.u32 u)])] →
                             R (Ending.returned (Value.bool false)) w15.drew)))
theorem vcTryd13 (n l u : Int) (w : World) (R : Ending → World → Prop) : SX.vcFn Tryd.prog [] Tryd.f13 [.v (.agg #[.int .i64 n, .int .i64 l, .int .u32 u])] [] w R = VCTryd13 n l u w R := by kernel_rfl
def VCTryd14 (p0 : Option Addr) (n0 c0 : Nat) (p1 : Option Addr) (n1 c1 : Nat) (w : World) (R : Ending → World → Prop) : Prop :=
Rets Tryd.prog (62 : Nat) #[Value.slice p0 n0 c0] w fun (v0 : Value) (w1 : World) =>
 ∃ (t2 : Bool),
  v0 = Value.bool t2 ∧
   Keeps w w1 [] ∧
    bif t2 then Rets Tryd.prog (60 : Nat) #[] w1 fun (v3 : Value) (w4 : World) => ∃ (t5 : Bool), v3 = Value.bool t5 ∧ Keeps w1 w4 [] ∧ R (Ending.returned (Value.bool t5)) w4
    else
     bif decide ((↑n1 : Int) > (3000 : Int)) then Rets Tryd.prog (60 : Nat) #[] w1 fun (v6 : Value) (w7 : World) => ∃ (t8 : Bool), v6 = Value.bool t8 ∧ Keeps w1 w7 [] ∧ R (Ending.returned (Value.bool t8)) w7
     else
      Rets Tryd.prog (26 : Nat) #[] w1 fun (v9 : Value) (w10 : World) =>
       ∃ (x11 : Array Value),
        v9 = Value.agg x11 ∧
         Keeps w1 w10 [] ∧
          Runs Tryd.prog (Instr.storeAt (25 : Nat) (Value.pointer (some { block := w10.heap.size, off := (0 : Nat) })) (Value.agg x11)) (w10.alloc (Obj.cells (zeroA Tryd.prog (25 : Nat)) (25 : Nat)))
           fun (x12 : Unit) (w13 : World) =>
           Keeps (w10.alloc (Obj.cells (zeroA Tryd.prog (25 : Nat)) (25 : Nat))) w13 [] ∧
            Rets Tryd.prog (63 : Nat) #[Value.pointer (some { block := w10.heap.size, off := (0 : Nat) }), Value.slice p0 n0 c0] w13 fun (v14 : Value) (w15 : World) =>
             ∃ (q16 : Option Addr),
              ∃ (n17 : Nat),
               ∃ (n18 : Nat),
                ∃ (i19 : Int),
                 v14 = Value.tuple #[Value.slice q16 n17 n18, Value.int IntKind.i64 i19] ∧
                  Keeps w13 w15 [] ∧
                   bif i19 == (0 : Int) then
                    Rets Tryd.prog (64 : Nat) #[Value.pointer (some { block := w10.heap.size, off := (0 : Nat) }), Value.slice q16 n17 n18] w15 fun (v20 : Value) (w21 : World) =>
                     ∃ (q22 : Option Addr),
                      ∃ (n23 : Nat),
                       ∃ (n24 : Nat),
                        ∃ (i25 : Int),
                         v20 = Value.tuple #[Value.slice q22 n23 n24, Value.int IntKind.i64 i25] ∧
                          Keeps w15 w21 [] ∧
                           bif i25 != (0 : Int) then R (Ending.returned (Value.bool false)) w21
                           else
                            Rets Tryd.prog (39 : Nat) #[Value.slice q22 n23 n24, Value.slice p0 n0 c0] w21 fun (v26 : Value) (w27 : World) =>
                             ∃ (t28 : Bool),
                              v26 = Value.bool t28 ∧
                               Keeps w21 w27 [] ∧
                                bif !t28 then R (Ending.returned (Value.bool false)) w27
                                else
                                 Rets Tryd.prog (64 : Nat) #[Value.pointer (some { block := w10.heap.size, off := (0 : Nat) }), Value.slice p1 n1 c1] w27
                                  fun (v29 : Value) (w30 : World) =>
                                  ∃ (q31 : Option Addr),
                                   ∃ (n32 : Nat),
                                    ∃ (n33 : Nat),
                                     ∃ (i34 : Int),
                                      v29 = Value.tuple #[Value.slice q31 n32 n33, Value.int IntKind.i64 i34] ∧
                                       Keeps w27 w30 [] ∧
                                        bif i34 != (0 : Int) then
                                         bif (↑n32 : Int) == (0 : Int) then
                                          Rets Tryd.prog (60 : Nat) #[] w30 fun (v35 : Value) (w36 : World) =>
                                           ∃ (t37 : Bool), v35 = Value.bool t37 ∧ Keeps w30 w36 [] ∧ R (Ending.returned (Value.bool t37)) w36
                                         else R (Ending.returned (Value.bool false)) w30
                                        else
                                         Rets Tryd.prog (63 : Nat) #[Value.pointer (some { block := w10.heap.size, off := (0 : Nat) }), Value.slice q31 n32 n33] w30
                                          fun (v38 : Value) (w39 : World) =>
                                          ∃ (q40 : Option Addr),
                                           ∃ (n41 : Nat),
                                            ∃ (n42 : Nat),
                                             ∃ (i43 : Int),
                                              v38 = Value.tuple #[Value.slice q40 n41 n42, Value.int IntKind.i64 i43] ∧
                                               Keeps w30 w39 [] ∧
                                                bif i43 == (0 : Int) then
                                                 ∃ (s44 : ByteArray),
                                                  s44.size = n41 ∧
                                                   BytesAt w39 q40 s44 ∧
                                                    ∃ (s45 : ByteArray),
                                                     s45.size = n1 ∧
                                                      BytesAt w39 p1 s45 ∧
                                                       bif s44.toList == s45.toList then
                                                        Rets Tryd.prog (60 : Nat) #[] w39 fun (v46 : Value) (w47 : World) =>
                                                         ∃ (t48 : Bool), v46 = Value.bool t48 ∧ Keeps w39 w47 [] ∧ R (Ending.returned (Value.bool t48)) w47
                                                       else R (Ending.returned (Value.bool false)) w39
                                                else R (Ending.returned (Value.bool false)) w39
                   else
                    Rets Tryd.prog (64 : Nat) #[Value.pointer (some { block := w10.heap.size, off := (0 : Nat) }), Value.slice p1 n1 c1] w15 fun (v49 : Value) (w50 : World) =>
                     ∃ (q51 : Option Addr),
                      ∃ (n52 : Nat),
                       ∃ (n53 : Nat),
                        ∃ (i54 : Int),
                         v49 = Value.tuple #[Value.slice q51 n52 n53, Value.int IntKind.i64 i54] ∧
                          Keeps w15 w50 [] ∧
                           bif i54 != (0 : Int) then
                            bif (↑n52 : Int) == (0 : Int) then
                             Rets Tryd.prog (60 : Nat) #[] w50 fun (v55 : Value) (w56 : World) =>
                              ∃ (t57 : Bool), v55 = Value.bool t57 ∧ Keeps w50 w56 [] ∧ R (Ending.returned (Value.bool t57)) w56
                            else R (Ending.returned (Value.bool false)) w50
                           else
                            Rets Tryd.prog (63 : Nat) #[Value.pointer (some { block := w10.heap.size, off := (0 : Nat) }), Value.slice q51 n52 n53] w50 fun (v58 : Value) (w59 : World) =>
                             ∃ (q60 : Option Addr),
                              ∃ (n61 : Nat),
                               ∃ (n62 : Nat),
                                ∃ (i63 : Int),
                                 v58 = Value.tuple #[Value.slice q60 n61 n62, Value.int IntKind.i64 i63] ∧
                                  Keeps w50 w59 [] ∧
                                   bif i63 == (0 : Int) then
                                    ∃ (s64 : ByteArray),
                                     s64.size = n61 ∧
                                      BytesAt w59 q60 s64 ∧
                                       ∃ (s65 : ByteArray),
                                        s65.size = n1 ∧
                                         BytesAt w59 p1 s65 ∧
                                          bif s64.toList == s65.toList then
                                           Rets Tryd.prog (60 : Nat) #[] w59 fun (v66 : Value) (w67 : World) =>
                                            ∃ (t68 : Bool), v66 = Value.bool t68 ∧ Keeps w59 w67 [] ∧ R (Ending.returned (Value.bool t68)) w67
                                          else R (Ending.returned (Value.bool false)) w59
                                   else R (Ending.returned (Value.bool false)) w59
theorem vcTryd14 (p0 : Option Addr) (n0 c0 : Nat) (p1 : Option Addr) (n1 c1 : Nat) (w : World) (R : Ending → World → Prop) : SX.vcFn Tryd.prog [] Tryd.f14 [.v (.slice p0 n0 c0), .v (.slice p1 n1 c1)] [] w R = VCTryd14 p0 n0 c0 p1 n1 c1 w R := by kernel_rfl
def VCTryd15 (p0 : Option Addr) (n0 c0 : Nat) (p1 : Int) (p2 : Int) (w : World) (R : Ending → World → Prop) : Prop :=
Rets Tryd.prog (62 : Nat) #[Value.slice p0 n0 c0] w fun (v0 : Value) (w1 : World) =>
 ∃ (t2 : Bool),
  v0 = Value.bool t2 ∧
   Keeps w w1 [] ∧
    bif t2 then Rets Tryd.prog (60 : Nat) #[] w1 fun (v3 : Value) (w4 : World) => ∃ (t5 : Bool), v3 = Value.bool t5 ∧ Keeps w1 w4 [] ∧ R (Ending.returned (Value.bool t5)) w4
    else
     bif decide (p1 < (0 : Int)) then Rets Tryd.prog (60 : Nat) #[] w1 fun (v6 : Value) (w7 : World) => ∃ (t8 : Bool), v6 = Value.bool t8 ∧ Keeps w1 w7 [] ∧ R (Ending.returned (Value.bool t8)) w7
     else
      bif decide (p1 > (200000 : Int)) then Rets Tryd.prog (60 : Nat) #[] w1 fun (v9 : Value) (w10 : World) => ∃ (t11 : Bool), v9 = Value.bool t11 ∧ Keeps w1 w10 [] ∧ R (Ending.returned (Value.bool t11)) w10
      else
       Rets Tryd.prog (26 : Nat) #[] w1 fun (v12 : Value) (w13 : World) =>
        ∃ (x14 : Array Value),
         v12 = Value.agg x14 ∧
          Keeps w1 w13 [] ∧
           Runs Tryd.prog (Instr.storeAt (25 : Nat) (Value.pointer (some { block := w13.heap.size, off := (0 : Nat) })) (Value.agg x14)) (w13.alloc (Obj.cells (zeroA Tryd.prog (25 : Nat)) (25 : Nat)))
            fun (x15 : Unit) (w16 : World) =>
            Keeps (w13.alloc (Obj.cells (zeroA Tryd.prog (25 : Nat)) (25 : Nat))) w16 [] ∧
             Rets Tryd.prog (63 : Nat) #[Value.pointer (some { block := w13.heap.size, off := (0 : Nat) }), Value.slice p0 n0 c0] w16 fun (v17 : Value) (w18 : World) =>
              ∃ (q19 : Option Addr),
               ∃ (n20 : Nat),
                ∃ (n21 : Nat),
                 ∃ (i22 : Int),
                  v17 = Value.tuple #[Value.slice q19 n20 n21, Value.int IntKind.i64 i22] ∧
                   Keeps w16 w18 [] ∧
                    bif i22 != (0 : Int) then
                     bif (↑n20 : Int) == (0 : Int) then
                      Rets Tryd.prog (60 : Nat) #[] w18 fun (v23 : Value) (w24 : World) => ∃ (t25 : Bool), v23 = Value.bool t25 ∧ Keeps w18 w24 [] ∧ R (Ending.returned (Value.bool t25)) w24
                     else R (Ending.returned (Value.bool false)) w18
                    else
                     Rets Tryd.prog (34 : Nat) #[Value.slice q19 n20 n21, Value.int IntKind.i64 p1, Value.int IntKind.u32 p2] w18 fun (v26 : Value) (w27 : World) =>
                      ∃ (q28 : Option Addr),
                       ∃ (n29 : Nat),
                        ∃ (n30 : Nat),
                         v26 = Value.slice q28 n29 n30 ∧
                          Keeps w18 w27 [] ∧
                           Rets Tryd.prog (64 : Nat) #[Value.pointer (some { block := w13.heap.size, off := (0 : Nat) }), Value.slice q28 n29 n30] w27 fun (v31 : Value) (w32 : World) =>
                            ∃ (q33 : Option Addr),
                             ∃ (n34 : Nat),
                              ∃ (n35 : Nat),
                               ∃ (i36 : Int),
                                v31 = Value.tuple #[Value.slice q33 n34 n35, Value.int IntKind.i64 i36] ∧
                                 Keeps w27 w32 [] ∧
                                  Rets Tryd.prog (35 : Nat) #[Value.slice q19 n20 n21, Value.slice q28 n29 n30] w32 fun (v37 : Value) (w38 : World) =>
                                   ∃ (t39 : Bool),
                                    v37 = Value.bool t39 ∧
                                     Keeps w32 w38 [] ∧
                                      bif t39 then
                                       bif i36 == (0 : Int) then
                                        Rets Tryd.prog (60 : Nat) #[] w38 fun (v40 : Value) (w41 : World) =>
                                         ∃ (t42 : Bool), v40 = Value.bool t42 ∧ Keeps w38 w41 [] ∧ R (Ending.returned (Value.bool t42)) w41
                                       else R (Ending.returned (Value.bool false)) w38
                                      else
                                       bif i36 != (0 : Int) then
                                        bif (↑n34 : Int) == (0 : Int) then
                                         Rets Tryd.prog (60 : Nat) #[] w38 fun (v43 : Value) (w44 : World) =>
                                          ∃ (t45 : Bool), v43 = Value.bool t45 ∧ Keeps w38 w44 [] ∧ R (Ending.returned (Value.bool t45)) w44
                                        else R (Ending.returned (Value.bool false)) w38
                                       else R (Ending.returned (Value.bool false)) w38
theorem vcTryd15 (p0 : Option Addr) (n0 c0 : Nat) (p1 : Int) (p2 : Int) (w : World) (R : Ending → World → Prop) : SX.vcFn Tryd.prog [] Tryd.f15 [.v (.slice p0 n0 c0), .v (.int .i64 p1), .v (.int .u32 p2)] [] w R = VCTryd15 p0 n0 c0 p1 p2 w R := by kernel_rfl
end Go.Proofs.YtbpknjldphckgaaDoor
