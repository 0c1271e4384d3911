/- The conditions of functions, as the executor computes them: each is equal to what 'vcFn' says. -/
import Derived.Test.YtbpknjldphckgaaDoorSxLib
import Derived.Test.YtbpknjldphckgaaDoorProg
namespace Go.Proofs.YtbpknjldphckgaaDoor
open Go Go.SX Go.Proofs
set_option maxRecDepth 100000
set_option linter.unusedVariables false
def VCTryd49 (t : Option Addr) (m : Int) (s : ByteArray) (z a u : Int) (w : World) (R : Ending → World → Prop) : Prop :=
Known (w.alloc (Obj.cells #[Value.int IntKind.i64 m, Value.string s, Value.int IntKind.i64 z, Value.int IntKind.i64 a, Value.int IntKind.u32 u] (54 : Nat)))
  [(w.heap.size, [((0 : Nat), Value.int IntKind.i64 m), ((1 : Nat), Value.string s), ((2 : Nat), Value.int IntKind.i64 z), ((3 : Nat), Value.int IntKind.i64 a), ((4 : Nat), Value.int IntKind.u32 u)])] →
 Rets Tryd.prog (51 : Nat) #[Value.agg #[Value.int IntKind.i64 m, Value.string s, Value.int IntKind.i64 z, Value.int IntKind.i64 a, Value.int IntKind.u32 u]]
  (w.alloc (Obj.cells #[Value.int IntKind.i64 m, Value.string s, Value.int IntKind.i64 z, Value.int IntKind.i64 a, Value.int IntKind.u32 u] (54 : Nat))) fun (v0 : Value) (w1 : World) =>
  ∃ (t2 : Bool),
   v0 = Value.bool t2 ∧
    Keeps (w.alloc (Obj.cells #[Value.int IntKind.i64 m, Value.string s, Value.int IntKind.i64 z, Value.int IntKind.i64 a, Value.int IntKind.u32 u] (54 : Nat))) w1 [w.heap.size] ∧
     bif !t2 then
      Known w1
        [(w.heap.size, [((0 : Nat), Value.int IntKind.i64 m), ((1 : Nat), Value.string s), ((2 : Nat), Value.int IntKind.i64 z), ((3 : Nat), Value.int IntKind.i64 a), ((4 : Nat), Value.int IntKind.u32 u)])] →
       R (Ending.returned (Value.tuple #[Value.slice none (0 : Nat) (0 : Nat), Value.int IntKind.i64 (1 : Int)])) w1
     else
      Runs Tryd.prog (convert (27 : Nat) (27 : Nat) (Value.slice (some { block := w1.heap.size, off := (0 : Nat) }) (4 : Nat) (4 : Nat)))
       (w1.alloc (Obj.cells #[Value.int IntKind.u8 (76 : Int), Value.int IntKind.u8 (77 : Int), Value.int IntKind.u8 (66 : Int), Value.int IntKind.u8 (82 : Int)] (5 : Nat))) fun (v3 : Value) (w4 : World) =>
       ∃ (q5 : Option Addr),
        ∃ (n6 : Nat),
         ∃ (n7 : Nat),
          v3 = Value.slice q5 n6 n7 ∧
           Keeps (w1.alloc (Obj.cells #[Value.int IntKind.u8 (76 : Int), Value.int IntKind.u8 (77 : Int), Value.int IntKind.u8 (66 : Int), Value.int IntKind.u8 (82 : Int)] (5 : Nat))) w4 [w.heap.size] ∧
            Wr IntKind.u8 m fun (i8 : Int) =>
             Wr IntKind.u8 (↑s.size : Int) fun (i9 : Int) =>
              Runs Tryd.prog (Builtin.append_ #[(27 : Nat), (27 : Nat)] (27 : Nat) #[Value.slice q5 n6 n7, Value.slice (some { block := w4.heap.size, off := (0 : Nat) }) (2 : Nat) (2 : Nat)])
               (w4.alloc (Obj.cells #[Value.int IntKind.u8 i8, Value.int IntKind.u8 i9] (5 : Nat))) fun (v10 : Value) (w11 : World) =>
               ∃ (q12 : Option Addr),
                ∃ (n13 : Nat),
                 ∃ (n14 : Nat),
                  v10 = Value.slice q12 n13 n14 ∧
                   Keeps (w4.alloc (Obj.cells #[Value.int IntKind.u8 i8, Value.int IntKind.u8 i9] (5 : Nat))) w11 [w.heap.size] ∧
                    Wr IntKind.u32 z fun (i15 : Int) =>
                     Wr IntKind.u32 a fun (i16 : Int) =>
                      ∃ (I17 : Int → Option Addr → Nat → Nat → World → Prop),
                       ∃ (I18 : Int → Option Addr → Nat → Nat → World → Nat),
                        I17 (0 : Int) q12 n13 n14 w11 ∧
                         ∀ (i19 : Int) (q20 : Option Addr) (n21 n22 : Nat) (w23 : World),
                          I17 i19 q20 n21 n22 w23 →
                           Known w23
                             [(w.heap.size,
                               [((0 : Nat), Value.int IntKind.i64 m), ((1 : Nat), Value.string s), ((2 : Nat), Value.int IntKind.i64 z), ((3 : Nat), Value.int IntKind.i64 a),
                                ((4 : Nat), Value.int IntKind.u32 u)])] →
                            bif decide (i19 < (3 : Int)) then
                             ((0 : Int) ≤ i19 ∧ i19 < (↑(3 : Nat) : Int)) ∧
                              ∃ (i24 : Int),
                               nth [Value.int IntKind.u32 i15, Value.int IntKind.u32 i16, Value.int IntKind.u32 u] i19.toNat = some (Value.int IntKind.u32 i24) ∧
                                (Known w23
                                  [(w.heap.size,
                                    [((0 : Nat), Value.int IntKind.i64 m), ((1 : Nat), Value.string s), ((2 : Nat), Value.int IntKind.i64 z), ((3 : Nat), Value.int IntKind.i64 a),
                                     ((4 : Nat), Value.int IntKind.u32 u)])] →
                                 Rets Tryd.prog (105 : Nat) #[Value.slice q20 n21 n22, Value.int IntKind.u32 i24, Value.int IntKind.i64 (4 : Int)] w23 fun (v25 : Value) (w26 : World) =>
                                  ∃ (q27 : Option Addr),
                                   ∃ (n28 : Nat),
                                    ∃ (n29 : Nat),
                                     v25 = Value.slice q27 n28 n29 ∧
                                      Keeps w23 w26 [w.heap.size] ∧
                                       Wr IntKind.i64 (i19 + (1 : Int)) fun (i30 : Int) =>
                                        SameVals [Value.int IntKind.i64 m, Value.string s, Value.int IntKind.i64 z, Value.int IntKind.i64 a, Value.int IntKind.u32 u]
                                          [Value.int IntKind.i64 m, Value.string s, Value.int IntKind.i64 z, Value.int IntKind.i64 a, Value.int IntKind.u32 u] ∧
                                         I17 i30 q27 n28 n29 w26 ∧ I18 i30 q27 n28 n29 w26 < I18 i19 q20 n21 n22 w23)
                            else
                             Runs Tryd.prog (Builtin.append_ #[(27 : Nat), (9 : Nat)] (27 : Nat) #[Value.slice q20 n21 n22, Value.string s]) w23 fun (v31 : Value) (w32 : World) =>
                              ∃ (q33 : Option Addr),
                               ∃ (n34 : Nat),
                                ∃ (n35 : Nat),
                                 v31 = Value.slice q33 n34 n35 ∧
                                  Keeps w23 w32 [w.heap.size] ∧
                                   (Known w32
                                     [(w.heap.size,
                                       [((0 : Nat), Value.int IntKind.i64 m), ((1 : Nat), Value.string s), ((2 : Nat), Value.int IntKind.i64 z),
                                        ((3 : Nat), Value.int IntKind.i64 a), ((4 : Nat), Value.int IntKind.u32 u)])] →
                                    Rets Tryd.prog (106 : Nat) #[Value.pointer t, Value.slice q33 n34 n35] w32 fun (v36 : Value) (w37 : World) =>
                                     ∃ (i38 : Int),
                                      v36 = Value.int IntKind.u32 i38 ∧
                                       Keeps w32 w37 [w.heap.size] ∧
                                        (Known w37
                                          [(w.heap.size,
                                            [((0 : Nat), Value.int IntKind.i64 m), ((1 : Nat), Value.string s), ((2 : Nat), Value.int IntKind.i64 z),
                                             ((3 : Nat), Value.int IntKind.i64 a), ((4 : Nat), Value.int IntKind.u32 u)])] →
                                         Rets Tryd.prog (105 : Nat) #[Value.slice q33 n34 n35, Value.int IntKind.u32 i38, Value.int IntKind.i64 (4 : Int)] w37
                                          fun (v39 : Value) (w40 : World) =>
                                          ∃ (q41 : Option Addr),
                                           ∃ (n42 : Nat),
                                            ∃ (n43 : Nat),
                                             v39 = Value.slice q41 n42 n43 ∧
                                              Keeps w37 w40 [w.heap.size] ∧
                                               (Known w40
                                                 [(w.heap.size,
                                                  [((0 : Nat), Value.int IntKind.i64 m), ((1 : Nat), Value.string s), ((2 : Nat), Value.int IntKind.i64 z),
                                                   ((3 : Nat), Value.int IntKind.i64 a), ((4 : Nat), Value.int IntKind.u32 u)])] →
                                                R (Ending.returned (Value.tuple #[Value.slice q41 n42 n43, Value.int IntKind.i64 (0 : Int)])) w40)))
theorem vcTryd49 (t : Option Addr) (m : Int) (s : ByteArray) (z a u : Int) (w : World) (R : Ending → World → Prop) : SX.vcFn Tryd.prog [(5, ⟨[(32, .int .i64), (6, .slice)], [31, 3, 0], []⟩)] Tryd.f49 [.v (.pointer t), .v (.agg #[.int .i64 m, .string s, .int .i64 z, .int .i64 a, .int .u32 u])] [] w R = VCTryd49 t m s z a u w R := by kernel_rfl
def VCTryd50 (m : Int) (s : ByteArray) (z a u : Int) (w : World) (R : Ending → World → Prop) : Prop :=
Known (w.alloc (Obj.cells #[Value.int IntKind.i64 m, Value.string s, Value.int IntKind.i64 z, Value.int IntKind.i64 a, Value.int IntKind.u32 u] (57 : Nat)))
  [(w.heap.size, [((0 : Nat), Value.int IntKind.i64 m), ((1 : Nat), Value.string s), ((2 : Nat), Value.int IntKind.i64 z), ((3 : Nat), Value.int IntKind.i64 a), ((4 : Nat), Value.int IntKind.u32 u)])] →
 Rets Tryd.prog (29 : Nat) #[Value.string s] (w.alloc (Obj.cells #[Value.int IntKind.i64 m, Value.string s, Value.int IntKind.i64 z, Value.int IntKind.i64 a, Value.int IntKind.u32 u] (57 : Nat)))
  fun (v0 : Value) (w1 : World) =>
  ∃ (t2 : Bool),
   v0 = Value.bool t2 ∧
    Keeps (w.alloc (Obj.cells #[Value.int IntKind.i64 m, Value.string s, Value.int IntKind.i64 z, Value.int IntKind.i64 a, Value.int IntKind.u32 u] (57 : Nat))) w1 [w.heap.size] ∧
     bif !t2 then
      Known w1
        [(w.heap.size, [((0 : Nat), Value.int IntKind.i64 m), ((1 : Nat), Value.string s), ((2 : Nat), Value.int IntKind.i64 z), ((3 : Nat), Value.int IntKind.i64 a), ((4 : Nat), Value.int IntKind.u32 u)])] →
       R (Ending.returned (Value.bool false)) w1
     else
      bif m == (2 : Int) then
       bif z == (0 : Int) then
        bif a == (0 : Int) then
         Known w1
           [(w.heap.size,
             [((0 : Nat), Value.int IntKind.i64 m), ((1 : Nat), Value.string s), ((2 : Nat), Value.int IntKind.i64 z), ((3 : Nat), Value.int IntKind.i64 a), ((4 : Nat), Value.int IntKind.u32 u)])] →
          R (Ending.returned (Value.bool (u == (0 : Int)))) w1
        else
         Known w1
           [(w.heap.size,
             [((0 : Nat), Value.int IntKind.i64 m), ((1 : Nat), Value.string s), ((2 : Nat), Value.int IntKind.i64 z), ((3 : Nat), Value.int IntKind.i64 a), ((4 : Nat), Value.int IntKind.u32 u)])] →
          R (Ending.returned (Value.bool false)) w1
       else
        Known w1
          [(w.heap.size, [((0 : Nat), Value.int IntKind.i64 m), ((1 : Nat), Value.string s), ((2 : Nat), Value.int IntKind.i64 z), ((3 : Nat), Value.int IntKind.i64 a), ((4 : Nat), Value.int IntKind.u32 u)])] →
         R (Ending.returned (Value.bool false)) w1
      else
       bif decide (z < (0 : Int)) then
        Known w1
          [(w.heap.size, [((0 : Nat), Value.int IntKind.i64 m), ((1 : Nat), Value.string s), ((2 : Nat), Value.int IntKind.i64 z), ((3 : Nat), Value.int IntKind.i64 a), ((4 : Nat), Value.int IntKind.u32 u)])] →
         R (Ending.returned (Value.bool false)) w1
       else
        bif decide (z > (65536 : Int)) then
         Known w1
           [(w.heap.size,
             [((0 : Nat), Value.int IntKind.i64 m), ((1 : Nat), Value.string s), ((2 : Nat), Value.int IntKind.i64 z), ((3 : Nat), Value.int IntKind.i64 a), ((4 : Nat), Value.int IntKind.u32 u)])] →
          R (Ending.returned (Value.bool false)) w1
        else
         bif decide (a < (0 : Int)) then
          Known w1
            [(w.heap.size,
              [((0 : Nat), Value.int IntKind.i64 m), ((1 : Nat), Value.string s), ((2 : Nat), Value.int IntKind.i64 z), ((3 : Nat), Value.int IntKind.i64 a), ((4 : Nat), Value.int IntKind.u32 u)])] →
           R (Ending.returned (Value.bool false)) w1
         else
          bif m == (0 : Int) then
           bif a == z then
            Known w1
              [(w.heap.size,
                [((0 : Nat), Value.int IntKind.i64 m), ((1 : Nat), Value.string s), ((2 : Nat), Value.int IntKind.i64 z), ((3 : Nat), Value.int IntKind.i64 a), ((4 : Nat), Value.int IntKind.u32 u)])] →
             R (Ending.returned (Value.bool true)) w1
           else
            bif m == (1 : Int) then
             Known w1
               [(w.heap.size,
                 [((0 : Nat), Value.int IntKind.i64 m), ((1 : Nat), Value.string s), ((2 : Nat), Value.int IntKind.i64 z), ((3 : Nat), Value.int IntKind.i64 a), ((4 : Nat), Value.int IntKind.u32 u)])] →
              R (Ending.returned (Value.bool (decide (a < z)))) w1
            else
             Known w1
               [(w.heap.size,
                 [((0 : Nat), Value.int IntKind.i64 m), ((1 : Nat), Value.string s), ((2 : Nat), Value.int IntKind.i64 z), ((3 : Nat), Value.int IntKind.i64 a), ((4 : Nat), Value.int IntKind.u32 u)])] →
              R (Ending.returned (Value.bool false)) w1
          else
           bif m == (1 : Int) then
            Known w1
              [(w.heap.size,
                [((0 : Nat), Value.int IntKind.i64 m), ((1 : Nat), Value.string s), ((2 : Nat), Value.int IntKind.i64 z), ((3 : Nat), Value.int IntKind.i64 a), ((4 : Nat), Value.int IntKind.u32 u)])] →
             R (Ending.returned (Value.bool (decide (a < z)))) w1
           else
            Known w1
              [(w.heap.size,
                [((0 : Nat), Value.int IntKind.i64 m), ((1 : Nat), Value.string s), ((2 : Nat), Value.int IntKind.i64 z), ((3 : Nat), Value.int IntKind.i64 a), ((4 : Nat), Value.int IntKind.u32 u)])] →
             R (Ending.returned (Value.bool false)) w1
theorem vcTryd50 (m : Int) (s : ByteArray) (z a u : Int) (w : World) (R : Ending → World → Prop) : SX.vcFn Tryd.prog [] Tryd.f50 [.v (.agg #[.int .i64 m, .string s, .int .i64 z, .int .i64 a, .int .u32 u])] [] w R = VCTryd50 m s z a u w R := by kernel_rfl
def VCTryd51 (m : Int) (s : ByteArray) (z a u : Int) (w : World) (R : Ending → World → Prop) : Prop :=
Known (w.alloc (Obj.cells #[Value.int IntKind.i64 m, Value.string s, Value.int IntKind.i64 z, Value.int IntKind.i64 a, Value.int IntKind.u32 u] (54 : Nat)))
  [(w.heap.size, [((0 : Nat), Value.int IntKind.i64 m), ((1 : Nat), Value.string s), ((2 : Nat), Value.int IntKind.i64 z), ((3 : Nat), Value.int IntKind.i64 a), ((4 : Nat), Value.int IntKind.u32 u)])] →
 Rets Tryd.prog (104 : Nat) #[Value.string s] (w.alloc (Obj.cells #[Value.int IntKind.i64 m, Value.string s, Value.int IntKind.i64 z, Value.int IntKind.i64 a, Value.int IntKind.u32 u] (54 : Nat)))
  fun (v0 : Value) (w1 : World) =>
  ∃ (t2 : Bool),
   v0 = Value.bool t2 ∧
    Keeps (w.alloc (Obj.cells #[Value.int IntKind.i64 m, Value.string s, Value.int IntKind.i64 z, Value.int IntKind.i64 a, Value.int IntKind.u32 u] (54 : Nat))) w1 [w.heap.size] ∧
     bif !t2 then
      Known w1
        [(w.heap.size, [((0 : Nat), Value.int IntKind.i64 m), ((1 : Nat), Value.string s), ((2 : Nat), Value.int IntKind.i64 z), ((3 : Nat), Value.int IntKind.i64 a), ((4 : Nat), Value.int IntKind.u32 u)])] →
       R (Ending.returned (Value.bool false)) w1
     else
      bif decide (z < (0 : Int)) then
       Known w1
         [(w.heap.size, [((0 : Nat), Value.int IntKind.i64 m), ((1 : Nat), Value.string s), ((2 : Nat), Value.int IntKind.i64 z), ((3 : Nat), Value.int IntKind.i64 a), ((4 : Nat), Value.int IntKind.u32 u)])] →
        R (Ending.returned (Value.bool false)) w1
      else
       bif decide (z > (65536 : Int)) then
        Known w1
          [(w.heap.size, [((0 : Nat), Value.int IntKind.i64 m), ((1 : Nat), Value.string s), ((2 : Nat), Value.int IntKind.i64 z), ((3 : Nat), Value.int IntKind.i64 a), ((4 : Nat), Value.int IntKind.u32 u)])] →
         R (Ending.returned (Value.bool false)) w1
       else
        bif decide (a < (0 : Int)) then
         Known w1
           [(w.heap.size,
             [((0 : Nat), Value.int IntKind.i64 m), ((1 : Nat), Value.string s), ((2 : Nat), Value.int IntKind.i64 z), ((3 : Nat), Value.int IntKind.i64 a), ((4 : Nat), Value.int IntKind.u32 u)])] →
          R (Ending.returned (Value.bool false)) w1
        else
         bif m == (0 : Int) then
          Known w1
            [(w.heap.size,
              [((0 : Nat), Value.int IntKind.i64 m), ((1 : Nat), Value.string s), ((2 : Nat), Value.int IntKind.i64 z), ((3 : Nat), Value.int IntKind.i64 a), ((4 : Nat), Value.int IntKind.u32 u)])] →
           R (Ending.returned (Value.bool (a == z))) w1
         else
          bif m == (1 : Int) then
           Known w1
             [(w.heap.size,
               [((0 : Nat), Value.int IntKind.i64 m), ((1 : Nat), Value.string s), ((2 : Nat), Value.int IntKind.i64 z), ((3 : Nat), Value.int IntKind.i64 a), ((4 : Nat), Value.int IntKind.u32 u)])] →
            R (Ending.returned (Value.bool (decide (a < z)))) w1
          else
           bif m == (2 : Int) then
            bif z == (0 : Int) then
             bif a == (0 : Int) then
              Known w1
                [(w.heap.size,
                  [((0 : Nat), Value.int IntKind.i64 m), ((1 : Nat), Value.string s), ((2 : Nat), Value.int IntKind.i64 z), ((3 : Nat), Value.int IntKind.i64 a),
                   ((4 : Nat), Value.int IntKind.u32 u)])] →
               R (Ending.returned (Value.bool (u == (0 : Int)))) w1
             else
              Known w1
                [(w.heap.size,
                  [((0 : Nat), Value.int IntKind.i64 m), ((1 : Nat), Value.string s), ((2 : Nat), Value.int IntKind.i64 z), ((3 : Nat), Value.int IntKind.i64 a),
                   ((4 : Nat), Value.int IntKind.u32 u)])] →
               R (Ending.returned (Value.bool false)) w1
            else
             Known w1
               [(w.heap.size,
                 [((0 : Nat), Value.int IntKind.i64 m), ((1 : Nat), Value.string s), ((2 : Nat), Value.int IntKind.i64 z), ((3 : Nat), Value.int IntKind.i64 a), ((4 : Nat), Value.int IntKind.u32 u)])] →
              R (Ending.returned (Value.bool false)) w1
           else
            Known w1
              [(w.heap.size,
                [((0 : Nat), Value.int IntKind.i64 m), ((1 : Nat), Value.string s), ((2 : Nat), Value.int IntKind.i64 z), ((3 : Nat), Value.int IntKind.i64 a), ((4 : Nat), Value.int IntKind.u32 u)])] →
             R (Ending.returned (Value.bool false)) w1
theorem vcTryd51 (m : Int) (s : ByteArray) (z a u : Int) (w : World) (R : Ending → World → Prop) : SX.vcFn Tryd.prog [] Tryd.f51 [.v (.agg #[.int .i64 m, .string s, .int .i64 z, .int .i64 a, .int .u32 u])] [] w R = VCTryd51 m s z a u w R := by kernel_rfl
def VCTryd52 (p0 : ByteArray) (w : World) (R : Ending → World → Prop) : Prop :=
Wr IntKind.i64 ((22 : Int) + (↑p0.size : Int)) fun (i0 : Int) => R (Ending.returned (Value.int IntKind.i64 i0)) w
theorem vcTryd52 (p0 : ByteArray) (w : World) (R : Ending → World → Prop) : SX.vcFn Tryd.prog [] Tryd.f52 [.v (.string p0)] [] w R = VCTryd52 p0 w R := by kernel_rfl
def VCTryd53 (m : Int) (s : ByteArray) (z a u : Int) (w : World) (R : Ending → World → Prop) : Prop :=
Runs Tryd.prog
 (convert (27 : Nat) (27 : Nat)
  (Value.slice (some { block := (w.alloc (Obj.cells #[Value.int IntKind.i64 m, Value.string s, Value.int IntKind.i64 z, Value.int IntKind.i64 a, Value.int IntKind.u32 u] (57 : Nat))).heap.size, off := (0 : Nat) })
   (4 : Nat) (4 : Nat)))
 ((w.alloc (Obj.cells #[Value.int IntKind.i64 m, Value.string s, Value.int IntKind.i64 z, Value.int IntKind.i64 a, Value.int IntKind.u32 u] (57 : Nat))).alloc
  (Obj.cells #[Value.int IntKind.u8 (76 : Int), Value.int IntKind.u8 (77 : Int), Value.int IntKind.u8 (66 : Int), Value.int IntKind.u8 (82 : Int)] (5 : Nat)))
 fun (v0 : Value) (w1 : World) =>
 ∃ (q2 : Option Addr),
  ∃ (n3 : Nat),
   ∃ (n4 : Nat),
    v0 = Value.slice q2 n3 n4 ∧
     Keeps
       ((w.alloc (Obj.cells #[Value.int IntKind.i64 m, Value.string s, Value.int IntKind.i64 z, Value.int IntKind.i64 a, Value.int IntKind.u32 u] (57 : Nat))).alloc
        (Obj.cells #[Value.int IntKind.u8 (76 : Int), Value.int IntKind.u8 (77 : Int), Value.int IntKind.u8 (66 : Int), Value.int IntKind.u8 (82 : Int)] (5 : Nat)))
       w1 [w.heap.size] ∧
      Wr IntKind.u8 m fun (i5 : Int) =>
       Wr IntKind.u8 (↑s.size : Int) fun (i6 : Int) =>
        Runs Tryd.prog (Builtin.append_ #[(27 : Nat), (27 : Nat)] (27 : Nat) #[Value.slice q2 n3 n4, Value.slice (some { block := w1.heap.size, off := (0 : Nat) }) (2 : Nat) (2 : Nat)])
         (w1.alloc (Obj.cells #[Value.int IntKind.u8 i5, Value.int IntKind.u8 i6] (5 : Nat))) fun (v7 : Value) (w8 : World) =>
         ∃ (q9 : Option Addr),
          ∃ (n10 : Nat),
           ∃ (n11 : Nat),
            v7 = Value.slice q9 n10 n11 ∧
             Keeps (w1.alloc (Obj.cells #[Value.int IntKind.u8 i5, Value.int IntKind.u8 i6] (5 : Nat))) w8 [w.heap.size] ∧
              Wr IntKind.u32 z fun (i12 : Int) =>
               Known w8
                 [(w.heap.size,
                   [((0 : Nat), Value.int IntKind.i64 m), ((1 : Nat), Value.string s), ((2 : Nat), Value.int IntKind.i64 z), ((3 : Nat), Value.int IntKind.i64 a),
                    ((4 : Nat), Value.int IntKind.u32 u)])] →
                Rets Tryd.prog (120 : Nat) #[Value.int IntKind.u32 i12, Value.int IntKind.i64 (4 : Int)] w8 fun (v13 : Value) (w14 : World) =>
                 ∃ (q15 : Option Addr),
                  ∃ (n16 : Nat),
                   ∃ (n17 : Nat),
                    v13 = Value.slice q15 n16 n17 ∧
                     Keeps w8 w14 [w.heap.size] ∧
                      Runs Tryd.prog (Builtin.append_ #[(27 : Nat), (27 : Nat)] (27 : Nat) #[Value.slice q9 n10 n11, Value.slice q15 n16 n17]) w14 fun (v18 : Value) (w19 : World) =>
                       ∃ (q20 : Option Addr),
                        ∃ (n21 : Nat),
                         ∃ (n22 : Nat),
                          v18 = Value.slice q20 n21 n22 ∧
                           Keeps w14 w19 [w.heap.size] ∧
                            Wr IntKind.u32 a fun (i23 : Int) =>
                             Known w19
                               [(w.heap.size,
                                 [((0 : Nat), Value.int IntKind.i64 m), ((1 : Nat), Value.string s), ((2 : Nat), Value.int IntKind.i64 z), ((3 : Nat), Value.int IntKind.i64 a),
                                  ((4 : Nat), Value.int IntKind.u32 u)])] →
                              Rets Tryd.prog (120 : Nat) #[Value.int IntKind.u32 i23, Value.int IntKind.i64 (4 : Int)] w19 fun (v24 : Value) (w25 : World) =>
                               ∃ (q26 : Option Addr),
                                ∃ (n27 : Nat),
                                 ∃ (n28 : Nat),
                                  v24 = Value.slice q26 n27 n28 ∧
                                   Keeps w19 w25 [w.heap.size] ∧
                                    Runs Tryd.prog (Builtin.append_ #[(27 : Nat), (27 : Nat)] (27 : Nat) #[Value.slice q20 n21 n22, Value.slice q26 n27 n28]) w25
                                     fun (v29 : Value) (w30 : World) =>
                                     ∃ (q31 : Option Addr),
                                      ∃ (n32 : Nat),
                                       ∃ (n33 : Nat),
                                        v29 = Value.slice q31 n32 n33 ∧
                                         Keeps w25 w30 [w.heap.size] ∧
                                          (Known w30
                                            [(w.heap.size,
                                              [((0 : Nat), Value.int IntKind.i64 m), ((1 : Nat), Value.string s), ((2 : Nat), Value.int IntKind.i64 z),
                                               ((3 : Nat), Value.int IntKind.i64 a), ((4 : Nat), Value.int IntKind.u32 u)])] →
                                           Rets Tryd.prog (120 : Nat) #[Value.int IntKind.u32 u, Value.int IntKind.i64 (4 : Int)] w30 fun (v34 : Value) (w35 : World) =>
                                            ∃ (q36 : Option Addr),
                                             ∃ (n37 : Nat),
                                              ∃ (n38 : Nat),
                                               v34 = Value.slice q36 n37 n38 ∧
                                                Keeps w30 w35 [w.heap.size] ∧
                                                 Runs Tryd.prog (Builtin.append_ #[(27 : Nat), (27 : Nat)] (27 : Nat) #[Value.slice q31 n32 n33, Value.slice q36 n37 n38])
                                                  w35 fun (v39 : Value) (w40 : World) =>
                                                  ∃ (q41 : Option Addr),
                                                   ∃ (n42 : Nat),
                                                    ∃ (n43 : Nat),
                                                     v39 = Value.slice q41 n42 n43 ∧
                                                      Keeps w35 w40 [w.heap.size] ∧
                                                       Runs Tryd.prog
                                                        (Builtin.append_ #[(27 : Nat), (9 : Nat)] (27 : Nat) #[Value.slice q41 n42 n43, Value.string s]) w40
                                                        fun (v44 : Value) (w45 : World) =>
                                                        ∃ (q46 : Option Addr),
                                                         ∃ (n47 : Nat),
                                                          ∃ (n48 : Nat),
                                                           v44 = Value.slice q46 n47 n48 ∧
                                                            Keeps w40 w45 [w.heap.size] ∧
                                                             (Known w45
                                                               [(w.heap.size,
                                                                 [((0 : Nat), Value.int IntKind.i64 m), ((1 : Nat), Value.string s),
                                                                  ((2 : Nat), Value.int IntKind.i64 z), ((3 : Nat), Value.int IntKind.i64 a),
                                                                  ((4 : Nat), Value.int IntKind.u32 u)])] →
                                                              Rets Tryd.prog (108 : Nat) #[Value.slice q46 n47 n48] w45 fun (v49 : Value) (w50 : World) =>
                                                               ∃ (q51 : Option Addr),
                                                                ∃ (n52 : Nat),
                                                                 ∃ (n53 : Nat),
                                                                  v49 = Value.slice q51 n52 n53 ∧
                                                                   Keeps w45 w50 [w.heap.size] ∧
                                                                    (Known w50
                                                                      [(w.heap.size,
                                                                       [((0 : Nat), Value.int IntKind.i64 m), ((1 : Nat), Value.string s),
                                                                        ((2 : Nat), Value.int IntKind.i64 z),
                                                                        ((3 : Nat), Value.int IntKind.i64 a),
                                                                        ((4 : Nat), Value.int IntKind.u32 u)])] →
                                                                     R (Ending.returned (Value.slice q51 n52 n53)) w50)))
theorem vcTryd53 (m : Int) (s : ByteArray) (z a u : Int) (w : World) (R : Ending → World → Prop) : SX.vcFn Tryd.prog [] Tryd.f53 [.v (.agg #[.int .i64 m, .string s, .int .i64 z, .int .i64 a, .int .u32 u])] [] w R = VCTryd53 m s z a u w R := by kernel_rfl
def VCTryd48 (w : World) (R : Ending → World → Prop) : Prop :=
Rets Tryd.prog (26 : Nat) #[] w fun (v0 : Value) (w1 : World) =>
 ∃ (x2 : Array Value),
  v0 = Value.agg x2 ∧
   Keeps w w1 [] ∧
    Runs Tryd.prog (Instr.storeAt (25 : Nat) (Value.pointer (some { block := w1.heap.size, off := (0 : Nat) })) (Value.agg x2)) (w1.alloc (Obj.cells (zeroA Tryd.prog (25 : Nat)) (25 : Nat)))
     fun (x3 : Unit) (w4 : World) =>
     Keeps (w1.alloc (Obj.cells (zeroA Tryd.prog (25 : Nat)) (25 : Nat))) w4 [] ∧
      Rets Tryd.prog (49 : Nat)
       #[Value.pointer (some { block := w1.heap.size, off := (0 : Nat) }),
        Value.agg #[Value.int IntKind.i64 (0 : Int), Value.string { data := #[(97 : UInt8), (98 : UInt8)] }, Value.int IntKind.i64 (0 : Int), Value.int IntKind.i64 (0 : Int), Value.int IntKind.u32 (0 : Int)]]
       w4 fun (v5 : Value) (w6 : World) =>
       ∃ (q7 : Option Addr),
        ∃ (n8 : Nat),
         ∃ (n9 : Nat),
          ∃ (i10 : Int),
           v5 = Value.tuple #[Value.slice q7 n8 n9, Value.int IntKind.i64 i10] ∧
            Keeps w4 w6 [] ∧
             Rets Tryd.prog (54 : Nat) #[Value.pointer (some { block := w1.heap.size, off := (0 : Nat) }), Value.slice q7 n8 n9, Value.int IntKind.i64 (0 : Int)] w6 fun (v11 : Value) (w12 : World) =>
              ∃ (i13 : Int),
               ∃ (s14 : ByteArray),
                ∃ (i15 : Int),
                 ∃ (i16 : Int),
                  ∃ (i17 : Int),
                   ∃ (i18 : Int),
                    ∃ (i19 : Int),
                     v11 =
                       Value.tuple
                        #[Value.agg #[Value.int IntKind.i64 i13, Value.string s14, Value.int IntKind.i64 i15, Value.int IntKind.i64 i16, Value.int IntKind.u32 i17], Value.int IntKind.i64 i18,
                         Value.int IntKind.i64 i19] ∧
                      Keeps w6 w12 [] ∧
                       bif i10 == (0 : Int) then
                        bif i19 == (0 : Int) then
                         bif (↑n8 : Int) == (24 : Int) then
                          bif i18 == (24 : Int) then
                           bif s14.toList == ({ data := #[(97 : UInt8), (98 : UInt8)] } : ByteArray).toList then
                            Known
                              ((((((w12.alloc
                                         (Obj.cells
                                          #[Value.int IntKind.i64 (0 : Int), Value.string { data := #[] }, Value.int IntKind.i64 (0 : Int), Value.int IntKind.i64 (0 : Int),
                                           Value.int IntKind.u32 (0 : Int)]
                                          (54 : Nat))).setCell
                                       {block := w12.heap.size, off := (0 : Nat) } (Value.int IntKind.i64 i13)).setCell
                                     {block := w12.heap.size, off := (1 : Nat) } (Value.string s14)).setCell
                                   {block := w12.heap.size, off := (2 : Nat) } (Value.int IntKind.i64 i15)).setCell
                                 {block := w12.heap.size, off := (3 : Nat) } (Value.int IntKind.i64 i16)).setCell
                               {block := w12.heap.size, off := (4 : Nat) } (Value.int IntKind.u32 i17))
                              [(w12.heap.size,
                                [((0 : Nat), Value.int IntKind.i64 i13), ((1 : Nat), Value.string s14), ((2 : Nat), Value.int IntKind.i64 i15), ((3 : Nat), Value.int IntKind.i64 i16),
                                 ((4 : Nat), Value.int IntKind.u32 i17)])] →
                             Rets Tryd.prog (52 : Nat) #[Value.string { data := #[(97 : UInt8), (98 : UInt8)] }]
                              ((((((w12.alloc
                                         (Obj.cells
                                          #[Value.int IntKind.i64 (0 : Int), Value.string { data := #[] }, Value.int IntKind.i64 (0 : Int), Value.int IntKind.i64 (0 : Int),
                                           Value.int IntKind.u32 (0 : Int)]
                                          (54 : Nat))).setCell
                                       {block := w12.heap.size, off := (0 : Nat) } (Value.int IntKind.i64 i13)).setCell
                                     {block := w12.heap.size, off := (1 : Nat) } (Value.string s14)).setCell
                                   {block := w12.heap.size, off := (2 : Nat) } (Value.int IntKind.i64 i15)).setCell
                                 {block := w12.heap.size, off := (3 : Nat) } (Value.int IntKind.i64 i16)).setCell
                               {block := w12.heap.size, off := (4 : Nat) } (Value.int IntKind.u32 i17))
                              fun (v20 : Value) (w21 : World) =>
                              ∃ (i22 : Int),
                               v20 = Value.int IntKind.i64 i22 ∧
                                Keeps
                                  ((((((w12.alloc
                                            (Obj.cells
                                             #[Value.int IntKind.i64 (0 : Int), Value.string { data := #[] }, Value.int IntKind.i64 (0 : Int),
                                              Value.int IntKind.i64 (0 : Int), Value.int IntKind.u32 (0 : Int)]
                                             (54 : Nat))).setCell
                                           {block := w12.heap.size, off := (0 : Nat) } (Value.int IntKind.i64 i13)).setCell
                                         {block := w12.heap.size, off := (1 : Nat) } (Value.string s14)).setCell
                                       {block := w12.heap.size, off := (2 : Nat) } (Value.int IntKind.i64 i15)).setCell
                                     {block := w12.heap.size, off := (3 : Nat) } (Value.int IntKind.i64 i16)).setCell
                                   {block := w12.heap.size, off := (4 : Nat) } (Value.int IntKind.u32 i17))
                                  w21 [w12.heap.size] ∧
                                 (Known w21
                                   [(w12.heap.size,
                                     [((0 : Nat), Value.int IntKind.i64 i13), ((1 : Nat), Value.string s14), ((2 : Nat), Value.int IntKind.i64 i15),
                                      ((3 : Nat), Value.int IntKind.i64 i16), ((4 : Nat), Value.int IntKind.u32 i17)])] →
                                  R (Ending.returned (Value.bool (i22 == (24 : Int)))) w21)
                           else
                            Known
                              ((((((w12.alloc
                                         (Obj.cells
                                          #[Value.int IntKind.i64 (0 : Int), Value.string { data := #[] }, Value.int IntKind.i64 (0 : Int), Value.int IntKind.i64 (0 : Int),
                                           Value.int IntKind.u32 (0 : Int)]
                                          (54 : Nat))).setCell
                                       {block := w12.heap.size, off := (0 : Nat) } (Value.int IntKind.i64 i13)).setCell
                                     {block := w12.heap.size, off := (1 : Nat) } (Value.string s14)).setCell
                                   {block := w12.heap.size, off := (2 : Nat) } (Value.int IntKind.i64 i15)).setCell
                                 {block := w12.heap.size, off := (3 : Nat) } (Value.int IntKind.i64 i16)).setCell
                               {block := w12.heap.size, off := (4 : Nat) } (Value.int IntKind.u32 i17))
                              [(w12.heap.size,
                                [((0 : Nat), Value.int IntKind.i64 i13), ((1 : Nat), Value.string s14), ((2 : Nat), Value.int IntKind.i64 i15), ((3 : Nat), Value.int IntKind.i64 i16),
                                 ((4 : Nat), Value.int IntKind.u32 i17)])] →
                             R (Ending.returned (Value.bool false))
                              ((((((w12.alloc
                                         (Obj.cells
                                          #[Value.int IntKind.i64 (0 : Int), Value.string { data := #[] }, Value.int IntKind.i64 (0 : Int), Value.int IntKind.i64 (0 : Int),
                                           Value.int IntKind.u32 (0 : Int)]
                                          (54 : Nat))).setCell
                                       {block := w12.heap.size, off := (0 : Nat) } (Value.int IntKind.i64 i13)).setCell
                                     {block := w12.heap.size, off := (1 : Nat) } (Value.string s14)).setCell
                                   {block := w12.heap.size, off := (2 : Nat) } (Value.int IntKind.i64 i15)).setCell
                                 {block := w12.heap.size, off := (3 : Nat) } (Value.int IntKind.i64 i16)).setCell
                               {block := w12.heap.size, off := (4 : Nat) } (Value.int IntKind.u32 i17))
                          else
                           Known
                             ((((((w12.alloc
                                        (Obj.cells
                                         #[Value.int IntKind.i64 (0 : Int), Value.string { data := #[] }, Value.int IntKind.i64 (0 : Int), Value.int IntKind.i64 (0 : Int),
                                          Value.int IntKind.u32 (0 : Int)]
                                         (54 : Nat))).setCell
                                      {block := w12.heap.size, off := (0 : Nat) } (Value.int IntKind.i64 i13)).setCell
                                    {block := w12.heap.size, off := (1 : Nat) } (Value.string s14)).setCell
                                  {block := w12.heap.size, off := (2 : Nat) } (Value.int IntKind.i64 i15)).setCell
                                {block := w12.heap.size, off := (3 : Nat) } (Value.int IntKind.i64 i16)).setCell
                              {block := w12.heap.size, off := (4 : Nat) } (Value.int IntKind.u32 i17))
                             [(w12.heap.size,
                               [((0 : Nat), Value.int IntKind.i64 i13), ((1 : Nat), Value.string s14), ((2 : Nat), Value.int IntKind.i64 i15), ((3 : Nat), Value.int IntKind.i64 i16),
                                ((4 : Nat), Value.int IntKind.u32 i17)])] →
                            R (Ending.returned (Value.bool false))
                             ((((((w12.alloc
                                        (Obj.cells
                                         #[Value.int IntKind.i64 (0 : Int), Value.string { data := #[] }, Value.int IntKind.i64 (0 : Int), Value.int IntKind.i64 (0 : Int),
                                          Value.int IntKind.u32 (0 : Int)]
                                         (54 : Nat))).setCell
                                      {block := w12.heap.size, off := (0 : Nat) } (Value.int IntKind.i64 i13)).setCell
                                    {block := w12.heap.size, off := (1 : Nat) } (Value.string s14)).setCell
                                  {block := w12.heap.size, off := (2 : Nat) } (Value.int IntKind.i64 i15)).setCell
                                {block := w12.heap.size, off := (3 : Nat) } (Value.int IntKind.i64 i16)).setCell
                              {block := w12.heap.size, off := (4 : Nat) } (Value.int IntKind.u32 i17))
                         else
                          Known
                            ((((((w12.alloc
                                       (Obj.cells
                                        #[Value.int IntKind.i64 (0 : Int), Value.string { data := #[] }, Value.int IntKind.i64 (0 : Int), Value.int IntKind.i64 (0 : Int),
                                         Value.int IntKind.u32 (0 : Int)]
                                        (54 : Nat))).setCell
                                     {block := w12.heap.size, off := (0 : Nat) } (Value.int IntKind.i64 i13)).setCell
                                   {block := w12.heap.size, off := (1 : Nat) } (Value.string s14)).setCell
                                 {block := w12.heap.size, off := (2 : Nat) } (Value.int IntKind.i64 i15)).setCell
                               {block := w12.heap.size, off := (3 : Nat) } (Value.int IntKind.i64 i16)).setCell
                             {block := w12.heap.size, off := (4 : Nat) } (Value.int IntKind.u32 i17))
                            [(w12.heap.size,
                              [((0 : Nat), Value.int IntKind.i64 i13), ((1 : Nat), Value.string s14), ((2 : Nat), Value.int IntKind.i64 i15), ((3 : Nat), Value.int IntKind.i64 i16),
                               ((4 : Nat), Value.int IntKind.u32 i17)])] →
                           R (Ending.returned (Value.bool false))
                            ((((((w12.alloc
                                       (Obj.cells
                                        #[Value.int IntKind.i64 (0 : Int), Value.string { data := #[] }, Value.int IntKind.i64 (0 : Int), Value.int IntKind.i64 (0 : Int),
                                         Value.int IntKind.u32 (0 : Int)]
                                        (54 : Nat))).setCell
                                     {block := w12.heap.size, off := (0 : Nat) } (Value.int IntKind.i64 i13)).setCell
                                   {block := w12.heap.size, off := (1 : Nat) } (Value.string s14)).setCell
                                 {block := w12.heap.size, off := (2 : Nat) } (Value.int IntKind.i64 i15)).setCell
                               {block := w12.heap.size, off := (3 : Nat) } (Value.int IntKind.i64 i16)).setCell
                             {block := w12.heap.size, off := (4 : Nat) } (Value.int IntKind.u32 i17))
                        else
                         Known
                           ((((((w12.alloc
                                      (Obj.cells
                                       #[Value.int IntKind.i64 (0 : Int), Value.string { data := #[] }, Value.int IntKind.i64 (0 : Int), Value.int IntKind.i64 (0 : Int),
                                        Value.int IntKind.u32 (0 : Int)]
                                       (54 : Nat))).setCell
                                    {block := w12.heap.size, off := (0 : Nat) } (Value.int IntKind.i64 i13)).setCell
                                  {block := w12.heap.size, off := (1 : Nat) } (Value.string s14)).setCell
                                {block := w12.heap.size, off := (2 : Nat) } (Value.int IntKind.i64 i15)).setCell
                              {block := w12.heap.size, off := (3 : Nat) } (Value.int IntKind.i64 i16)).setCell
                            {block := w12.heap.size, off := (4 : Nat) } (Value.int IntKind.u32 i17))
                           [(w12.heap.size,
                             [((0 : Nat), Value.int IntKind.i64 i13), ((1 : Nat), Value.string s14), ((2 : Nat), Value.int IntKind.i64 i15), ((3 : Nat), Value.int IntKind.i64 i16),
                              ((4 : Nat), Value.int IntKind.u32 i17)])] →
                          R (Ending.returned (Value.bool false))
                           ((((((w12.alloc
                                      (Obj.cells
                                       #[Value.int IntKind.i64 (0 : Int), Value.string { data := #[] }, Value.int IntKind.i64 (0 : Int), Value.int IntKind.i64 (0 : Int),
                                        Value.int IntKind.u32 (0 : Int)]
                                       (54 : Nat))).setCell
                                    {block := w12.heap.size, off := (0 : Nat) } (Value.int IntKind.i64 i13)).setCell
                                  {block := w12.heap.size, off := (1 : Nat) } (Value.string s14)).setCell
                                {block := w12.heap.size, off := (2 : Nat) } (Value.int IntKind.i64 i15)).setCell
                              {block := w12.heap.size, off := (3 : Nat) } (Value.int IntKind.i64 i16)).setCell
                            {block := w12.heap.size, off := (4 : Nat) } (Value.int IntKind.u32 i17))
                       else
                        Known
                          ((((((w12.alloc
                                     (Obj.cells
                                      #[Value.int IntKind.i64 (0 : Int), Value.string { data := #[] }, Value.int IntKind.i64 (0 : Int), Value.int IntKind.i64 (0 : Int),
                                       Value.int IntKind.u32 (0 : Int)]
                                      (54 : Nat))).setCell
                                   {block := w12.heap.size, off := (0 : Nat) } (Value.int IntKind.i64 i13)).setCell
                                 {block := w12.heap.size, off := (1 : Nat) } (Value.string s14)).setCell
                               {block := w12.heap.size, off := (2 : Nat) } (Value.int IntKind.i64 i15)).setCell
                             {block := w12.heap.size, off := (3 : Nat) } (Value.int IntKind.i64 i16)).setCell
                           {block := w12.heap.size, off := (4 : Nat) } (Value.int IntKind.u32 i17))
                          [(w12.heap.size,
                            [((0 : Nat), Value.int IntKind.i64 i13), ((1 : Nat), Value.string s14), ((2 : Nat), Value.int IntKind.i64 i15), ((3 : Nat), Value.int IntKind.i64 i16),
                             ((4 : Nat), Value.int IntKind.u32 i17)])] →
                         R (Ending.returned (Value.bool false))
                          ((((((w12.alloc
                                     (Obj.cells
                                      #[Value.int IntKind.i64 (0 : Int), Value.string { data := #[] }, Value.int IntKind.i64 (0 : Int), Value.int IntKind.i64 (0 : Int),
                                       Value.int IntKind.u32 (0 : Int)]
                                      (54 : Nat))).setCell
                                   {block := w12.heap.size, off := (0 : Nat) } (Value.int IntKind.i64 i13)).setCell
                                 {block := w12.heap.size, off := (1 : Nat) } (Value.string s14)).setCell
                               {block := w12.heap.size, off := (2 : Nat) } (Value.int IntKind.i64 i15)).setCell
                             {block := w12.heap.size, off := (3 : Nat) } (Value.int IntKind.i64 i16)).setCell
                           {block := w12.heap.size, off := (4 : Nat) } (Value.int IntKind.u32 i17))
theorem vcTryd48 (w : World) (R : Ending → World → Prop) : SX.vcFn Tryd.prog [] Tryd.f48 [] [] w R = VCTryd48  w R := by kernel_rfl
def VCTryd54 (p0 : Option Addr) (p1 : Option Addr) (n1 c1 : Nat) (p2 : Int) (w : World) (R : Ending → World → Prop) : Prop :=
bif decide (p2 < (0 : Int)) then
 Known
   ((((((w.alloc (Obj.cells #[Value.int IntKind.i64 (0 : Int), Value.string { data := #[] }, Value.int IntKind.i64 (0 : Int), Value.int IntKind.i64 (0 : Int), Value.int IntKind.u32 (0 : Int)] (54 : Nat))).setCell
            {block := w.heap.size, off := (0 : Nat) } (Value.int IntKind.i64 (0 : Int))).setCell
          {block := w.heap.size, off := (1 : Nat) } (Value.string { data := #[] })).setCell
        {block := w.heap.size, off := (2 : Nat) } (Value.int IntKind.i64 (0 : Int))).setCell
      {block := w.heap.size, off := (3 : Nat) } (Value.int IntKind.i64 (0 : Int))).setCell
    {block := w.heap.size, off := (4 : Nat) } (Value.int IntKind.u32 (0 : Int)))
   [(w.heap.size,
     [((0 : Nat), Value.int IntKind.i64 (0 : Int)), ((1 : Nat), Value.string { data := #[] }), ((2 : Nat), Value.int IntKind.i64 (0 : Int)), ((3 : Nat), Value.int IntKind.i64 (0 : Int)),
      ((4 : Nat), Value.int IntKind.u32 (0 : Int))])] →
  R
   (Ending.returned
    (Value.tuple
     #[Value.agg #[Value.int IntKind.i64 (0 : Int), Value.string { data := #[] }, Value.int IntKind.i64 (0 : Int), Value.int IntKind.i64 (0 : Int), Value.int IntKind.u32 (0 : Int)], Value.int IntKind.i64 (0 : Int),
      Value.int IntKind.i64 (1 : Int)]))
   ((((((w.alloc (Obj.cells #[Value.int IntKind.i64 (0 : Int), Value.string { data := #[] }, Value.int IntKind.i64 (0 : Int), Value.int IntKind.i64 (0 : Int), Value.int IntKind.u32 (0 : Int)] (54 : Nat))).setCell
            {block := w.heap.size, off := (0 : Nat) } (Value.int IntKind.i64 (0 : Int))).setCell
          {block := w.heap.size, off := (1 : Nat) } (Value.string { data := #[] })).setCell
        {block := w.heap.size, off := (2 : Nat) } (Value.int IntKind.i64 (0 : Int))).setCell
      {block := w.heap.size, off := (3 : Nat) } (Value.int IntKind.i64 (0 : Int))).setCell
    {block := w.heap.size, off := (4 : Nat) } (Value.int IntKind.u32 (0 : Int)))
else
 bif decide (p2 > (↑n1 : Int)) then
  Known
    ((((((w.alloc (Obj.cells #[Value.int IntKind.i64 (0 : Int), Value.string { data := #[] }, Value.int IntKind.i64 (0 : Int), Value.int IntKind.i64 (0 : Int), Value.int IntKind.u32 (0 : Int)] (54 : Nat))).setCell
             {block := w.heap.size, off := (0 : Nat) } (Value.int IntKind.i64 (0 : Int))).setCell
           {block := w.heap.size, off := (1 : Nat) } (Value.string { data := #[] })).setCell
         {block := w.heap.size, off := (2 : Nat) } (Value.int IntKind.i64 (0 : Int))).setCell
       {block := w.heap.size, off := (3 : Nat) } (Value.int IntKind.i64 (0 : Int))).setCell
     {block := w.heap.size, off := (4 : Nat) } (Value.int IntKind.u32 (0 : Int)))
    [(w.heap.size,
      [((0 : Nat), Value.int IntKind.i64 (0 : Int)), ((1 : Nat), Value.string { data := #[] }), ((2 : Nat), Value.int IntKind.i64 (0 : Int)), ((3 : Nat), Value.int IntKind.i64 (0 : Int)),
       ((4 : Nat), Value.int IntKind.u32 (0 : Int))])] →
   R
    (Ending.returned
     (Value.tuple
      #[Value.agg #[Value.int IntKind.i64 (0 : Int), Value.string { data := #[] }, Value.int IntKind.i64 (0 : Int), Value.int IntKind.i64 (0 : Int), Value.int IntKind.u32 (0 : Int)],
       Value.int IntKind.i64 (0 : Int), Value.int IntKind.i64 (1 : Int)]))
    ((((((w.alloc (Obj.cells #[Value.int IntKind.i64 (0 : Int), Value.string { data := #[] }, Value.int IntKind.i64 (0 : Int), Value.int IntKind.i64 (0 : Int), Value.int IntKind.u32 (0 : Int)] (54 : Nat))).setCell
             {block := w.heap.size, off := (0 : Nat) } (Value.int IntKind.i64 (0 : Int))).setCell
           {block := w.heap.size, off := (1 : Nat) } (Value.string { data := #[] })).setCell
         {block := w.heap.size, off := (2 : Nat) } (Value.int IntKind.i64 (0 : Int))).setCell
       {block := w.heap.size, off := (3 : Nat) } (Value.int IntKind.i64 (0 : Int))).setCell
     {block := w.heap.size, off := (4 : Nat) } (Value.int IntKind.u32 (0 : Int)))
 else
  Wr IntKind.i64 ((↑n1 : Int) - p2) fun (i0 : Int) =>
   bif decide (i0 ≥ (4 : Int)) then
    Known (w.alloc (Obj.cells #[Value.int IntKind.i64 (0 : Int), Value.string { data := #[] }, Value.int IntKind.i64 (0 : Int), Value.int IntKind.i64 (0 : Int), Value.int IntKind.u32 (0 : Int)] (54 : Nat)))
      [(w.heap.size,
        [((0 : Nat), Value.int IntKind.i64 (0 : Int)), ((1 : Nat), Value.string { data := #[] }), ((2 : Nat), Value.int IntKind.i64 (0 : Int)), ((3 : Nat), Value.int IntKind.i64 (0 : Int)),
         ((4 : Nat), Value.int IntKind.u32 (0 : Int))])] →
     Rets Tryd.prog (56 : Nat) #[Value.slice p1 n1 c1, Value.int IntKind.i64 p2]
      (w.alloc (Obj.cells #[Value.int IntKind.i64 (0 : Int), Value.string { data := #[] }, Value.int IntKind.i64 (0 : Int), Value.int IntKind.i64 (0 : Int), Value.int IntKind.u32 (0 : Int)] (54 : Nat)))
      fun (v1 : Value) (w2 : World) =>
      ∃ (t3 : Bool),
       v1 = Value.bool t3 ∧
        Keeps (w.alloc (Obj.cells #[Value.int IntKind.i64 (0 : Int), Value.string { data := #[] }, Value.int IntKind.i64 (0 : Int), Value.int IntKind.i64 (0 : Int), Value.int IntKind.u32 (0 : Int)] (54 : Nat)))
          w2 [w.heap.size] ∧
         bif !t3 then
          Known
            (((((w2.setCell { block := w.heap.size, off := (0 : Nat) } (Value.int IntKind.i64 (0 : Int))).setCell { block := w.heap.size, off := (1 : Nat) } (Value.string { data := #[] })).setCell
                 {block := w.heap.size, off := (2 : Nat) } (Value.int IntKind.i64 (0 : Int))).setCell
               {block := w.heap.size, off := (3 : Nat) } (Value.int IntKind.i64 (0 : Int))).setCell
             {block := w.heap.size, off := (4 : Nat) } (Value.int IntKind.u32 (0 : Int)))
            [(w.heap.size,
              [((0 : Nat), Value.int IntKind.i64 (0 : Int)), ((1 : Nat), Value.string { data := #[] }), ((2 : Nat), Value.int IntKind.i64 (0 : Int)), ((3 : Nat), Value.int IntKind.i64 (0 : Int)),
               ((4 : Nat), Value.int IntKind.u32 (0 : Int))])] →
           R
            (Ending.returned
             (Value.tuple
              #[Value.agg #[Value.int IntKind.i64 (0 : Int), Value.string { data := #[] }, Value.int IntKind.i64 (0 : Int), Value.int IntKind.i64 (0 : Int), Value.int IntKind.u32 (0 : Int)],
               Value.int IntKind.i64 (0 : Int), Value.int IntKind.i64 (3 : Int)]))
            (((((w2.setCell { block := w.heap.size, off := (0 : Nat) } (Value.int IntKind.i64 (0 : Int))).setCell { block := w.heap.size, off := (1 : Nat) } (Value.string { data := #[] })).setCell
                 {block := w.heap.size, off := (2 : Nat) } (Value.int IntKind.i64 (0 : Int))).setCell
               {block := w.heap.size, off := (3 : Nat) } (Value.int IntKind.i64 (0 : Int))).setCell
             {block := w.heap.size, off := (4 : Nat) } (Value.int IntKind.u32 (0 : Int)))
         else
          ((0 : Int) ≤ p2 ∧ p2 ≤ (↑n1 : Int)) ∧
           (Known w2
             [(w.heap.size,
               [((0 : Nat), Value.int IntKind.i64 (0 : Int)), ((1 : Nat), Value.string { data := #[] }), ((2 : Nat), Value.int IntKind.i64 (0 : Int)), ((3 : Nat), Value.int IntKind.i64 (0 : Int)),
                ((4 : Nat), Value.int IntKind.u32 (0 : Int))])] →
            Rets Tryd.prog (109 : Nat) #[Value.slice (cutA p1 c1 p2.toNat (1 : Nat)) (n1 - p2.toNat) (c1 - p2.toNat)] w2 fun (v4 : Value) (w5 : World) =>
             ∃ (q6 : Option Addr),
              v4 = Value.pointer q6 ∧
               Keeps w2 w5 [w.heap.size] ∧
                (Known w5
                  [(w.heap.size,
                    [((0 : Nat), Value.int IntKind.i64 (0 : Int)), ((1 : Nat), Value.string { data := #[] }), ((2 : Nat), Value.int IntKind.i64 (0 : Int)),
                     ((3 : Nat), Value.int IntKind.i64 (0 : Int)), ((4 : Nat), Value.int IntKind.u32 (0 : Int))])] →
                 Rets Tryd.prog (121 : Nat) #[Value.pointer q6] w5 fun (v7 : Value) (w8 : World) =>
                  ∃ (i9 : Int),
                   ∃ (s10 : ByteArray),
                    ∃ (i11 : Int),
                     ∃ (i12 : Int),
                      ∃ (i13 : Int),
                       v7 = Value.agg #[Value.int IntKind.i64 i9, Value.string s10, Value.int IntKind.i64 i11, Value.int IntKind.i64 i12, Value.int IntKind.u32 i13] ∧
                        Keeps w5 w8 [w.heap.size] ∧
                         (Known
                           (((((w8.setCell { block := w.heap.size, off := (0 : Nat) } (Value.int IntKind.i64 i9)).setCell { block := w.heap.size, off := (1 : Nat) } (Value.string s10)).setCell
                                {block := w.heap.size, off := (2 : Nat) } (Value.int IntKind.i64 i11)).setCell
                              {block := w.heap.size, off := (3 : Nat) } (Value.int IntKind.i64 i12)).setCell
                            {block := w.heap.size, off := (4 : Nat) } (Value.int IntKind.u32 i13))
                           [(w.heap.size,
                             [((0 : Nat), Value.int IntKind.i64 i9), ((1 : Nat), Value.string s10), ((2 : Nat), Value.int IntKind.i64 i11), ((3 : Nat), Value.int IntKind.i64 i12),
                              ((4 : Nat), Value.int IntKind.u32 i13)])] →
                          Rets Tryd.prog (112 : Nat) #[Value.pointer q6]
                           (((((w8.setCell { block := w.heap.size, off := (0 : Nat) } (Value.int IntKind.i64 i9)).setCell { block := w.heap.size, off := (1 : Nat) } (Value.string s10)).setCell
                                {block := w.heap.size, off := (2 : Nat) } (Value.int IntKind.i64 i11)).setCell
                              {block := w.heap.size, off := (3 : Nat) } (Value.int IntKind.i64 i12)).setCell
                            {block := w.heap.size, off := (4 : Nat) } (Value.int IntKind.u32 i13))
                           fun (v14 : Value) (w15 : World) =>
                           ∃ (i16 : Int),
                            v14 = Value.int IntKind.i64 i16 ∧
                             Keeps
                               (((((w8.setCell { block := w.heap.size, off := (0 : Nat) } (Value.int IntKind.i64 i9)).setCell { block := w.heap.size, off := (1 : Nat) }
                                      (Value.string s10)).setCell
                                    {block := w.heap.size, off := (2 : Nat) } (Value.int IntKind.i64 i11)).setCell
                                  {block := w.heap.size, off := (3 : Nat) } (Value.int IntKind.i64 i12)).setCell
                                {block := w.heap.size, off := (4 : Nat) } (Value.int IntKind.u32 i13))
                               w15 [w.heap.size] ∧
                              Wr IntKind.i64 (p2 + i16) fun (i17 : Int) =>
                               ((0 : Int) ≤ i17 ∧ i17 ≤ (↑c1 : Int)) ∧
                                ((0 : Int) ≤ p2 ∧ p2 ≤ (↑i17.toNat : Int)) ∧
                                 (Known w15
                                   [(w.heap.size,
                                     [((0 : Nat), Value.int IntKind.i64 i9), ((1 : Nat), Value.string s10), ((2 : Nat), Value.int IntKind.i64 i11),
                                      ((3 : Nat), Value.int IntKind.i64 i12), ((4 : Nat), Value.int IntKind.u32 i13)])] →
                                  Rets Tryd.prog (106 : Nat) #[Value.pointer p0, Value.slice (cutA p1 c1 p2.toNat (1 : Nat)) (i17.toNat - p2.toNat) (c1 - p2.toNat)] w15
                                   fun (v18 : Value) (w19 : World) =>
                                   ∃ (i20 : Int),
                                    v18 = Value.int IntKind.u32 i20 ∧
                                     Keeps w15 w19 [w.heap.size] ∧
                                      (Known w19
                                        [(w.heap.size,
                                          [((0 : Nat), Value.int IntKind.i64 i9), ((1 : Nat), Value.string s10), ((2 : Nat), Value.int IntKind.i64 i11),
                                           ((3 : Nat), Value.int IntKind.i64 i12), ((4 : Nat), Value.int IntKind.u32 i13)])] →
                                       Rets Tryd.prog (111 : Nat) #[Value.pointer q6, Value.int IntKind.i64 (4 : Int)] w19 fun (v21 : Value) (w22 : World) =>
                                        ∃ (i23 : Int),
                                         v21 = Value.int IntKind.u32 i23 ∧
                                          Keeps w19 w22 [w.heap.size] ∧
                                           (Known w22
                                             [(w.heap.size,
                                               [((0 : Nat), Value.int IntKind.i64 i9), ((1 : Nat), Value.string s10), ((2 : Nat), Value.int IntKind.i64 i11),
                                                ((3 : Nat), Value.int IntKind.i64 i12), ((4 : Nat), Value.int IntKind.u32 i13)])] →
                                            Rets Tryd.prog (113 : Nat) #[Value.pointer q6] w22 fun (v24 : Value) (w25 : World) =>
                                             ∃ (t26 : Bool),
                                              v24 = Value.bool t26 ∧
                                               Keeps w22 w25 [w.heap.size] ∧
                                                bif !t26 then
                                                 Known
                                                   (((((w25.setCell { block := w.heap.size, off := (0 : Nat) } (Value.int IntKind.i64 (0 : Int))).setCell
                                                          {block := w.heap.size, off := (1 : Nat) } (Value.string { data := #[] })).setCell
                                                        {block := w.heap.size, off := (2 : Nat) } (Value.int IntKind.i64 (0 : Int))).setCell
                                                      {block := w.heap.size, off := (3 : Nat) } (Value.int IntKind.i64 (0 : Int))).setCell
                                                    {block := w.heap.size, off := (4 : Nat) } (Value.int IntKind.u32 (0 : Int)))
                                                   [(w.heap.size,
                                                     [((0 : Nat), Value.int IntKind.i64 (0 : Int)), ((1 : Nat), Value.string { data := #[] }),
                                                      ((2 : Nat), Value.int IntKind.i64 (0 : Int)), ((3 : Nat), Value.int IntKind.i64 (0 : Int)),
                                                      ((4 : Nat), Value.int IntKind.u32 (0 : Int))])] →
                                                  R
                                                   (Ending.returned
                                                    (Value.tuple
                                                     #[Value.agg
                                                       #[Value.int IntKind.i64 (0 : Int), Value.string { data := #[] }, Value.int IntKind.i64 (0 : Int),
                                                        Value.int IntKind.i64 (0 : Int), Value.int IntKind.u32 (0 : Int)],
                                                      Value.int IntKind.i64 (0 : Int), Value.int IntKind.i64 (2 : Int)]))
                                                   (((((w25.setCell { block := w.heap.size, off := (0 : Nat) } (Value.int IntKind.i64 (0 : Int))).setCell
                                                          {block := w.heap.size, off := (1 : Nat) } (Value.string { data := #[] })).setCell
                                                        {block := w.heap.size, off := (2 : Nat) } (Value.int IntKind.i64 (0 : Int))).setCell
                                                      {block := w.heap.size, off := (3 : Nat) } (Value.int IntKind.i64 (0 : Int))).setCell
                                                    {block := w.heap.size, off := (4 : Nat) } (Value.int IntKind.u32 (0 : Int)))
                                                else
                                                 bif i23 != i20 then
                                                  Known
                                                    (((((w25.setCell { block := w.heap.size, off := (0 : Nat) } (Value.int IntKind.i64 (0 : Int))).setCell
                                                           {block := w.heap.size, off := (1 : Nat) } (Value.string { data := #[] })).setCell
                                                         {block := w.heap.size, off := (2 : Nat) } (Value.int IntKind.i64 (0 : Int))).setCell
                                                       {block := w.heap.size, off := (3 : Nat) } (Value.int IntKind.i64 (0 : Int))).setCell
                                                     {block := w.heap.size, off := (4 : Nat) } (Value.int IntKind.u32 (0 : Int)))
                                                    [(w.heap.size,
                                                      [((0 : Nat), Value.int IntKind.i64 (0 : Int)), ((1 : Nat), Value.string { data := #[] }),
                                                       ((2 : Nat), Value.int IntKind.i64 (0 : Int)), ((3 : Nat), Value.int IntKind.i64 (0 : Int)),
                                                       ((4 : Nat), Value.int IntKind.u32 (0 : Int))])] →
                                                   R
                                                    (Ending.returned
                                                     (Value.tuple
                                                      #[Value.agg
                                                        #[Value.int IntKind.i64 (0 : Int), Value.string { data := #[] }, Value.int IntKind.i64 (0 : Int),
                                                         Value.int IntKind.i64 (0 : Int), Value.int IntKind.u32 (0 : Int)],
                                                       Value.int IntKind.i64 (0 : Int), Value.int IntKind.i64 (4 : Int)]))
                                                    (((((w25.setCell { block := w.heap.size, off := (0 : Nat) } (Value.int IntKind.i64 (0 : Int))).setCell
                                                           {block := w.heap.size, off := (1 : Nat) } (Value.string { data := #[] })).setCell
                                                         {block := w.heap.size, off := (2 : Nat) } (Value.int IntKind.i64 (0 : Int))).setCell
                                                       {block := w.heap.size, off := (3 : Nat) } (Value.int IntKind.i64 (0 : Int))).setCell
                                                     {block := w.heap.size, off := (4 : Nat) } (Value.int IntKind.u32 (0 : Int)))
                                                 else
                                                  Known w25
                                                    [(w.heap.size,
                                                      [((0 : Nat), Value.int IntKind.i64 i9), ((1 : Nat), Value.string s10), ((2 : Nat), Value.int IntKind.i64 i11),
                                                       ((3 : Nat), Value.int IntKind.i64 i12), ((4 : Nat), Value.int IntKind.u32 i13)])] →
                                                   Rets Tryd.prog (51 : Nat)
                                                    #[Value.agg
                                                      #[Value.int IntKind.i64 i9, Value.string s10, Value.int IntKind.i64 i11, Value.int IntKind.i64 i12,
                                                       Value.int IntKind.u32 i13]]
                                                    w25 fun (v27 : Value) (w28 : World) =>
                                                    ∃ (t29 : Bool),
                                                     v27 = Value.bool t29 ∧
                                                      Keeps w25 w28 [w.heap.size] ∧
                                                       bif !t29 then
                                                        Known
                                                          (((((w28.setCell { block := w.heap.size, off := (0 : Nat) } (Value.int IntKind.i64 (0 : Int))).setCell
                                                                 {block := w.heap.size, off := (1 : Nat) } (Value.string { data := #[] })).setCell
                                                               {block := w.heap.size, off := (2 : Nat) } (Value.int IntKind.i64 (0 : Int))).setCell
                                                             {block := w.heap.size, off := (3 : Nat) } (Value.int IntKind.i64 (0 : Int))).setCell
                                                           {block := w.heap.size, off := (4 : Nat) } (Value.int IntKind.u32 (0 : Int)))
                                                          [(w.heap.size,
                                                            [((0 : Nat), Value.int IntKind.i64 (0 : Int)), ((1 : Nat), Value.string { data := #[] }),
                                                             ((2 : Nat), Value.int IntKind.i64 (0 : Int)), ((3 : Nat), Value.int IntKind.i64 (0 : Int)),
                                                             ((4 : Nat), Value.int IntKind.u32 (0 : Int))])] →
                                                         R
                                                          (Ending.returned
                                                           (Value.tuple
                                                            #[Value.agg
                                                              #[Value.int IntKind.i64 (0 : Int), Value.string { data := #[] },
                                                               Value.int IntKind.i64 (0 : Int), Value.int IntKind.i64 (0 : Int),
                                                               Value.int IntKind.u32 (0 : Int)],
                                                             Value.int IntKind.i64 (0 : Int), Value.int IntKind.i64 (3 : Int)]))
                                                          (((((w28.setCell { block := w.heap.size, off := (0 : Nat) } (Value.int IntKind.i64 (0 : Int))).setCell
                                                                 {block := w.heap.size, off := (1 : Nat) } (Value.string { data := #[] })).setCell
                                                               {block := w.heap.size, off := (2 : Nat) } (Value.int IntKind.i64 (0 : Int))).setCell
                                                             {block := w.heap.size, off := (3 : Nat) } (Value.int IntKind.i64 (0 : Int))).setCell
                                                           {block := w.heap.size, off := (4 : Nat) } (Value.int IntKind.u32 (0 : Int)))
                                                       else
                                                        Known w28.drew
                                                          [(w.heap.size,
                                                            [((0 : Nat), Value.int IntKind.i64 i9), ((1 : Nat), Value.string s10),
                                                             ((2 : Nat), Value.int IntKind.i64 i11), ((3 : Nat), Value.int IntKind.i64 i12),
                                                             ((4 : Nat), Value.int IntKind.u32 i13)])] →
                                                         Rets Tryd.prog (112 : Nat) #[Value.pointer q6] w28.drew fun (v30 : Value) (w31 : World) =>
                                                          ∃ (i32 : Int),
                                                           v30 = Value.int IntKind.i64 i32 ∧
                                                            Keeps w28.drew w31 [w.heap.size] ∧
                                                             (w31.cell? (({ block := w.heap.size, off := (0 : Nat) } : Addr).add (0 : Nat)) =
                                                                some (Value.int IntKind.i64 i9) ∧
                                                               w31.cell? (({ block := w.heap.size, off := (0 : Nat) } : Addr).add (1 : Nat)) =
                                                                 some (Value.string s10) ∧
                                                                w31.cell? (({ block := w.heap.size, off := (0 : Nat) } : Addr).add (2 : Nat)) =
                                                                  some (Value.int IntKind.i64 i11) ∧
                                                                 w31.cell? (({ block := w.heap.size, off := (0 : Nat) } : Addr).add (3 : Nat)) =
                                                                   some (Value.int IntKind.i64 i12) ∧
                                                                  w31.cell? (({ block := w.heap.size, off := (0 : Nat) } : Addr).add (4 : Nat)) =
                                                                    some (Value.int IntKind.u32 i13) ∧
                                                                   True) ∧
                                                              Wr IntKind.i64 (p2 + i32) fun (i33 : Int) =>
                                                               Known
                                                                 (((((w31.setCell { block := w.heap.size, off := (0 : Nat) }
                                                                        (Value.int IntKind.i64 i9)).setCell
                                                                       {block := w.heap.size, off := (1 : Nat) } (Value.string s10)).setCell
                                                                      {block := w.heap.size, off := (2 : Nat) } (Value.int IntKind.i64 i11)).setCell
                                                                    {block := w.heap.size, off := (3 : Nat) } (Value.int IntKind.i64 i12)).setCell
                                                                  {block := w.heap.size, off := (4 : Nat) } (Value.int IntKind.u32 i13))
                                                                 [(w.heap.size,
                                                                   [((0 : Nat), Value.int IntKind.i64 i9), ((1 : Nat), Value.string s10),
                                                                    ((2 : Nat), Value.int IntKind.i64 i11), ((3 : Nat), Value.int IntKind.i64 i12),
                                                                    ((4 : Nat), Value.int IntKind.u32 i13)])] →
                                                                R
                                                                 (Ending.returned
                                                                  (Value.tuple
                                                                   #[Value.agg
                                                                     #[Value.int IntKind.i64 i9, Value.string s10, Value.int IntKind.i64 i11,
                                                                      Value.int IntKind.i64 i12, Value.int IntKind.u32 i13],
                                                                    Value.int IntKind.i64 i33, Value.int IntKind.i64 (0 : Int)]))
                                                                 (((((w31.setCell { block := w.heap.size, off := (0 : Nat) }
                                                                        (Value.int IntKind.i64 i9)).setCell
                                                                       {block := w.heap.size, off := (1 : Nat) } (Value.string s10)).setCell
                                                                      {block := w.heap.size, off := (2 : Nat) } (Value.int IntKind.i64 i11)).setCell
                                                                    {block := w.heap.size, off := (3 : Nat) } (Value.int IntKind.i64 i12)).setCell
                                                                  {block := w.heap.size, off := (4 : Nat) } (Value.int IntKind.u32 i13))))))))
   else
    ((0 : Int) ≤ p2 ∧ p2 ≤ (↑n1 : Int)) ∧
     (Known (w.alloc (Obj.cells #[Value.int IntKind.i64 (0 : Int), Value.string { data := #[] }, Value.int IntKind.i64 (0 : Int), Value.int IntKind.i64 (0 : Int), Value.int IntKind.u32 (0 : Int)] (54 : Nat)))
       [(w.heap.size,
         [((0 : Nat), Value.int IntKind.i64 (0 : Int)), ((1 : Nat), Value.string { data := #[] }), ((2 : Nat), Value.int IntKind.i64 (0 : Int)), ((3 : Nat), Value.int IntKind.i64 (0 : Int)),
          ((4 : Nat), Value.int IntKind.u32 (0 : Int))])] →
      Rets Tryd.prog (109 : Nat) #[Value.slice (cutA p1 c1 p2.toNat (1 : Nat)) (n1 - p2.toNat) (c1 - p2.toNat)]
       (w.alloc (Obj.cells #[Value.int IntKind.i64 (0 : Int), Value.string { data := #[] }, Value.int IntKind.i64 (0 : Int), Value.int IntKind.i64 (0 : Int), Value.int IntKind.u32 (0 : Int)] (54 : Nat)))
       fun (v34 : Value) (w35 : World) =>
       ∃ (q36 : Option Addr),
        v34 = Value.pointer q36 ∧
         Keeps (w.alloc (Obj.cells #[Value.int IntKind.i64 (0 : Int), Value.string { data := #[] }, Value.int IntKind.i64 (0 : Int), Value.int IntKind.i64 (0 : Int), Value.int IntKind.u32 (0 : Int)] (54 : Nat)))
           w35 [w.heap.size] ∧
          (Known w35
            [(w.heap.size,
              [((0 : Nat), Value.int IntKind.i64 (0 : Int)), ((1 : Nat), Value.string { data := #[] }), ((2 : Nat), Value.int IntKind.i64 (0 : Int)), ((3 : Nat), Value.int IntKind.i64 (0 : Int)),
               ((4 : Nat), Value.int IntKind.u32 (0 : Int))])] →
           Rets Tryd.prog (121 : Nat) #[Value.pointer q36] w35 fun (v37 : Value) (w38 : World) =>
            ∃ (i39 : Int),
             ∃ (s40 : ByteArray),
              ∃ (i41 : Int),
               ∃ (i42 : Int),
                ∃ (i43 : Int),
                 v37 = Value.agg #[Value.int IntKind.i64 i39, Value.string s40, Value.int IntKind.i64 i41, Value.int IntKind.i64 i42, Value.int IntKind.u32 i43] ∧
                  Keeps w35 w38 [w.heap.size] ∧
                   (Known
                     (((((w38.setCell { block := w.heap.size, off := (0 : Nat) } (Value.int IntKind.i64 i39)).setCell { block := w.heap.size, off := (1 : Nat) } (Value.string s40)).setCell
                          {block := w.heap.size, off := (2 : Nat) } (Value.int IntKind.i64 i41)).setCell
                        {block := w.heap.size, off := (3 : Nat) } (Value.int IntKind.i64 i42)).setCell
                      {block := w.heap.size, off := (4 : Nat) } (Value.int IntKind.u32 i43))
                     [(w.heap.size,
                       [((0 : Nat), Value.int IntKind.i64 i39), ((1 : Nat), Value.string s40), ((2 : Nat), Value.int IntKind.i64 i41), ((3 : Nat), Value.int IntKind.i64 i42),
                        ((4 : Nat), Value.int IntKind.u32 i43)])] →
                    Rets Tryd.prog (112 : Nat) #[Value.pointer q36]
                     (((((w38.setCell { block := w.heap.size, off := (0 : Nat) } (Value.int IntKind.i64 i39)).setCell { block := w.heap.size, off := (1 : Nat) } (Value.string s40)).setCell
                          {block := w.heap.size, off := (2 : Nat) } (Value.int IntKind.i64 i41)).setCell
                        {block := w.heap.size, off := (3 : Nat) } (Value.int IntKind.i64 i42)).setCell
                      {block := w.heap.size, off := (4 : Nat) } (Value.int IntKind.u32 i43))
                     fun (v44 : Value) (w45 : World) =>
                     ∃ (i46 : Int),
                      v44 = Value.int IntKind.i64 i46 ∧
                       Keeps
                         (((((w38.setCell { block := w.heap.size, off := (0 : Nat) } (Value.int IntKind.i64 i39)).setCell { block := w.heap.size, off := (1 : Nat) } (Value.string s40)).setCell
                              {block := w.heap.size, off := (2 : Nat) } (Value.int IntKind.i64 i41)).setCell
                            {block := w.heap.size, off := (3 : Nat) } (Value.int IntKind.i64 i42)).setCell
                          {block := w.heap.size, off := (4 : Nat) } (Value.int IntKind.u32 i43))
                         w45 [w.heap.size] ∧
                        Wr IntKind.i64 (p2 + i46) fun (i47 : Int) =>
                         ((0 : Int) ≤ i47 ∧ i47 ≤ (↑c1 : Int)) ∧
                          ((0 : Int) ≤ p2 ∧ p2 ≤ (↑i47.toNat : Int)) ∧
                           (Known w45
                             [(w.heap.size,
                               [((0 : Nat), Value.int IntKind.i64 i39), ((1 : Nat), Value.string s40), ((2 : Nat), Value.int IntKind.i64 i41), ((3 : Nat), Value.int IntKind.i64 i42),
                                ((4 : Nat), Value.int IntKind.u32 i43)])] →
                            Rets Tryd.prog (106 : Nat) #[Value.pointer p0, Value.slice (cutA p1 c1 p2.toNat (1 : Nat)) (i47.toNat - p2.toNat) (c1 - p2.toNat)] w45
                             fun (v48 : Value) (w49 : World) =>
                             ∃ (i50 : Int),
                              v48 = Value.int IntKind.u32 i50 ∧
                               Keeps w45 w49 [w.heap.size] ∧
                                (Known w49
                                  [(w.heap.size,
                                    [((0 : Nat), Value.int IntKind.i64 i39), ((1 : Nat), Value.string s40), ((2 : Nat), Value.int IntKind.i64 i41),
                                     ((3 : Nat), Value.int IntKind.i64 i42), ((4 : Nat), Value.int IntKind.u32 i43)])] →
                                 Rets Tryd.prog (111 : Nat) #[Value.pointer q36, Value.int IntKind.i64 (4 : Int)] w49 fun (v51 : Value) (w52 : World) =>
                                  ∃ (i53 : Int),
                                   v51 = Value.int IntKind.u32 i53 ∧
                                    Keeps w49 w52 [w.heap.size] ∧
                                     (Known w52
                                       [(w.heap.size,
                                         [((0 : Nat), Value.int IntKind.i64 i39), ((1 : Nat), Value.string s40), ((2 : Nat), Value.int IntKind.i64 i41),
                                          ((3 : Nat), Value.int IntKind.i64 i42), ((4 : Nat), Value.int IntKind.u32 i43)])] →
                                      Rets Tryd.prog (113 : Nat) #[Value.pointer q36] w52 fun (v54 : Value) (w55 : World) =>
                                       ∃ (t56 : Bool),
                                        v54 = Value.bool t56 ∧
                                         Keeps w52 w55 [w.heap.size] ∧
                                          bif !t56 then
                                           Known
                                             (((((w55.setCell { block := w.heap.size, off := (0 : Nat) } (Value.int IntKind.i64 (0 : Int))).setCell
                                                    {block := w.heap.size, off := (1 : Nat) } (Value.string { data := #[] })).setCell
                                                  {block := w.heap.size, off := (2 : Nat) } (Value.int IntKind.i64 (0 : Int))).setCell
                                                {block := w.heap.size, off := (3 : Nat) } (Value.int IntKind.i64 (0 : Int))).setCell
                                              {block := w.heap.size, off := (4 : Nat) } (Value.int IntKind.u32 (0 : Int)))
                                             [(w.heap.size,
                                               [((0 : Nat), Value.int IntKind.i64 (0 : Int)), ((1 : Nat), Value.string { data := #[] }),
                                                ((2 : Nat), Value.int IntKind.i64 (0 : Int)), ((3 : Nat), Value.int IntKind.i64 (0 : Int)),
                                                ((4 : Nat), Value.int IntKind.u32 (0 : Int))])] →
                                            R
                                             (Ending.returned
                                              (Value.tuple
                                               #[Value.agg
                                                 #[Value.int IntKind.i64 (0 : Int), Value.string { data := #[] }, Value.int IntKind.i64 (0 : Int),
                                                  Value.int IntKind.i64 (0 : Int), Value.int IntKind.u32 (0 : Int)],
                                                Value.int IntKind.i64 (0 : Int), Value.int IntKind.i64 (2 : Int)]))
                                             (((((w55.setCell { block := w.heap.size, off := (0 : Nat) } (Value.int IntKind.i64 (0 : Int))).setCell
                                                    {block := w.heap.size, off := (1 : Nat) } (Value.string { data := #[] })).setCell
                                                  {block := w.heap.size, off := (2 : Nat) } (Value.int IntKind.i64 (0 : Int))).setCell
                                                {block := w.heap.size, off := (3 : Nat) } (Value.int IntKind.i64 (0 : Int))).setCell
                                              {block := w.heap.size, off := (4 : Nat) } (Value.int IntKind.u32 (0 : Int)))
                                          else
                                           bif i53 != i50 then
                                            Known
                                              (((((w55.setCell { block := w.heap.size, off := (0 : Nat) } (Value.int IntKind.i64 (0 : Int))).setCell
                                                     {block := w.heap.size, off := (1 : Nat) } (Value.string { data := #[] })).setCell
                                                   {block := w.heap.size, off := (2 : Nat) } (Value.int IntKind.i64 (0 : Int))).setCell
                                                 {block := w.heap.size, off := (3 : Nat) } (Value.int IntKind.i64 (0 : Int))).setCell
                                               {block := w.heap.size, off := (4 : Nat) } (Value.int IntKind.u32 (0 : Int)))
                                              [(w.heap.size,
                                                [((0 : Nat), Value.int IntKind.i64 (0 : Int)), ((1 : Nat), Value.string { data := #[] }),
                                                 ((2 : Nat), Value.int IntKind.i64 (0 : Int)), ((3 : Nat), Value.int IntKind.i64 (0 : Int)),
                                                 ((4 : Nat), Value.int IntKind.u32 (0 : Int))])] →
                                             R
                                              (Ending.returned
                                               (Value.tuple
                                                #[Value.agg
                                                  #[Value.int IntKind.i64 (0 : Int), Value.string { data := #[] }, Value.int IntKind.i64 (0 : Int),
                                                   Value.int IntKind.i64 (0 : Int), Value.int IntKind.u32 (0 : Int)],
                                                 Value.int IntKind.i64 (0 : Int), Value.int IntKind.i64 (4 : Int)]))
                                              (((((w55.setCell { block := w.heap.size, off := (0 : Nat) } (Value.int IntKind.i64 (0 : Int))).setCell
                                                     {block := w.heap.size, off := (1 : Nat) } (Value.string { data := #[] })).setCell
                                                   {block := w.heap.size, off := (2 : Nat) } (Value.int IntKind.i64 (0 : Int))).setCell
                                                 {block := w.heap.size, off := (3 : Nat) } (Value.int IntKind.i64 (0 : Int))).setCell
                                               {block := w.heap.size, off := (4 : Nat) } (Value.int IntKind.u32 (0 : Int)))
                                           else
                                            Known w55
                                              [(w.heap.size,
                                                [((0 : Nat), Value.int IntKind.i64 i39), ((1 : Nat), Value.string s40), ((2 : Nat), Value.int IntKind.i64 i41),
                                                 ((3 : Nat), Value.int IntKind.i64 i42), ((4 : Nat), Value.int IntKind.u32 i43)])] →
                                             Rets Tryd.prog (51 : Nat)
                                              #[Value.agg
                                                #[Value.int IntKind.i64 i39, Value.string s40, Value.int IntKind.i64 i41, Value.int IntKind.i64 i42,
                                                 Value.int IntKind.u32 i43]]
                                              w55 fun (v57 : Value) (w58 : World) =>
                                              ∃ (t59 : Bool),
                                               v57 = Value.bool t59 ∧
                                                Keeps w55 w58 [w.heap.size] ∧
                                                 bif !t59 then
                                                  Known
                                                    (((((w58.setCell { block := w.heap.size, off := (0 : Nat) } (Value.int IntKind.i64 (0 : Int))).setCell
                                                           {block := w.heap.size, off := (1 : Nat) } (Value.string { data := #[] })).setCell
                                                         {block := w.heap.size, off := (2 : Nat) } (Value.int IntKind.i64 (0 : Int))).setCell
                                                       {block := w.heap.size, off := (3 : Nat) } (Value.int IntKind.i64 (0 : Int))).setCell
                                                     {block := w.heap.size, off := (4 : Nat) } (Value.int IntKind.u32 (0 : Int)))
                                                    [(w.heap.size,
                                                      [((0 : Nat), Value.int IntKind.i64 (0 : Int)), ((1 : Nat), Value.string { data := #[] }),
                                                       ((2 : Nat), Value.int IntKind.i64 (0 : Int)), ((3 : Nat), Value.int IntKind.i64 (0 : Int)),
                                                       ((4 : Nat), Value.int IntKind.u32 (0 : Int))])] →
                                                   R
                                                    (Ending.returned
                                                     (Value.tuple
                                                      #[Value.agg
                                                        #[Value.int IntKind.i64 (0 : Int), Value.string { data := #[] }, Value.int IntKind.i64 (0 : Int),
                                                         Value.int IntKind.i64 (0 : Int), Value.int IntKind.u32 (0 : Int)],
                                                       Value.int IntKind.i64 (0 : Int), Value.int IntKind.i64 (3 : Int)]))
                                                    (((((w58.setCell { block := w.heap.size, off := (0 : Nat) } (Value.int IntKind.i64 (0 : Int))).setCell
                                                           {block := w.heap.size, off := (1 : Nat) } (Value.string { data := #[] })).setCell
                                                         {block := w.heap.size, off := (2 : Nat) } (Value.int IntKind.i64 (0 : Int))).setCell
                                                       {block := w.heap.size, off := (3 : Nat) } (Value.int IntKind.i64 (0 : Int))).setCell
                                                     {block := w.heap.size, off := (4 : Nat) } (Value.int IntKind.u32 (0 : Int)))
                                                 else
                                                  Known w58.drew
                                                    [(w.heap.size,
                                                      [((0 : Nat), Value.int IntKind.i64 i39), ((1 : Nat), Value.string s40), ((2 : Nat), Value.int IntKind.i64 i41),
                                                       ((3 : Nat), Value.int IntKind.i64 i42), ((4 : Nat), Value.int IntKind.u32 i43)])] →
                                                   Rets Tryd.prog (112 : Nat) #[Value.pointer q36] w58.drew fun (v60 : Value) (w61 : World) =>
                                                    ∃ (i62 : Int),
                                                     v60 = Value.int IntKind.i64 i62 ∧
                                                      Keeps w58.drew w61 [w.heap.size] ∧
                                                       (w61.cell? (({ block := w.heap.size, off := (0 : Nat) } : Addr).add (0 : Nat)) = some (Value.int IntKind.i64 i39) ∧
                                                         w61.cell? (({ block := w.heap.size, off := (0 : Nat) } : Addr).add (1 : Nat)) = some (Value.string s40) ∧
                                                          w61.cell? (({ block := w.heap.size, off := (0 : Nat) } : Addr).add (2 : Nat)) =
                                                            some (Value.int IntKind.i64 i41) ∧
                                                           w61.cell? (({ block := w.heap.size, off := (0 : Nat) } : Addr).add (3 : Nat)) =
                                                             some (Value.int IntKind.i64 i42) ∧
                                                            w61.cell? (({ block := w.heap.size, off := (0 : Nat) } : Addr).add (4 : Nat)) =
                                                              some (Value.int IntKind.u32 i43) ∧
                                                             True) ∧
                                                        Wr IntKind.i64 (p2 + i62) fun (i63 : Int) =>
                                                         Known
                                                           (((((w61.setCell { block := w.heap.size, off := (0 : Nat) } (Value.int IntKind.i64 i39)).setCell
                                                                  {block := w.heap.size, off := (1 : Nat) } (Value.string s40)).setCell
                                                                {block := w.heap.size, off := (2 : Nat) } (Value.int IntKind.i64 i41)).setCell
                                                              {block := w.heap.size, off := (3 : Nat) } (Value.int IntKind.i64 i42)).setCell
                                                            {block := w.heap.size, off := (4 : Nat) } (Value.int IntKind.u32 i43))
                                                           [(w.heap.size,
                                                             [((0 : Nat), Value.int IntKind.i64 i39), ((1 : Nat), Value.string s40),
                                                              ((2 : Nat), Value.int IntKind.i64 i41), ((3 : Nat), Value.int IntKind.i64 i42),
                                                              ((4 : Nat), Value.int IntKind.u32 i43)])] →
                                                          R
                                                           (Ending.returned
                                                            (Value.tuple
                                                             #[Value.agg
                                                               #[Value.int IntKind.i64 i39, Value.string s40, Value.int IntKind.i64 i41,
                                                                Value.int IntKind.i64 i42, Value.int IntKind.u32 i43],
                                                              Value.int IntKind.i64 i63, Value.int IntKind.i64 (0 : Int)]))
                                                           (((((w61.setCell { block := w.heap.size, off := (0 : Nat) } (Value.int IntKind.i64 i39)).setCell
                                                                  {block := w.heap.size, off := (1 : Nat) } (Value.string s40)).setCell
                                                                {block := w.heap.size, off := (2 : Nat) } (Value.int IntKind.i64 i41)).setCell
                                                              {block := w.heap.size, off := (3 : Nat) } (Value.int IntKind.i64 i42)).setCell
                                                            {block := w.heap.size, off := (4 : Nat) } (Value.int IntKind.u32 i43))))))))
theorem vcTryd54 (p0 : Option Addr) (p1 : Option Addr) (n1 c1 : Nat) (p2 : Int) (w : World) (R : Ending → World → Prop) : SX.vcFn Tryd.prog [] Tryd.f54 [.v (.pointer p0), .v (.slice p1 n1 c1), .v (.int .i64 p2)] [] w R = VCTryd54 p0 p1 n1 c1 p2 w R := by kernel_rfl
def VCTryd56 (p0 : Option Addr) (n0 c0 : Nat) (p1 : Int) (w : World) (R : Ending → World → Prop) : Prop :=
bif decide (p1 ≥ (0 : Int)) then
 Wr IntKind.i64 ((↑n0 : Int) - (4 : Int)) fun (i0 : Int) =>
  bif decide (p1 ≤ i0) then
   Wr IntKind.i64 (p1 + (4 : Int)) fun (i1 : Int) =>
    ((0 : Int) ≤ i1 ∧ i1 ≤ (↑c0 : Int)) ∧
     ((0 : Int) ≤ p1 ∧ p1 ≤ (↑i1.toNat : Int)) ∧
      ∃ (s2 : ByteArray),
       s2.size = i1.toNat - p1.toNat ∧ BytesAt w (cutA p0 c0 p1.toNat (1 : Nat)) s2 ∧ R (Ending.returned (Value.bool (s2.toList == ({ data := #[(76 : UInt8), (77 : UInt8), (66 : UInt8), (82 : UInt8)] } : ByteArray).toList))) w
  else R (Ending.returned (Value.bool false)) w
else R (Ending.returned (Value.bool false)) w
theorem vcTryd56 (p0 : Option Addr) (n0 c0 : Nat) (p1 : Int) (w : World) (R : Ending → World → Prop) : SX.vcFn Tryd.prog [] Tryd.f56 [.v (.slice p0 n0 c0), .v (.int .i64 p1)] [] w R = VCTryd56 p0 n0 c0 p1 w R := by kernel_rfl
def VCTryd121 (p0 : Option Addr) (w : World) (R : Ending → World → Prop) : Prop :=
Known (w.alloc (Obj.cells #[Value.int IntKind.i64 (0 : Int), Value.string { data := #[] }, Value.int IntKind.i64 (0 : Int), Value.int IntKind.i64 (0 : Int), Value.int IntKind.u32 (0 : Int)] (54 : Nat)))
  [(w.heap.size,
    [((0 : Nat), Value.int IntKind.i64 (0 : Int)), ((1 : Nat), Value.string { data := #[] }), ((2 : Nat), Value.int IntKind.i64 (0 : Int)), ((3 : Nat), Value.int IntKind.i64 (0 : Int)),
     ((4 : Nat), Value.int IntKind.u32 (0 : Int))])] →
 Rets Tryd.prog (110 : Nat) #[Value.pointer p0, Value.int IntKind.i64 (4 : Int)]
  (w.alloc (Obj.cells #[Value.int IntKind.i64 (0 : Int), Value.string { data := #[] }, Value.int IntKind.i64 (0 : Int), Value.int IntKind.i64 (0 : Int), Value.int IntKind.u32 (0 : Int)] (54 : Nat)))
  fun (v0 : Value) (w1 : World) =>
  ∃ (q2 : Option Addr),
   ∃ (n3 : Nat),
    ∃ (n4 : Nat),
     v0 = Value.slice q2 n3 n4 ∧
      Keeps (w.alloc (Obj.cells #[Value.int IntKind.i64 (0 : Int), Value.string { data := #[] }, Value.int IntKind.i64 (0 : Int), Value.int IntKind.i64 (0 : Int), Value.int IntKind.u32 (0 : Int)] (54 : Nat))) w1
        [w.heap.size] ∧
       (Known w1
         [(w.heap.size,
           [((0 : Nat), Value.int IntKind.i64 (0 : Int)), ((1 : Nat), Value.string { data := #[] }), ((2 : Nat), Value.int IntKind.i64 (0 : Int)), ((3 : Nat), Value.int IntKind.i64 (0 : Int)),
            ((4 : Nat), Value.int IntKind.u32 (0 : Int))])] →
        Rets Tryd.prog (111 : Nat) #[Value.pointer p0, Value.int IntKind.i64 (1 : Int)] w1 fun (v5 : Value) (w6 : World) =>
         ∃ (i7 : Int),
          v5 = Value.int IntKind.u32 i7 ∧
           Keeps w1 w6 [w.heap.size] ∧
            Wr IntKind.i64 i7 fun (i8 : Int) =>
             Known
               ((((((w6.alloc
                          (Obj.cells
                           #[Value.int IntKind.i64 (0 : Int), Value.string { data := #[] }, Value.int IntKind.i64 (0 : Int), Value.int IntKind.i64 (0 : Int), Value.int IntKind.u32 (0 : Int)]
                           (54 : Nat))).setCell
                        {block := w6.heap.size, off := (0 : Nat) } (Value.int IntKind.i64 i8)).setCell
                      {block := w6.heap.size, off := (1 : Nat) } (Value.string { data := #[] })).setCell
                    {block := w6.heap.size, off := (2 : Nat) } (Value.int IntKind.i64 (0 : Int))).setCell
                  {block := w6.heap.size, off := (3 : Nat) } (Value.int IntKind.i64 (0 : Int))).setCell
                {block := w6.heap.size, off := (4 : Nat) } (Value.int IntKind.u32 (0 : Int)))
               [(w.heap.size,
                 [((0 : Nat), Value.int IntKind.i64 (0 : Int)), ((1 : Nat), Value.string { data := #[] }), ((2 : Nat), Value.int IntKind.i64 (0 : Int)), ((3 : Nat), Value.int IntKind.i64 (0 : Int)),
                  ((4 : Nat), Value.int IntKind.u32 (0 : Int))]),
                (w6.heap.size,
                 [((0 : Nat), Value.int IntKind.i64 i8), ((1 : Nat), Value.string { data := #[] }), ((2 : Nat), Value.int IntKind.i64 (0 : Int)), ((3 : Nat), Value.int IntKind.i64 (0 : Int)),
                  ((4 : Nat), Value.int IntKind.u32 (0 : Int))])] →
              Rets Tryd.prog (111 : Nat) #[Value.pointer p0, Value.int IntKind.i64 (1 : Int)]
               ((((((w6.alloc
                          (Obj.cells
                           #[Value.int IntKind.i64 (0 : Int), Value.string { data := #[] }, Value.int IntKind.i64 (0 : Int), Value.int IntKind.i64 (0 : Int), Value.int IntKind.u32 (0 : Int)]
                           (54 : Nat))).setCell
                        {block := w6.heap.size, off := (0 : Nat) } (Value.int IntKind.i64 i8)).setCell
                      {block := w6.heap.size, off := (1 : Nat) } (Value.string { data := #[] })).setCell
                    {block := w6.heap.size, off := (2 : Nat) } (Value.int IntKind.i64 (0 : Int))).setCell
                  {block := w6.heap.size, off := (3 : Nat) } (Value.int IntKind.i64 (0 : Int))).setCell
                {block := w6.heap.size, off := (4 : Nat) } (Value.int IntKind.u32 (0 : Int)))
               fun (v9 : Value) (w10 : World) =>
               ∃ (i11 : Int),
                v9 = Value.int IntKind.u32 i11 ∧
                 Keeps
                   ((((((w6.alloc
                              (Obj.cells
                               #[Value.int IntKind.i64 (0 : Int), Value.string { data := #[] }, Value.int IntKind.i64 (0 : Int), Value.int IntKind.i64 (0 : Int),
                                Value.int IntKind.u32 (0 : Int)]
                               (54 : Nat))).setCell
                            {block := w6.heap.size, off := (0 : Nat) } (Value.int IntKind.i64 i8)).setCell
                          {block := w6.heap.size, off := (1 : Nat) } (Value.string { data := #[] })).setCell
                        {block := w6.heap.size, off := (2 : Nat) } (Value.int IntKind.i64 (0 : Int))).setCell
                      {block := w6.heap.size, off := (3 : Nat) } (Value.int IntKind.i64 (0 : Int))).setCell
                    {block := w6.heap.size, off := (4 : Nat) } (Value.int IntKind.u32 (0 : Int)))
                   w10 [w.heap.size, w6.heap.size] ∧
                  Wr IntKind.i64 i11 fun (i12 : Int) =>
                   Known w10
                     [(w.heap.size,
                       [((0 : Nat), Value.int IntKind.i64 (0 : Int)), ((1 : Nat), Value.string { data := #[] }), ((2 : Nat), Value.int IntKind.i64 (0 : Int)),
                        ((3 : Nat), Value.int IntKind.i64 (0 : Int)), ((4 : Nat), Value.int IntKind.u32 (0 : Int))]),
                      (w6.heap.size,
                       [((0 : Nat), Value.int IntKind.i64 i8), ((1 : Nat), Value.string { data := #[] }), ((2 : Nat), Value.int IntKind.i64 (0 : Int)), ((3 : Nat), Value.int IntKind.i64 (0 : Int)),
                        ((4 : Nat), Value.int IntKind.u32 (0 : Int))])] →
                    Rets Tryd.prog (111 : Nat) #[Value.pointer p0, Value.int IntKind.i64 (4 : Int)] w10 fun (v13 : Value) (w14 : World) =>
                     ∃ (i15 : Int),
                      v13 = Value.int IntKind.u32 i15 ∧
                       Keeps w10 w14 [w.heap.size, w6.heap.size] ∧
                        Wr IntKind.i64 i15 fun (i16 : Int) =>
                         Known w14
                           [(w.heap.size,
                             [((0 : Nat), Value.int IntKind.i64 (0 : Int)), ((1 : Nat), Value.string { data := #[] }), ((2 : Nat), Value.int IntKind.i64 (0 : Int)),
                              ((3 : Nat), Value.int IntKind.i64 (0 : Int)), ((4 : Nat), Value.int IntKind.u32 (0 : Int))]),
                            (w6.heap.size,
                             [((0 : Nat), Value.int IntKind.i64 i8), ((1 : Nat), Value.string { data := #[] }), ((2 : Nat), Value.int IntKind.i64 (0 : Int)),
                              ((3 : Nat), Value.int IntKind.i64 (0 : Int)), ((4 : Nat), Value.int IntKind.u32 (0 : Int))])] →
                          Rets Tryd.prog (111 : Nat) #[Value.pointer p0, Value.int IntKind.i64 (4 : Int)] w14 fun (v17 : Value) (w18 : World) =>
                           ∃ (i19 : Int),
                            v17 = Value.int IntKind.u32 i19 ∧
                             Keeps w14 w18 [w.heap.size, w6.heap.size] ∧
                              Wr IntKind.i64 i19 fun (i20 : Int) =>
                               Known w18
                                 [(w.heap.size,
                                   [((0 : Nat), Value.int IntKind.i64 (0 : Int)), ((1 : Nat), Value.string { data := #[] }), ((2 : Nat), Value.int IntKind.i64 (0 : Int)),
                                    ((3 : Nat), Value.int IntKind.i64 (0 : Int)), ((4 : Nat), Value.int IntKind.u32 (0 : Int))]),
                                  (w6.heap.size,
                                   [((0 : Nat), Value.int IntKind.i64 i8), ((1 : Nat), Value.string { data := #[] }), ((2 : Nat), Value.int IntKind.i64 (0 : Int)),
                                    ((3 : Nat), Value.int IntKind.i64 (0 : Int)), ((4 : Nat), Value.int IntKind.u32 (0 : Int))])] →
                                Rets Tryd.prog (111 : Nat) #[Value.pointer p0, Value.int IntKind.i64 (4 : Int)] w18 fun (v21 : Value) (w22 : World) =>
                                 ∃ (i23 : Int),
                                  v21 = Value.int IntKind.u32 i23 ∧
                                   Keeps w18 w22 [w.heap.size, w6.heap.size] ∧
                                    (Known
                                      (((w22.setCell { block := w6.heap.size, off := (2 : Nat) } (Value.int IntKind.i64 i16)).setCell { block := w6.heap.size, off := (3 : Nat) }
                                         (Value.int IntKind.i64 i20)).setCell
                                       {block := w6.heap.size, off := (4 : Nat) } (Value.int IntKind.u32 i23))
                                      [(w.heap.size,
                                        [((0 : Nat), Value.int IntKind.i64 (0 : Int)), ((1 : Nat), Value.string { data := #[] }), ((2 : Nat), Value.int IntKind.i64 (0 : Int)),
                                         ((3 : Nat), Value.int IntKind.i64 (0 : Int)), ((4 : Nat), Value.int IntKind.u32 (0 : Int))]),
                                       (w6.heap.size,
                                        [((0 : Nat), Value.int IntKind.i64 i8), ((1 : Nat), Value.string { data := #[] }), ((2 : Nat), Value.int IntKind.i64 i16),
                                         ((3 : Nat), Value.int IntKind.i64 i20), ((4 : Nat), Value.int IntKind.u32 i23)])] →
                                     Rets Tryd.prog (110 : Nat) #[Value.pointer p0, Value.int IntKind.i64 i12]
                                      (((w22.setCell { block := w6.heap.size, off := (2 : Nat) } (Value.int IntKind.i64 i16)).setCell { block := w6.heap.size, off := (3 : Nat) }
                                         (Value.int IntKind.i64 i20)).setCell
                                       {block := w6.heap.size, off := (4 : Nat) } (Value.int IntKind.u32 i23))
                                      fun (v24 : Value) (w25 : World) =>
                                      ∃ (q26 : Option Addr),
                                       ∃ (n27 : Nat),
                                        ∃ (n28 : Nat),
                                         v24 = Value.slice q26 n27 n28 ∧
                                          Keeps
                                            (((w22.setCell { block := w6.heap.size, off := (2 : Nat) } (Value.int IntKind.i64 i16)).setCell
                                               {block := w6.heap.size, off := (3 : Nat) } (Value.int IntKind.i64 i20)).setCell
                                             {block := w6.heap.size, off := (4 : Nat) } (Value.int IntKind.u32 i23))
                                            w25 [w.heap.size, w6.heap.size] ∧
                                           ∃ (s29 : ByteArray),
                                            s29.size = n27 ∧
                                             BytesAt w25 q26 s29 ∧
                                              (Known
                                                ((((((w25.setCell { block := w6.heap.size, off := (1 : Nat) } (Value.string s29)).setCell
                                                      {block := w.heap.size, off := (0 : Nat) } (Value.int IntKind.i64 i8)).setCell
                                                     {block := w.heap.size, off := (1 : Nat) } (Value.string s29)).setCell
                                                    {block := w.heap.size, off := (2 : Nat) } (Value.int IntKind.i64 i16)).setCell
                                                   {block := w.heap.size, off := (3 : Nat) } (Value.int IntKind.i64 i20)).setCell
                                                 {block := w.heap.size, off := (4 : Nat) } (Value.int IntKind.u32 i23))
                                                [(w.heap.size,
                                                  [((0 : Nat), Value.int IntKind.i64 i8), ((1 : Nat), Value.string s29), ((2 : Nat), Value.int IntKind.i64 i16),
                                                   ((3 : Nat), Value.int IntKind.i64 i20), ((4 : Nat), Value.int IntKind.u32 i23)]),
                                                 (w6.heap.size,
                                                  [((0 : Nat), Value.int IntKind.i64 i8), ((1 : Nat), Value.string s29), ((2 : Nat), Value.int IntKind.i64 i16),
                                                   ((3 : Nat), Value.int IntKind.i64 i20), ((4 : Nat), Value.int IntKind.u32 i23)])] →
                                               R
                                                (Ending.returned
                                                 (Value.agg
                                                  #[Value.int IntKind.i64 i8, Value.string s29, Value.int IntKind.i64 i16, Value.int IntKind.i64 i20,
                                                   Value.int IntKind.u32 i23]))
                                                ((((((w25.setCell { block := w6.heap.size, off := (1 : Nat) } (Value.string s29)).setCell
                                                      {block := w.heap.size, off := (0 : Nat) } (Value.int IntKind.i64 i8)).setCell
                                                     {block := w.heap.size, off := (1 : Nat) } (Value.string s29)).setCell
                                                    {block := w.heap.size, off := (2 : Nat) } (Value.int IntKind.i64 i16)).setCell
                                                   {block := w.heap.size, off := (3 : Nat) } (Value.int IntKind.i64 i20)).setCell
                                                 {block := w.heap.size, off := (4 : Nat) } (Value.int IntKind.u32 i23)))))
theorem vcTryd121 (p0 : Option Addr) (w : World) (R : Ending → World → Prop) : SX.vcFn Tryd.prog [] Tryd.f121 [.v (.pointer p0)] [] w R = VCTryd121 p0 w R := by kernel_rfl
end Go.Proofs.YtbpknjldphckgaaDoor
