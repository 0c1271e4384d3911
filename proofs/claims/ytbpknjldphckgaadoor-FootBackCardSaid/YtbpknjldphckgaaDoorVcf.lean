/- The conditions of functions, as the executor computes them: each is equal to what 'vcFn' says. -/
import Derived.Test.YtbpknjldphckgaaDoorSxLib
import Derived.Test.YtbpknjldphckgaaDoorProg
namespace Go.Proofs.YtbpknjldphckgaaDoor
open Go Go.SX Go.Proofs
set_option maxRecDepth 100000
set_option linter.unusedVariables false
def VCTryd8 (m : Int) (s : ByteArray) (z a u : Int) (w : World) (R : Ending → World → Prop) : Prop :=
bif decide ((↑s.size : Int) > (300 : Int)) then
 Known (w.alloc (Obj.cells #[Value.int IntKind.i64 m, Value.string s, Value.int IntKind.i64 z, Value.int IntKind.i64 a, Value.int IntKind.u32 u] (54 : Nat)))
   [(w.heap.size, [((0 : Nat), Value.int IntKind.i64 m), ((1 : Nat), Value.string s), ((2 : Nat), Value.int IntKind.i64 z), ((3 : Nat), Value.int IntKind.i64 a), ((4 : Nat), Value.int IntKind.u32 u)])] →
  Rets Tryd.prog (48 : Nat) #[] (w.alloc (Obj.cells #[Value.int IntKind.i64 m, Value.string s, Value.int IntKind.i64 z, Value.int IntKind.i64 a, Value.int IntKind.u32 u] (54 : Nat))) fun (v0 : Value) (w1 : World) =>
   ∃ (t2 : Bool),
    v0 = Value.bool t2 ∧
     Keeps (w.alloc (Obj.cells #[Value.int IntKind.i64 m, Value.string s, Value.int IntKind.i64 z, Value.int IntKind.i64 a, Value.int IntKind.u32 u] (54 : Nat))) w1 [w.heap.size] ∧
      (Known w1
        [(w.heap.size, [((0 : Nat), Value.int IntKind.i64 m), ((1 : Nat), Value.string s), ((2 : Nat), Value.int IntKind.i64 z), ((3 : Nat), Value.int IntKind.i64 a), ((4 : Nat), Value.int IntKind.u32 u)])] →
       R (Ending.returned (Value.bool t2)) w1)
else
 Known (w.alloc (Obj.cells #[Value.int IntKind.i64 m, Value.string s, Value.int IntKind.i64 z, Value.int IntKind.i64 a, Value.int IntKind.u32 u] (54 : Nat)))
   [(w.heap.size, [((0 : Nat), Value.int IntKind.i64 m), ((1 : Nat), Value.string s), ((2 : Nat), Value.int IntKind.i64 z), ((3 : Nat), Value.int IntKind.i64 a), ((4 : Nat), Value.int IntKind.u32 u)])] →
  Rets Tryd.prog (26 : Nat) #[] (w.alloc (Obj.cells #[Value.int IntKind.i64 m, Value.string s, Value.int IntKind.i64 z, Value.int IntKind.i64 a, Value.int IntKind.u32 u] (54 : Nat))) fun (v3 : Value) (w4 : World) =>
   ∃ (x5 : Array Value),
    v3 = Value.agg x5 ∧
     Keeps (w.alloc (Obj.cells #[Value.int IntKind.i64 m, Value.string s, Value.int IntKind.i64 z, Value.int IntKind.i64 a, Value.int IntKind.u32 u] (54 : Nat))) w4 [w.heap.size] ∧
      Runs Tryd.prog (Instr.storeAt (25 : Nat) (Value.pointer (some { block := w4.heap.size, off := (0 : Nat) })) (Value.agg x5)) (w4.alloc (Obj.cells (zeroA Tryd.prog (25 : Nat)) (25 : Nat)))
       fun (x6 : Unit) (w7 : World) =>
       Keeps (w4.alloc (Obj.cells (zeroA Tryd.prog (25 : Nat)) (25 : Nat))) w7 [w.heap.size] ∧
        (Known w7
          [(w.heap.size, [((0 : Nat), Value.int IntKind.i64 m), ((1 : Nat), Value.string s), ((2 : Nat), Value.int IntKind.i64 z), ((3 : Nat), Value.int IntKind.i64 a), ((4 : Nat), Value.int IntKind.u32 u)])] →
         Rets Tryd.prog (49 : Nat)
          #[Value.pointer (some { block := w4.heap.size, off := (0 : Nat) }), Value.agg #[Value.int IntKind.i64 m, Value.string s, Value.int IntKind.i64 z, Value.int IntKind.i64 a, Value.int IntKind.u32 u]] w7
          fun (v8 : Value) (w9 : World) =>
          ∃ (q10 : Option Addr),
           ∃ (n11 : Nat),
            ∃ (n12 : Nat),
             ∃ (i13 : Int),
              v8 = Value.tuple #[Value.slice q10 n11 n12, Value.int IntKind.i64 i13] ∧
               Keeps w7 w9 [w.heap.size] ∧
                (Known w9
                  [(w.heap.size,
                    [((0 : Nat), Value.int IntKind.i64 m), ((1 : Nat), Value.string s), ((2 : Nat), Value.int IntKind.i64 z), ((3 : Nat), Value.int IntKind.i64 a),
                     ((4 : Nat), Value.int IntKind.u32 u)])] →
                 Rets Tryd.prog (50 : Nat) #[Value.agg #[Value.int IntKind.i64 m, Value.string s, Value.int IntKind.i64 z, Value.int IntKind.i64 a, Value.int IntKind.u32 u]] w9
                  fun (v14 : Value) (w15 : World) =>
                  ∃ (t16 : Bool),
                   v14 = Value.bool t16 ∧
                    Keeps w9 w15 [w.heap.size] ∧
                     (Known w15.drew
                       [(w.heap.size,
                         [((0 : Nat), Value.int IntKind.i64 m), ((1 : Nat), Value.string s), ((2 : Nat), Value.int IntKind.i64 z), ((3 : Nat), Value.int IntKind.i64 a),
                          ((4 : Nat), Value.int IntKind.u32 u)])] →
                      Rets Tryd.prog (51 : Nat) #[Value.agg #[Value.int IntKind.i64 m, Value.string s, Value.int IntKind.i64 z, Value.int IntKind.i64 a, Value.int IntKind.u32 u]] w15.drew
                       fun (v17 : Value) (w18 : World) =>
                       ∃ (t19 : Bool),
                        v17 = Value.bool t19 ∧
                         Keeps w15.drew w18 [w.heap.size] ∧
                          bif !t19 == t16 then
                           Known w18
                             [(w.heap.size,
                               [((0 : Nat), Value.int IntKind.i64 m), ((1 : Nat), Value.string s), ((2 : Nat), Value.int IntKind.i64 z), ((3 : Nat), Value.int IntKind.i64 a),
                                ((4 : Nat), Value.int IntKind.u32 u)])] →
                            R (Ending.returned (Value.bool false)) w18
                          else
                           bif !(i13 == (0 : Int)) == t16 then
                            Known w18
                              [(w.heap.size,
                                [((0 : Nat), Value.int IntKind.i64 m), ((1 : Nat), Value.string s), ((2 : Nat), Value.int IntKind.i64 z), ((3 : Nat), Value.int IntKind.i64 a),
                                 ((4 : Nat), Value.int IntKind.u32 u)])] →
                             R (Ending.returned (Value.bool false)) w18
                           else
                            Wr IntKind.i64 ((22 : Int) + (↑s.size : Int)) fun (i20 : Int) =>
                             Known w18
                               [(w.heap.size,
                                 [((0 : Nat), Value.int IntKind.i64 m), ((1 : Nat), Value.string s), ((2 : Nat), Value.int IntKind.i64 z), ((3 : Nat), Value.int IntKind.i64 a),
                                  ((4 : Nat), Value.int IntKind.u32 u)])] →
                              Rets Tryd.prog (52 : Nat) #[Value.string s] w18 fun (v21 : Value) (w22 : World) =>
                               ∃ (i23 : Int),
                                v21 = Value.int IntKind.i64 i23 ∧
                                 Keeps w18 w22 [w.heap.size] ∧
                                  w22.cell? { block := w.heap.size, off := (1 : Nat) } = some (Value.string s) ∧
                                   bif i23 != i20 then
                                    Known w22
                                      [(w.heap.size,
                                        [((0 : Nat), Value.int IntKind.i64 m), ((1 : Nat), Value.string s), ((2 : Nat), Value.int IntKind.i64 z),
                                         ((3 : Nat), Value.int IntKind.i64 a), ((4 : Nat), Value.int IntKind.u32 u)])] →
                                     R (Ending.returned (Value.bool false)) w22
                                   else
                                    bif !t16 then
                                     bif i13 == (1 : Int) then
                                      bif (↑n11 : Int) == (0 : Int) then
                                       Known w22
                                         [(w.heap.size,
                                           [((0 : Nat), Value.int IntKind.i64 m), ((1 : Nat), Value.string s), ((2 : Nat), Value.int IntKind.i64 z),
                                            ((3 : Nat), Value.int IntKind.i64 a), ((4 : Nat), Value.int IntKind.u32 u)])] →
                                        Rets Tryd.prog (48 : Nat) #[] w22 fun (v24 : Value) (w25 : World) =>
                                         ∃ (t26 : Bool),
                                          v24 = Value.bool t26 ∧
                                           Keeps w22 w25 [w.heap.size] ∧
                                            (Known w25
                                              [(w.heap.size,
                                                [((0 : Nat), Value.int IntKind.i64 m), ((1 : Nat), Value.string s), ((2 : Nat), Value.int IntKind.i64 z),
                                                 ((3 : Nat), Value.int IntKind.i64 a), ((4 : Nat), Value.int IntKind.u32 u)])] →
                                             R (Ending.returned (Value.bool t26)) w25)
                                      else
                                       Known w22
                                         [(w.heap.size,
                                           [((0 : Nat), Value.int IntKind.i64 m), ((1 : Nat), Value.string s), ((2 : Nat), Value.int IntKind.i64 z),
                                            ((3 : Nat), Value.int IntKind.i64 a), ((4 : Nat), Value.int IntKind.u32 u)])] →
                                        R (Ending.returned (Value.bool false)) w22
                                     else
                                      Known w22
                                        [(w.heap.size,
                                          [((0 : Nat), Value.int IntKind.i64 m), ((1 : Nat), Value.string s), ((2 : Nat), Value.int IntKind.i64 z),
                                           ((3 : Nat), Value.int IntKind.i64 a), ((4 : Nat), Value.int IntKind.u32 u)])] →
                                       R (Ending.returned (Value.bool false)) w22
                                    else
                                     ∃ (s27 : ByteArray),
                                      s27.size = n11 ∧
                                       BytesAt w22.drew q10 s27 ∧
                                        (Known w22.drew
                                          [(w.heap.size,
                                            [((0 : Nat), Value.int IntKind.i64 m), ((1 : Nat), Value.string s), ((2 : Nat), Value.int IntKind.i64 z),
                                             ((3 : Nat), Value.int IntKind.i64 a), ((4 : Nat), Value.int IntKind.u32 u)])] →
                                         Rets Tryd.prog (53 : Nat)
                                          #[Value.agg #[Value.int IntKind.i64 m, Value.string s, Value.int IntKind.i64 z, Value.int IntKind.i64 a, Value.int IntKind.u32 u]]
                                          w22.drew fun (v28 : Value) (w29 : World) =>
                                          ∃ (q30 : Option Addr),
                                           ∃ (n31 : Nat),
                                            ∃ (n32 : Nat),
                                             v28 = Value.slice q30 n31 n32 ∧
                                              Keeps w22.drew w29 [w.heap.size] ∧
                                               BytesAt w29 q10 s27 ∧
                                                ∃ (s33 : ByteArray),
                                                 s33.size = n31 ∧
                                                  BytesAt w29 q30 s33 ∧
                                                   bif s27.toList == s33.toList then
                                                    Known w29
                                                      [(w.heap.size,
                                                        [((0 : Nat), Value.int IntKind.i64 m), ((1 : Nat), Value.string s), ((2 : Nat), Value.int IntKind.i64 z),
                                                         ((3 : Nat), Value.int IntKind.i64 a), ((4 : Nat), Value.int IntKind.u32 u)])] →
                                                     Rets Tryd.prog (48 : Nat) #[] w29 fun (v34 : Value) (w35 : World) =>
                                                      ∃ (t36 : Bool),
                                                       v34 = Value.bool t36 ∧
                                                        Keeps w29 w35 [w.heap.size] ∧
                                                         (Known w35
                                                           [(w.heap.size,
                                                            [((0 : Nat), Value.int IntKind.i64 m), ((1 : Nat), Value.string s),
                                                             ((2 : Nat), Value.int IntKind.i64 z), ((3 : Nat), Value.int IntKind.i64 a),
                                                             ((4 : Nat), Value.int IntKind.u32 u)])] →
                                                          R (Ending.returned (Value.bool t36)) w35)
                                                   else
                                                    Known w29
                                                      [(w.heap.size,
                                                        [((0 : Nat), Value.int IntKind.i64 m), ((1 : Nat), Value.string s), ((2 : Nat), Value.int IntKind.i64 z),
                                                         ((3 : Nat), Value.int IntKind.i64 a), ((4 : Nat), Value.int IntKind.u32 u)])] →
                                                     R (Ending.returned (Value.bool false)) w29))))
theorem vcTryd8 (m : Int) (s : ByteArray) (z a u : Int) (w : World) (R : Ending → World → Prop) : SX.vcFn Tryd.prog [] Tryd.f8 [.v (.agg #[.int .i64 m, .string s, .int .i64 z, .int .i64 a, .int .u32 u])] [] w R = VCTryd8 m s z a u w R := by kernel_rfl
def VCTryd9 (p0 : Option Addr) (n0 c0 : Nat) (p1 : Int) (w : World) (R : Ending → World → Prop) : Prop :=
bif decide ((↑n0 : Int) > (1000 : Int)) then Rets Tryd.prog (48 : Nat) #[] w fun (v0 : Value) (w1 : World) => ∃ (t2 : Bool), v0 = Value.bool t2 ∧ Keeps w w1 [] ∧ R (Ending.returned (Value.bool t2)) w1
else
 Rets Tryd.prog (26 : Nat) #[] w fun (v3 : Value) (w4 : World) =>
  ∃ (x5 : Array Value),
   v3 = Value.agg x5 ∧
    Keeps w w4 [] ∧
     Runs Tryd.prog (Instr.storeAt (25 : Nat) (Value.pointer (some { block := w4.heap.size, off := (0 : Nat) })) (Value.agg x5)) (w4.alloc (Obj.cells (zeroA Tryd.prog (25 : Nat)) (25 : Nat)))
      fun (x6 : Unit) (w7 : World) =>
      Keeps (w4.alloc (Obj.cells (zeroA Tryd.prog (25 : Nat)) (25 : Nat))) w7 [] ∧
       Rets Tryd.prog (54 : Nat) #[Value.pointer (some { block := w4.heap.size, off := (0 : Nat) }), Value.slice p0 n0 c0, Value.int IntKind.i64 p1] w7 fun (v8 : Value) (w9 : World) =>
        ∃ (i10 : Int),
         ∃ (s11 : ByteArray),
          ∃ (i12 : Int),
           ∃ (i13 : Int),
            ∃ (i14 : Int),
             ∃ (i15 : Int),
              ∃ (i16 : Int),
               v8 =
                 Value.tuple
                  #[Value.agg #[Value.int IntKind.i64 i10, Value.string s11, Value.int IntKind.i64 i12, Value.int IntKind.i64 i13, Value.int IntKind.u32 i14], Value.int IntKind.i64 i15,
                   Value.int IntKind.i64 i16] ∧
                Keeps w7 w9 [] ∧
                 (Known
                   ((((((w9.alloc
                              (Obj.cells
                               #[Value.int IntKind.i64 (0 : Int), Value.string { data := #[] }, Value.int IntKind.i64 (0 : Int), Value.int IntKind.i64 (0 : Int),
                                Value.int IntKind.u32 (0 : Int)]
                               (54 : Nat))).setCell
                            {block := w9.heap.size, off := (0 : Nat) } (Value.int IntKind.i64 i10)).setCell
                          {block := w9.heap.size, off := (1 : Nat) } (Value.string s11)).setCell
                        {block := w9.heap.size, off := (2 : Nat) } (Value.int IntKind.i64 i12)).setCell
                      {block := w9.heap.size, off := (3 : Nat) } (Value.int IntKind.i64 i13)).setCell
                    {block := w9.heap.size, off := (4 : Nat) } (Value.int IntKind.u32 i14))
                   [(w9.heap.size,
                     [((0 : Nat), Value.int IntKind.i64 i10), ((1 : Nat), Value.string s11), ((2 : Nat), Value.int IntKind.i64 i12), ((3 : Nat), Value.int IntKind.i64 i13),
                      ((4 : Nat), Value.int IntKind.u32 i14)])] →
                  Rets Tryd.prog (55 : Nat) #[Value.slice p0 n0 c0, Value.int IntKind.i64 p1]
                   ((((((w9.alloc
                              (Obj.cells
                               #[Value.int IntKind.i64 (0 : Int), Value.string { data := #[] }, Value.int IntKind.i64 (0 : Int), Value.int IntKind.i64 (0 : Int),
                                Value.int IntKind.u32 (0 : Int)]
                               (54 : Nat))).setCell
                            {block := w9.heap.size, off := (0 : Nat) } (Value.int IntKind.i64 i10)).setCell
                          {block := w9.heap.size, off := (1 : Nat) } (Value.string s11)).setCell
                        {block := w9.heap.size, off := (2 : Nat) } (Value.int IntKind.i64 i12)).setCell
                      {block := w9.heap.size, off := (3 : Nat) } (Value.int IntKind.i64 i13)).setCell
                    {block := w9.heap.size, off := (4 : Nat) } (Value.int IntKind.u32 i14))
                   fun (v17 : Value) (w18 : World) =>
                   ∃ (i19 : Int),
                    ∃ (s20 : ByteArray),
                     ∃ (i21 : Int),
                      ∃ (i22 : Int),
                       ∃ (i23 : Int),
                        ∃ (i24 : Int),
                         ∃ (i25 : Int),
                          v17 =
                            Value.tuple
                             #[Value.agg #[Value.int IntKind.i64 i19, Value.string s20, Value.int IntKind.i64 i21, Value.int IntKind.i64 i22, Value.int IntKind.u32 i23],
                              Value.int IntKind.i64 i24, Value.int IntKind.i64 i25] ∧
                           Keeps
                             ((((((w9.alloc
                                        (Obj.cells
                                         #[Value.int IntKind.i64 (0 : Int), Value.string { data := #[] }, Value.int IntKind.i64 (0 : Int), Value.int IntKind.i64 (0 : Int),
                                          Value.int IntKind.u32 (0 : Int)]
                                         (54 : Nat))).setCell
                                      {block := w9.heap.size, off := (0 : Nat) } (Value.int IntKind.i64 i10)).setCell
                                    {block := w9.heap.size, off := (1 : Nat) } (Value.string s11)).setCell
                                  {block := w9.heap.size, off := (2 : Nat) } (Value.int IntKind.i64 i12)).setCell
                                {block := w9.heap.size, off := (3 : Nat) } (Value.int IntKind.i64 i13)).setCell
                              {block := w9.heap.size, off := (4 : Nat) } (Value.int IntKind.u32 i14))
                             w18 [w9.heap.size] ∧
                            bif decide (p1 ≥ (0 : Int)) then
                             bif decide (p1 ≤ (↑n0 : Int)) then
                              Wr IntKind.i64 ((↑n0 : Int) - p1) fun (i26 : Int) =>
                               bif decide (i26 ≥ (4 : Int)) then
                                Wr IntKind.i64 (p1 + (4 : Int)) fun (i27 : Int) =>
                                 ((0 : Int) ≤ i27 ∧ i27 ≤ (↑c0 : Int)) ∧
                                  ((0 : Int) ≤ p1 ∧ p1 ≤ (↑i27.toNat : Int)) ∧
                                   ∃ (s28 : ByteArray),
                                    s28.size = i27.toNat - p1.toNat ∧
                                     BytesAt
                                       ((((((w18.alloc
                                                  (Obj.cells
                                                   #[Value.int IntKind.i64 (0 : Int), Value.string { data := #[] }, Value.int IntKind.i64 (0 : Int),
                                                    Value.int IntKind.i64 (0 : Int), Value.int IntKind.u32 (0 : Int)]
                                                   (57 : Nat))).setCell
                                                {block := w18.heap.size, off := (0 : Nat) } (Value.int IntKind.i64 i19)).setCell
                                              {block := w18.heap.size, off := (1 : Nat) } (Value.string s20)).setCell
                                            {block := w18.heap.size, off := (2 : Nat) } (Value.int IntKind.i64 i21)).setCell
                                          {block := w18.heap.size, off := (3 : Nat) } (Value.int IntKind.i64 i22)).setCell
                                        {block := w18.heap.size, off := (4 : Nat) } (Value.int IntKind.u32 i23))
                                       (cutA p0 c0 p1.toNat (1 : Nat)) s28 ∧
                                      true = true ∧
                                       bif i10 == i19 && (s11.toList == s20.toList && (i12 == i21 && (i13 == i22 && i14 == i23))) then
                                        bif i15 == i24 then
                                         bif i16 == i25 then
                                          Known
                                            ((((((w18.alloc
                                                       (Obj.cells
                                                        #[Value.int IntKind.i64 (0 : Int), Value.string { data := #[] }, Value.int IntKind.i64 (0 : Int),
                                                         Value.int IntKind.i64 (0 : Int), Value.int IntKind.u32 (0 : Int)]
                                                        (57 : Nat))).setCell
                                                     {block := w18.heap.size, off := (0 : Nat) } (Value.int IntKind.i64 i19)).setCell
                                                   {block := w18.heap.size, off := (1 : Nat) } (Value.string s20)).setCell
                                                 {block := w18.heap.size, off := (2 : Nat) } (Value.int IntKind.i64 i21)).setCell
                                               {block := w18.heap.size, off := (3 : Nat) } (Value.int IntKind.i64 i22)).setCell
                                             {block := w18.heap.size, off := (4 : Nat) } (Value.int IntKind.u32 i23))
                                            [(w9.heap.size,
                                              [((0 : Nat), Value.int IntKind.i64 i10), ((1 : Nat), Value.string s11), ((2 : Nat), Value.int IntKind.i64 i12),
                                               ((3 : Nat), Value.int IntKind.i64 i13), ((4 : Nat), Value.int IntKind.u32 i14)]),
                                             (w18.heap.size,
                                              [((0 : Nat), Value.int IntKind.i64 i19), ((1 : Nat), Value.string s20), ((2 : Nat), Value.int IntKind.i64 i21),
                                               ((3 : Nat), Value.int IntKind.i64 i22), ((4 : Nat), Value.int IntKind.u32 i23)])] →
                                           Rets Tryd.prog (56 : Nat) #[Value.slice p0 n0 c0, Value.int IntKind.i64 p1]
                                            ((((((w18.alloc
                                                       (Obj.cells
                                                        #[Value.int IntKind.i64 (0 : Int), Value.string { data := #[] }, Value.int IntKind.i64 (0 : Int),
                                                         Value.int IntKind.i64 (0 : Int), Value.int IntKind.u32 (0 : Int)]
                                                        (57 : Nat))).setCell
                                                     {block := w18.heap.size, off := (0 : Nat) } (Value.int IntKind.i64 i19)).setCell
                                                   {block := w18.heap.size, off := (1 : Nat) } (Value.string s20)).setCell
                                                 {block := w18.heap.size, off := (2 : Nat) } (Value.int IntKind.i64 i21)).setCell
                                               {block := w18.heap.size, off := (3 : Nat) } (Value.int IntKind.i64 i22)).setCell
                                             {block := w18.heap.size, off := (4 : Nat) } (Value.int IntKind.u32 i23))
                                            fun (v29 : Value) (w30 : World) =>
                                            ∃ (t31 : Bool),
                                             v29 = Value.bool t31 ∧
                                              Keeps
                                                ((((((w18.alloc
                                                           (Obj.cells
                                                            #[Value.int IntKind.i64 (0 : Int), Value.string { data := #[] }, Value.int IntKind.i64 (0 : Int),
                                                             Value.int IntKind.i64 (0 : Int), Value.int IntKind.u32 (0 : Int)]
                                                            (57 : Nat))).setCell
                                                         {block := w18.heap.size, off := (0 : Nat) } (Value.int IntKind.i64 i19)).setCell
                                                       {block := w18.heap.size, off := (1 : Nat) } (Value.string s20)).setCell
                                                     {block := w18.heap.size, off := (2 : Nat) } (Value.int IntKind.i64 i21)).setCell
                                                   {block := w18.heap.size, off := (3 : Nat) } (Value.int IntKind.i64 i22)).setCell
                                                 {block := w18.heap.size, off := (4 : Nat) } (Value.int IntKind.u32 i23))
                                                w30 [w9.heap.size, w18.heap.size] ∧
                                               bif t31 == (s28.toList == ({ data := #[(76 : UInt8), (77 : UInt8), (66 : UInt8), (82 : UInt8)] } : ByteArray).toList) then
                                                Known w30
                                                  [(w9.heap.size,
                                                    [((0 : Nat), Value.int IntKind.i64 i10), ((1 : Nat), Value.string s11), ((2 : Nat), Value.int IntKind.i64 i12),
                                                     ((3 : Nat), Value.int IntKind.i64 i13), ((4 : Nat), Value.int IntKind.u32 i14)]),
                                                   (w18.heap.size,
                                                    [((0 : Nat), Value.int IntKind.i64 i19), ((1 : Nat), Value.string s20), ((2 : Nat), Value.int IntKind.i64 i21),
                                                     ((3 : Nat), Value.int IntKind.i64 i22), ((4 : Nat), Value.int IntKind.u32 i23)])] →
                                                 Rets Tryd.prog (48 : Nat) #[] w30 fun (v32 : Value) (w33 : World) =>
                                                  ∃ (t34 : Bool),
                                                   v32 = Value.bool t34 ∧
                                                    Keeps w30 w33 [w9.heap.size, w18.heap.size] ∧
                                                     (Known w33
                                                       [(w9.heap.size,
                                                         [((0 : Nat), Value.int IntKind.i64 i10), ((1 : Nat), Value.string s11),
                                                          ((2 : Nat), Value.int IntKind.i64 i12), ((3 : Nat), Value.int IntKind.i64 i13),
                                                          ((4 : Nat), Value.int IntKind.u32 i14)]),
                                                        (w18.heap.size,
                                                         [((0 : Nat), Value.int IntKind.i64 i19), ((1 : Nat), Value.string s20),
                                                          ((2 : Nat), Value.int IntKind.i64 i21), ((3 : Nat), Value.int IntKind.i64 i22),
                                                          ((4 : Nat), Value.int IntKind.u32 i23)])] →
                                                      R (Ending.returned (Value.bool t34)) w33)
                                               else
                                                Known w30
                                                  [(w9.heap.size,
                                                    [((0 : Nat), Value.int IntKind.i64 i10), ((1 : Nat), Value.string s11), ((2 : Nat), Value.int IntKind.i64 i12),
                                                     ((3 : Nat), Value.int IntKind.i64 i13), ((4 : Nat), Value.int IntKind.u32 i14)]),
                                                   (w18.heap.size,
                                                    [((0 : Nat), Value.int IntKind.i64 i19), ((1 : Nat), Value.string s20), ((2 : Nat), Value.int IntKind.i64 i21),
                                                     ((3 : Nat), Value.int IntKind.i64 i22), ((4 : Nat), Value.int IntKind.u32 i23)])] →
                                                 R (Ending.returned (Value.bool false)) w30
                                         else
                                          Known
                                            ((((((w18.alloc
                                                       (Obj.cells
                                                        #[Value.int IntKind.i64 (0 : Int), Value.string { data := #[] }, Value.int IntKind.i64 (0 : Int),
                                                         Value.int IntKind.i64 (0 : Int), Value.int IntKind.u32 (0 : Int)]
                                                        (57 : Nat))).setCell
                                                     {block := w18.heap.size, off := (0 : Nat) } (Value.int IntKind.i64 i19)).setCell
                                                   {block := w18.heap.size, off := (1 : Nat) } (Value.string s20)).setCell
                                                 {block := w18.heap.size, off := (2 : Nat) } (Value.int IntKind.i64 i21)).setCell
                                               {block := w18.heap.size, off := (3 : Nat) } (Value.int IntKind.i64 i22)).setCell
                                             {block := w18.heap.size, off := (4 : Nat) } (Value.int IntKind.u32 i23))
                                            [(w9.heap.size,
                                              [((0 : Nat), Value.int IntKind.i64 i10), ((1 : Nat), Value.string s11), ((2 : Nat), Value.int IntKind.i64 i12),
                                               ((3 : Nat), Value.int IntKind.i64 i13), ((4 : Nat), Value.int IntKind.u32 i14)]),
                                             (w18.heap.size,
                                              [((0 : Nat), Value.int IntKind.i64 i19), ((1 : Nat), Value.string s20), ((2 : Nat), Value.int IntKind.i64 i21),
                                               ((3 : Nat), Value.int IntKind.i64 i22), ((4 : Nat), Value.int IntKind.u32 i23)])] →
                                           R (Ending.returned (Value.bool false))
                                            ((((((w18.alloc
                                                       (Obj.cells
                                                        #[Value.int IntKind.i64 (0 : Int), Value.string { data := #[] }, Value.int IntKind.i64 (0 : Int),
                                                         Value.int IntKind.i64 (0 : Int), Value.int IntKind.u32 (0 : Int)]
                                                        (57 : Nat))).setCell
                                                     {block := w18.heap.size, off := (0 : Nat) } (Value.int IntKind.i64 i19)).setCell
                                                   {block := w18.heap.size, off := (1 : Nat) } (Value.string s20)).setCell
                                                 {block := w18.heap.size, off := (2 : Nat) } (Value.int IntKind.i64 i21)).setCell
                                               {block := w18.heap.size, off := (3 : Nat) } (Value.int IntKind.i64 i22)).setCell
                                             {block := w18.heap.size, off := (4 : Nat) } (Value.int IntKind.u32 i23))
                                        else
                                         Known
                                           ((((((w18.alloc
                                                      (Obj.cells
                                                       #[Value.int IntKind.i64 (0 : Int), Value.string { data := #[] }, Value.int IntKind.i64 (0 : Int),
                                                        Value.int IntKind.i64 (0 : Int), Value.int IntKind.u32 (0 : Int)]
                                                       (57 : Nat))).setCell
                                                    {block := w18.heap.size, off := (0 : Nat) } (Value.int IntKind.i64 i19)).setCell
                                                  {block := w18.heap.size, off := (1 : Nat) } (Value.string s20)).setCell
                                                {block := w18.heap.size, off := (2 : Nat) } (Value.int IntKind.i64 i21)).setCell
                                              {block := w18.heap.size, off := (3 : Nat) } (Value.int IntKind.i64 i22)).setCell
                                            {block := w18.heap.size, off := (4 : Nat) } (Value.int IntKind.u32 i23))
                                           [(w9.heap.size,
                                             [((0 : Nat), Value.int IntKind.i64 i10), ((1 : Nat), Value.string s11), ((2 : Nat), Value.int IntKind.i64 i12),
                                              ((3 : Nat), Value.int IntKind.i64 i13), ((4 : Nat), Value.int IntKind.u32 i14)]),
                                            (w18.heap.size,
                                             [((0 : Nat), Value.int IntKind.i64 i19), ((1 : Nat), Value.string s20), ((2 : Nat), Value.int IntKind.i64 i21),
                                              ((3 : Nat), Value.int IntKind.i64 i22), ((4 : Nat), Value.int IntKind.u32 i23)])] →
                                          R (Ending.returned (Value.bool false))
                                           ((((((w18.alloc
                                                      (Obj.cells
                                                       #[Value.int IntKind.i64 (0 : Int), Value.string { data := #[] }, Value.int IntKind.i64 (0 : Int),
                                                        Value.int IntKind.i64 (0 : Int), Value.int IntKind.u32 (0 : Int)]
                                                       (57 : Nat))).setCell
                                                    {block := w18.heap.size, off := (0 : Nat) } (Value.int IntKind.i64 i19)).setCell
                                                  {block := w18.heap.size, off := (1 : Nat) } (Value.string s20)).setCell
                                                {block := w18.heap.size, off := (2 : Nat) } (Value.int IntKind.i64 i21)).setCell
                                              {block := w18.heap.size, off := (3 : Nat) } (Value.int IntKind.i64 i22)).setCell
                                            {block := w18.heap.size, off := (4 : Nat) } (Value.int IntKind.u32 i23))
                                       else
                                        Known
                                          ((((((w18.alloc
                                                     (Obj.cells
                                                      #[Value.int IntKind.i64 (0 : Int), Value.string { data := #[] }, Value.int IntKind.i64 (0 : Int),
                                                       Value.int IntKind.i64 (0 : Int), Value.int IntKind.u32 (0 : Int)]
                                                      (57 : Nat))).setCell
                                                   {block := w18.heap.size, off := (0 : Nat) } (Value.int IntKind.i64 i19)).setCell
                                                 {block := w18.heap.size, off := (1 : Nat) } (Value.string s20)).setCell
                                               {block := w18.heap.size, off := (2 : Nat) } (Value.int IntKind.i64 i21)).setCell
                                             {block := w18.heap.size, off := (3 : Nat) } (Value.int IntKind.i64 i22)).setCell
                                           {block := w18.heap.size, off := (4 : Nat) } (Value.int IntKind.u32 i23))
                                          [(w9.heap.size,
                                            [((0 : Nat), Value.int IntKind.i64 i10), ((1 : Nat), Value.string s11), ((2 : Nat), Value.int IntKind.i64 i12),
                                             ((3 : Nat), Value.int IntKind.i64 i13), ((4 : Nat), Value.int IntKind.u32 i14)]),
                                           (w18.heap.size,
                                            [((0 : Nat), Value.int IntKind.i64 i19), ((1 : Nat), Value.string s20), ((2 : Nat), Value.int IntKind.i64 i21),
                                             ((3 : Nat), Value.int IntKind.i64 i22), ((4 : Nat), Value.int IntKind.u32 i23)])] →
                                         R (Ending.returned (Value.bool false))
                                          ((((((w18.alloc
                                                     (Obj.cells
                                                      #[Value.int IntKind.i64 (0 : Int), Value.string { data := #[] }, Value.int IntKind.i64 (0 : Int),
                                                       Value.int IntKind.i64 (0 : Int), Value.int IntKind.u32 (0 : Int)]
                                                      (57 : Nat))).setCell
                                                   {block := w18.heap.size, off := (0 : Nat) } (Value.int IntKind.i64 i19)).setCell
                                                 {block := w18.heap.size, off := (1 : Nat) } (Value.string s20)).setCell
                                               {block := w18.heap.size, off := (2 : Nat) } (Value.int IntKind.i64 i21)).setCell
                                             {block := w18.heap.size, off := (3 : Nat) } (Value.int IntKind.i64 i22)).setCell
                                           {block := w18.heap.size, off := (4 : Nat) } (Value.int IntKind.u32 i23))
                               else
                                true = true ∧
                                 bif i10 == i19 && (s11.toList == s20.toList && (i12 == i21 && (i13 == i22 && i14 == i23))) then
                                  bif i15 == i24 then
                                   bif i16 == i25 then
                                    Known
                                      ((((((w18.alloc
                                                 (Obj.cells
                                                  #[Value.int IntKind.i64 (0 : Int), Value.string { data := #[] }, Value.int IntKind.i64 (0 : Int),
                                                   Value.int IntKind.i64 (0 : Int), Value.int IntKind.u32 (0 : Int)]
                                                  (57 : Nat))).setCell
                                               {block := w18.heap.size, off := (0 : Nat) } (Value.int IntKind.i64 i19)).setCell
                                             {block := w18.heap.size, off := (1 : Nat) } (Value.string s20)).setCell
                                           {block := w18.heap.size, off := (2 : Nat) } (Value.int IntKind.i64 i21)).setCell
                                         {block := w18.heap.size, off := (3 : Nat) } (Value.int IntKind.i64 i22)).setCell
                                       {block := w18.heap.size, off := (4 : Nat) } (Value.int IntKind.u32 i23))
                                      [(w9.heap.size,
                                        [((0 : Nat), Value.int IntKind.i64 i10), ((1 : Nat), Value.string s11), ((2 : Nat), Value.int IntKind.i64 i12),
                                         ((3 : Nat), Value.int IntKind.i64 i13), ((4 : Nat), Value.int IntKind.u32 i14)]),
                                       (w18.heap.size,
                                        [((0 : Nat), Value.int IntKind.i64 i19), ((1 : Nat), Value.string s20), ((2 : Nat), Value.int IntKind.i64 i21),
                                         ((3 : Nat), Value.int IntKind.i64 i22), ((4 : Nat), Value.int IntKind.u32 i23)])] →
                                     Rets Tryd.prog (56 : Nat) #[Value.slice p0 n0 c0, Value.int IntKind.i64 p1]
                                      ((((((w18.alloc
                                                 (Obj.cells
                                                  #[Value.int IntKind.i64 (0 : Int), Value.string { data := #[] }, Value.int IntKind.i64 (0 : Int),
                                                   Value.int IntKind.i64 (0 : Int), Value.int IntKind.u32 (0 : Int)]
                                                  (57 : Nat))).setCell
                                               {block := w18.heap.size, off := (0 : Nat) } (Value.int IntKind.i64 i19)).setCell
                                             {block := w18.heap.size, off := (1 : Nat) } (Value.string s20)).setCell
                                           {block := w18.heap.size, off := (2 : Nat) } (Value.int IntKind.i64 i21)).setCell
                                         {block := w18.heap.size, off := (3 : Nat) } (Value.int IntKind.i64 i22)).setCell
                                       {block := w18.heap.size, off := (4 : Nat) } (Value.int IntKind.u32 i23))
                                      fun (v35 : Value) (w36 : World) =>
                                      ∃ (t37 : Bool),
                                       v35 = Value.bool t37 ∧
                                        Keeps
                                          ((((((w18.alloc
                                                     (Obj.cells
                                                      #[Value.int IntKind.i64 (0 : Int), Value.string { data := #[] }, Value.int IntKind.i64 (0 : Int),
                                                       Value.int IntKind.i64 (0 : Int), Value.int IntKind.u32 (0 : Int)]
                                                      (57 : Nat))).setCell
                                                   {block := w18.heap.size, off := (0 : Nat) } (Value.int IntKind.i64 i19)).setCell
                                                 {block := w18.heap.size, off := (1 : Nat) } (Value.string s20)).setCell
                                               {block := w18.heap.size, off := (2 : Nat) } (Value.int IntKind.i64 i21)).setCell
                                             {block := w18.heap.size, off := (3 : Nat) } (Value.int IntKind.i64 i22)).setCell
                                           {block := w18.heap.size, off := (4 : Nat) } (Value.int IntKind.u32 i23))
                                          w36 [w9.heap.size, w18.heap.size] ∧
                                         bif t37 == false then
                                          Known w36
                                            [(w9.heap.size,
                                              [((0 : Nat), Value.int IntKind.i64 i10), ((1 : Nat), Value.string s11), ((2 : Nat), Value.int IntKind.i64 i12),
                                               ((3 : Nat), Value.int IntKind.i64 i13), ((4 : Nat), Value.int IntKind.u32 i14)]),
                                             (w18.heap.size,
                                              [((0 : Nat), Value.int IntKind.i64 i19), ((1 : Nat), Value.string s20), ((2 : Nat), Value.int IntKind.i64 i21),
                                               ((3 : Nat), Value.int IntKind.i64 i22), ((4 : Nat), Value.int IntKind.u32 i23)])] →
                                           Rets Tryd.prog (48 : Nat) #[] w36 fun (v38 : Value) (w39 : World) =>
                                            ∃ (t40 : Bool),
                                             v38 = Value.bool t40 ∧
                                              Keeps w36 w39 [w9.heap.size, w18.heap.size] ∧
                                               (Known w39
                                                 [(w9.heap.size,
                                                   [((0 : Nat), Value.int IntKind.i64 i10), ((1 : Nat), Value.string s11), ((2 : Nat), Value.int IntKind.i64 i12),
                                                    ((3 : Nat), Value.int IntKind.i64 i13), ((4 : Nat), Value.int IntKind.u32 i14)]),
                                                  (w18.heap.size,
                                                   [((0 : Nat), Value.int IntKind.i64 i19), ((1 : Nat), Value.string s20), ((2 : Nat), Value.int IntKind.i64 i21),
                                                    ((3 : Nat), Value.int IntKind.i64 i22), ((4 : Nat), Value.int IntKind.u32 i23)])] →
                                                R (Ending.returned (Value.bool t40)) w39)
                                         else
                                          Known w36
                                            [(w9.heap.size,
                                              [((0 : Nat), Value.int IntKind.i64 i10), ((1 : Nat), Value.string s11), ((2 : Nat), Value.int IntKind.i64 i12),
                                               ((3 : Nat), Value.int IntKind.i64 i13), ((4 : Nat), Value.int IntKind.u32 i14)]),
                                             (w18.heap.size,
                                              [((0 : Nat), Value.int IntKind.i64 i19), ((1 : Nat), Value.string s20), ((2 : Nat), Value.int IntKind.i64 i21),
                                               ((3 : Nat), Value.int IntKind.i64 i22), ((4 : Nat), Value.int IntKind.u32 i23)])] →
                                           R (Ending.returned (Value.bool false)) w36
                                   else
                                    Known
                                      ((((((w18.alloc
                                                 (Obj.cells
                                                  #[Value.int IntKind.i64 (0 : Int), Value.string { data := #[] }, Value.int IntKind.i64 (0 : Int),
                                                   Value.int IntKind.i64 (0 : Int), Value.int IntKind.u32 (0 : Int)]
                                                  (57 : Nat))).setCell
                                               {block := w18.heap.size, off := (0 : Nat) } (Value.int IntKind.i64 i19)).setCell
                                             {block := w18.heap.size, off := (1 : Nat) } (Value.string s20)).setCell
                                           {block := w18.heap.size, off := (2 : Nat) } (Value.int IntKind.i64 i21)).setCell
                                         {block := w18.heap.size, off := (3 : Nat) } (Value.int IntKind.i64 i22)).setCell
                                       {block := w18.heap.size, off := (4 : Nat) } (Value.int IntKind.u32 i23))
                                      [(w9.heap.size,
                                        [((0 : Nat), Value.int IntKind.i64 i10), ((1 : Nat), Value.string s11), ((2 : Nat), Value.int IntKind.i64 i12),
                                         ((3 : Nat), Value.int IntKind.i64 i13), ((4 : Nat), Value.int IntKind.u32 i14)]),
                                       (w18.heap.size,
                                        [((0 : Nat), Value.int IntKind.i64 i19), ((1 : Nat), Value.string s20), ((2 : Nat), Value.int IntKind.i64 i21),
                                         ((3 : Nat), Value.int IntKind.i64 i22), ((4 : Nat), Value.int IntKind.u32 i23)])] →
                                     R (Ending.returned (Value.bool false))
                                      ((((((w18.alloc
                                                 (Obj.cells
                                                  #[Value.int IntKind.i64 (0 : Int), Value.string { data := #[] }, Value.int IntKind.i64 (0 : Int),
                                                   Value.int IntKind.i64 (0 : Int), Value.int IntKind.u32 (0 : Int)]
                                                  (57 : Nat))).setCell
                                               {block := w18.heap.size, off := (0 : Nat) } (Value.int IntKind.i64 i19)).setCell
                                             {block := w18.heap.size, off := (1 : Nat) } (Value.string s20)).setCell
                                           {block := w18.heap.size, off := (2 : Nat) } (Value.int IntKind.i64 i21)).setCell
                                         {block := w18.heap.size, off := (3 : Nat) } (Value.int IntKind.i64 i22)).setCell
                                       {block := w18.heap.size, off := (4 : Nat) } (Value.int IntKind.u32 i23))
                                  else
                                   Known
                                     ((((((w18.alloc
                                                (Obj.cells
                                                 #[Value.int IntKind.i64 (0 : Int), Value.string { data := #[] }, Value.int IntKind.i64 (0 : Int),
                                                  Value.int IntKind.i64 (0 : Int), Value.int IntKind.u32 (0 : Int)]
                                                 (57 : Nat))).setCell
                                              {block := w18.heap.size, off := (0 : Nat) } (Value.int IntKind.i64 i19)).setCell
                                            {block := w18.heap.size, off := (1 : Nat) } (Value.string s20)).setCell
                                          {block := w18.heap.size, off := (2 : Nat) } (Value.int IntKind.i64 i21)).setCell
                                        {block := w18.heap.size, off := (3 : Nat) } (Value.int IntKind.i64 i22)).setCell
                                      {block := w18.heap.size, off := (4 : Nat) } (Value.int IntKind.u32 i23))
                                     [(w9.heap.size,
                                       [((0 : Nat), Value.int IntKind.i64 i10), ((1 : Nat), Value.string s11), ((2 : Nat), Value.int IntKind.i64 i12),
                                        ((3 : Nat), Value.int IntKind.i64 i13), ((4 : Nat), Value.int IntKind.u32 i14)]),
                                      (w18.heap.size,
                                       [((0 : Nat), Value.int IntKind.i64 i19), ((1 : Nat), Value.string s20), ((2 : Nat), Value.int IntKind.i64 i21),
                                        ((3 : Nat), Value.int IntKind.i64 i22), ((4 : Nat), Value.int IntKind.u32 i23)])] →
                                    R (Ending.returned (Value.bool false))
                                     ((((((w18.alloc
                                                (Obj.cells
                                                 #[Value.int IntKind.i64 (0 : Int), Value.string { data := #[] }, Value.int IntKind.i64 (0 : Int),
                                                  Value.int IntKind.i64 (0 : Int), Value.int IntKind.u32 (0 : Int)]
                                                 (57 : Nat))).setCell
                                              {block := w18.heap.size, off := (0 : Nat) } (Value.int IntKind.i64 i19)).setCell
                                            {block := w18.heap.size, off := (1 : Nat) } (Value.string s20)).setCell
                                          {block := w18.heap.size, off := (2 : Nat) } (Value.int IntKind.i64 i21)).setCell
                                        {block := w18.heap.size, off := (3 : Nat) } (Value.int IntKind.i64 i22)).setCell
                                      {block := w18.heap.size, off := (4 : Nat) } (Value.int IntKind.u32 i23))
                                 else
                                  Known
                                    ((((((w18.alloc
                                               (Obj.cells
                                                #[Value.int IntKind.i64 (0 : Int), Value.string { data := #[] }, Value.int IntKind.i64 (0 : Int),
                                                 Value.int IntKind.i64 (0 : Int), Value.int IntKind.u32 (0 : Int)]
                                                (57 : Nat))).setCell
                                             {block := w18.heap.size, off := (0 : Nat) } (Value.int IntKind.i64 i19)).setCell
                                           {block := w18.heap.size, off := (1 : Nat) } (Value.string s20)).setCell
                                         {block := w18.heap.size, off := (2 : Nat) } (Value.int IntKind.i64 i21)).setCell
                                       {block := w18.heap.size, off := (3 : Nat) } (Value.int IntKind.i64 i22)).setCell
                                     {block := w18.heap.size, off := (4 : Nat) } (Value.int IntKind.u32 i23))
                                    [(w9.heap.size,
                                      [((0 : Nat), Value.int IntKind.i64 i10), ((1 : Nat), Value.string s11), ((2 : Nat), Value.int IntKind.i64 i12),
                                       ((3 : Nat), Value.int IntKind.i64 i13), ((4 : Nat), Value.int IntKind.u32 i14)]),
                                     (w18.heap.size,
                                      [((0 : Nat), Value.int IntKind.i64 i19), ((1 : Nat), Value.string s20), ((2 : Nat), Value.int IntKind.i64 i21),
                                       ((3 : Nat), Value.int IntKind.i64 i22), ((4 : Nat), Value.int IntKind.u32 i23)])] →
                                   R (Ending.returned (Value.bool false))
                                    ((((((w18.alloc
                                               (Obj.cells
                                                #[Value.int IntKind.i64 (0 : Int), Value.string { data := #[] }, Value.int IntKind.i64 (0 : Int),
                                                 Value.int IntKind.i64 (0 : Int), Value.int IntKind.u32 (0 : Int)]
                                                (57 : Nat))).setCell
                                             {block := w18.heap.size, off := (0 : Nat) } (Value.int IntKind.i64 i19)).setCell
                                           {block := w18.heap.size, off := (1 : Nat) } (Value.string s20)).setCell
                                         {block := w18.heap.size, off := (2 : Nat) } (Value.int IntKind.i64 i21)).setCell
                                       {block := w18.heap.size, off := (3 : Nat) } (Value.int IntKind.i64 i22)).setCell
                                     {block := w18.heap.size, off := (4 : Nat) } (Value.int IntKind.u32 i23))
                             else
                              true = true ∧
                               bif i10 == i19 && (s11.toList == s20.toList && (i12 == i21 && (i13 == i22 && i14 == i23))) then
                                bif i15 == i24 then
                                 bif i16 == i25 then
                                  Known
                                    ((((((w18.alloc
                                               (Obj.cells
                                                #[Value.int IntKind.i64 (0 : Int), Value.string { data := #[] }, Value.int IntKind.i64 (0 : Int),
                                                 Value.int IntKind.i64 (0 : Int), Value.int IntKind.u32 (0 : Int)]
                                                (57 : Nat))).setCell
                                             {block := w18.heap.size, off := (0 : Nat) } (Value.int IntKind.i64 i19)).setCell
                                           {block := w18.heap.size, off := (1 : Nat) } (Value.string s20)).setCell
                                         {block := w18.heap.size, off := (2 : Nat) } (Value.int IntKind.i64 i21)).setCell
                                       {block := w18.heap.size, off := (3 : Nat) } (Value.int IntKind.i64 i22)).setCell
                                     {block := w18.heap.size, off := (4 : Nat) } (Value.int IntKind.u32 i23))
                                    [(w9.heap.size,
                                      [((0 : Nat), Value.int IntKind.i64 i10), ((1 : Nat), Value.string s11), ((2 : Nat), Value.int IntKind.i64 i12),
                                       ((3 : Nat), Value.int IntKind.i64 i13), ((4 : Nat), Value.int IntKind.u32 i14)]),
                                     (w18.heap.size,
                                      [((0 : Nat), Value.int IntKind.i64 i19), ((1 : Nat), Value.string s20), ((2 : Nat), Value.int IntKind.i64 i21),
                                       ((3 : Nat), Value.int IntKind.i64 i22), ((4 : Nat), Value.int IntKind.u32 i23)])] →
                                   Rets Tryd.prog (56 : Nat) #[Value.slice p0 n0 c0, Value.int IntKind.i64 p1]
                                    ((((((w18.alloc
                                               (Obj.cells
                                                #[Value.int IntKind.i64 (0 : Int), Value.string { data := #[] }, Value.int IntKind.i64 (0 : Int),
                                                 Value.int IntKind.i64 (0 : Int), Value.int IntKind.u32 (0 : Int)]
                                                (57 : Nat))).setCell
                                             {block := w18.heap.size, off := (0 : Nat) } (Value.int IntKind.i64 i19)).setCell
                                           {block := w18.heap.size, off := (1 : Nat) } (Value.string s20)).setCell
                                         {block := w18.heap.size, off := (2 : Nat) } (Value.int IntKind.i64 i21)).setCell
                                       {block := w18.heap.size, off := (3 : Nat) } (Value.int IntKind.i64 i22)).setCell
                                     {block := w18.heap.size, off := (4 : Nat) } (Value.int IntKind.u32 i23))
                                    fun (v41 : Value) (w42 : World) =>
                                    ∃ (t43 : Bool),
                                     v41 = Value.bool t43 ∧
                                      Keeps
                                        ((((((w18.alloc
                                                   (Obj.cells
                                                    #[Value.int IntKind.i64 (0 : Int), Value.string { data := #[] }, Value.int IntKind.i64 (0 : Int),
                                                     Value.int IntKind.i64 (0 : Int), Value.int IntKind.u32 (0 : Int)]
                                                    (57 : Nat))).setCell
                                                 {block := w18.heap.size, off := (0 : Nat) } (Value.int IntKind.i64 i19)).setCell
                                               {block := w18.heap.size, off := (1 : Nat) } (Value.string s20)).setCell
                                             {block := w18.heap.size, off := (2 : Nat) } (Value.int IntKind.i64 i21)).setCell
                                           {block := w18.heap.size, off := (3 : Nat) } (Value.int IntKind.i64 i22)).setCell
                                         {block := w18.heap.size, off := (4 : Nat) } (Value.int IntKind.u32 i23))
                                        w42 [w9.heap.size, w18.heap.size] ∧
                                       bif t43 == false then
                                        Known w42
                                          [(w9.heap.size,
                                            [((0 : Nat), Value.int IntKind.i64 i10), ((1 : Nat), Value.string s11), ((2 : Nat), Value.int IntKind.i64 i12),
                                             ((3 : Nat), Value.int IntKind.i64 i13), ((4 : Nat), Value.int IntKind.u32 i14)]),
                                           (w18.heap.size,
                                            [((0 : Nat), Value.int IntKind.i64 i19), ((1 : Nat), Value.string s20), ((2 : Nat), Value.int IntKind.i64 i21),
                                             ((3 : Nat), Value.int IntKind.i64 i22), ((4 : Nat), Value.int IntKind.u32 i23)])] →
                                         Rets Tryd.prog (48 : Nat) #[] w42 fun (v44 : Value) (w45 : World) =>
                                          ∃ (t46 : Bool),
                                           v44 = Value.bool t46 ∧
                                            Keeps w42 w45 [w9.heap.size, w18.heap.size] ∧
                                             (Known w45
                                               [(w9.heap.size,
                                                 [((0 : Nat), Value.int IntKind.i64 i10), ((1 : Nat), Value.string s11), ((2 : Nat), Value.int IntKind.i64 i12),
                                                  ((3 : Nat), Value.int IntKind.i64 i13), ((4 : Nat), Value.int IntKind.u32 i14)]),
                                                (w18.heap.size,
                                                 [((0 : Nat), Value.int IntKind.i64 i19), ((1 : Nat), Value.string s20), ((2 : Nat), Value.int IntKind.i64 i21),
                                                  ((3 : Nat), Value.int IntKind.i64 i22), ((4 : Nat), Value.int IntKind.u32 i23)])] →
                                              R (Ending.returned (Value.bool t46)) w45)
                                       else
                                        Known w42
                                          [(w9.heap.size,
                                            [((0 : Nat), Value.int IntKind.i64 i10), ((1 : Nat), Value.string s11), ((2 : Nat), Value.int IntKind.i64 i12),
                                             ((3 : Nat), Value.int IntKind.i64 i13), ((4 : Nat), Value.int IntKind.u32 i14)]),
                                           (w18.heap.size,
                                            [((0 : Nat), Value.int IntKind.i64 i19), ((1 : Nat), Value.string s20), ((2 : Nat), Value.int IntKind.i64 i21),
                                             ((3 : Nat), Value.int IntKind.i64 i22), ((4 : Nat), Value.int IntKind.u32 i23)])] →
                                         R (Ending.returned (Value.bool false)) w42
                                 else
                                  Known
                                    ((((((w18.alloc
                                               (Obj.cells
                                                #[Value.int IntKind.i64 (0 : Int), Value.string { data := #[] }, Value.int IntKind.i64 (0 : Int),
                                                 Value.int IntKind.i64 (0 : Int), Value.int IntKind.u32 (0 : Int)]
                                                (57 : Nat))).setCell
                                             {block := w18.heap.size, off := (0 : Nat) } (Value.int IntKind.i64 i19)).setCell
                                           {block := w18.heap.size, off := (1 : Nat) } (Value.string s20)).setCell
                                         {block := w18.heap.size, off := (2 : Nat) } (Value.int IntKind.i64 i21)).setCell
                                       {block := w18.heap.size, off := (3 : Nat) } (Value.int IntKind.i64 i22)).setCell
                                     {block := w18.heap.size, off := (4 : Nat) } (Value.int IntKind.u32 i23))
                                    [(w9.heap.size,
                                      [((0 : Nat), Value.int IntKind.i64 i10), ((1 : Nat), Value.string s11), ((2 : Nat), Value.int IntKind.i64 i12),
                                       ((3 : Nat), Value.int IntKind.i64 i13), ((4 : Nat), Value.int IntKind.u32 i14)]),
                                     (w18.heap.size,
                                      [((0 : Nat), Value.int IntKind.i64 i19), ((1 : Nat), Value.string s20), ((2 : Nat), Value.int IntKind.i64 i21),
                                       ((3 : Nat), Value.int IntKind.i64 i22), ((4 : Nat), Value.int IntKind.u32 i23)])] →
                                   R (Ending.returned (Value.bool false))
                                    ((((((w18.alloc
                                               (Obj.cells
                                                #[Value.int IntKind.i64 (0 : Int), Value.string { data := #[] }, Value.int IntKind.i64 (0 : Int),
                                                 Value.int IntKind.i64 (0 : Int), Value.int IntKind.u32 (0 : Int)]
                                                (57 : Nat))).setCell
                                             {block := w18.heap.size, off := (0 : Nat) } (Value.int IntKind.i64 i19)).setCell
                                           {block := w18.heap.size, off := (1 : Nat) } (Value.string s20)).setCell
                                         {block := w18.heap.size, off := (2 : Nat) } (Value.int IntKind.i64 i21)).setCell
                                       {block := w18.heap.size, off := (3 : Nat) } (Value.int IntKind.i64 i22)).setCell
                                     {block := w18.heap.size, off := (4 : Nat) } (Value.int IntKind.u32 i23))
                                else
                                 Known
                                   ((((((w18.alloc
                                              (Obj.cells
                                               #[Value.int IntKind.i64 (0 : Int), Value.string { data := #[] }, Value.int IntKind.i64 (0 : Int),
                                                Value.int IntKind.i64 (0 : Int), Value.int IntKind.u32 (0 : Int)]
                                               (57 : Nat))).setCell
                                            {block := w18.heap.size, off := (0 : Nat) } (Value.int IntKind.i64 i19)).setCell
                                          {block := w18.heap.size, off := (1 : Nat) } (Value.string s20)).setCell
                                        {block := w18.heap.size, off := (2 : Nat) } (Value.int IntKind.i64 i21)).setCell
                                      {block := w18.heap.size, off := (3 : Nat) } (Value.int IntKind.i64 i22)).setCell
                                    {block := w18.heap.size, off := (4 : Nat) } (Value.int IntKind.u32 i23))
                                   [(w9.heap.size,
                                     [((0 : Nat), Value.int IntKind.i64 i10), ((1 : Nat), Value.string s11), ((2 : Nat), Value.int IntKind.i64 i12),
                                      ((3 : Nat), Value.int IntKind.i64 i13), ((4 : Nat), Value.int IntKind.u32 i14)]),
                                    (w18.heap.size,
                                     [((0 : Nat), Value.int IntKind.i64 i19), ((1 : Nat), Value.string s20), ((2 : Nat), Value.int IntKind.i64 i21),
                                      ((3 : Nat), Value.int IntKind.i64 i22), ((4 : Nat), Value.int IntKind.u32 i23)])] →
                                  R (Ending.returned (Value.bool false))
                                   ((((((w18.alloc
                                              (Obj.cells
                                               #[Value.int IntKind.i64 (0 : Int), Value.string { data := #[] }, Value.int IntKind.i64 (0 : Int),
                                                Value.int IntKind.i64 (0 : Int), Value.int IntKind.u32 (0 : Int)]
                                               (57 : Nat))).setCell
                                            {block := w18.heap.size, off := (0 : Nat) } (Value.int IntKind.i64 i19)).setCell
                                          {block := w18.heap.size, off := (1 : Nat) } (Value.string s20)).setCell
                                        {block := w18.heap.size, off := (2 : Nat) } (Value.int IntKind.i64 i21)).setCell
                                      {block := w18.heap.size, off := (3 : Nat) } (Value.int IntKind.i64 i22)).setCell
                                    {block := w18.heap.size, off := (4 : Nat) } (Value.int IntKind.u32 i23))
                               else
                                Known
                                  ((((((w18.alloc
                                             (Obj.cells
                                              #[Value.int IntKind.i64 (0 : Int), Value.string { data := #[] }, Value.int IntKind.i64 (0 : Int),
                                               Value.int IntKind.i64 (0 : Int), Value.int IntKind.u32 (0 : Int)]
                                              (57 : Nat))).setCell
                                           {block := w18.heap.size, off := (0 : Nat) } (Value.int IntKind.i64 i19)).setCell
                                         {block := w18.heap.size, off := (1 : Nat) } (Value.string s20)).setCell
                                       {block := w18.heap.size, off := (2 : Nat) } (Value.int IntKind.i64 i21)).setCell
                                     {block := w18.heap.size, off := (3 : Nat) } (Value.int IntKind.i64 i22)).setCell
                                   {block := w18.heap.size, off := (4 : Nat) } (Value.int IntKind.u32 i23))
                                  [(w9.heap.size,
                                    [((0 : Nat), Value.int IntKind.i64 i10), ((1 : Nat), Value.string s11), ((2 : Nat), Value.int IntKind.i64 i12),
                                     ((3 : Nat), Value.int IntKind.i64 i13), ((4 : Nat), Value.int IntKind.u32 i14)]),
                                   (w18.heap.size,
                                    [((0 : Nat), Value.int IntKind.i64 i19), ((1 : Nat), Value.string s20), ((2 : Nat), Value.int IntKind.i64 i21),
                                     ((3 : Nat), Value.int IntKind.i64 i22), ((4 : Nat), Value.int IntKind.u32 i23)])] →
                                 R (Ending.returned (Value.bool false))
                                  ((((((w18.alloc
                                             (Obj.cells
                                              #[Value.int IntKind.i64 (0 : Int), Value.string { data := #[] }, Value.int IntKind.i64 (0 : Int),
                                               Value.int IntKind.i64 (0 : Int), Value.int IntKind.u32 (0 : Int)]
                                              (57 : Nat))).setCell
                                           {block := w18.heap.size, off := (0 : Nat) } (Value.int IntKind.i64 i19)).setCell
                                         {block := w18.heap.size, off := (1 : Nat) } (Value.string s20)).setCell
                                       {block := w18.heap.size, off := (2 : Nat) } (Value.int IntKind.i64 i21)).setCell
                                     {block := w18.heap.size, off := (3 : Nat) } (Value.int IntKind.i64 i22)).setCell
                                   {block := w18.heap.size, off := (4 : Nat) } (Value.int IntKind.u32 i23))
                            else
                             true = true ∧
                              bif i10 == i19 && (s11.toList == s20.toList && (i12 == i21 && (i13 == i22 && i14 == i23))) then
                               bif i15 == i24 then
                                bif i16 == i25 then
                                 Known
                                   ((((((w18.alloc
                                              (Obj.cells
                                               #[Value.int IntKind.i64 (0 : Int), Value.string { data := #[] }, Value.int IntKind.i64 (0 : Int),
                                                Value.int IntKind.i64 (0 : Int), Value.int IntKind.u32 (0 : Int)]
                                               (57 : Nat))).setCell
                                            {block := w18.heap.size, off := (0 : Nat) } (Value.int IntKind.i64 i19)).setCell
                                          {block := w18.heap.size, off := (1 : Nat) } (Value.string s20)).setCell
                                        {block := w18.heap.size, off := (2 : Nat) } (Value.int IntKind.i64 i21)).setCell
                                      {block := w18.heap.size, off := (3 : Nat) } (Value.int IntKind.i64 i22)).setCell
                                    {block := w18.heap.size, off := (4 : Nat) } (Value.int IntKind.u32 i23))
                                   [(w9.heap.size,
                                     [((0 : Nat), Value.int IntKind.i64 i10), ((1 : Nat), Value.string s11), ((2 : Nat), Value.int IntKind.i64 i12),
                                      ((3 : Nat), Value.int IntKind.i64 i13), ((4 : Nat), Value.int IntKind.u32 i14)]),
                                    (w18.heap.size,
                                     [((0 : Nat), Value.int IntKind.i64 i19), ((1 : Nat), Value.string s20), ((2 : Nat), Value.int IntKind.i64 i21),
                                      ((3 : Nat), Value.int IntKind.i64 i22), ((4 : Nat), Value.int IntKind.u32 i23)])] →
                                  Rets Tryd.prog (56 : Nat) #[Value.slice p0 n0 c0, Value.int IntKind.i64 p1]
                                   ((((((w18.alloc
                                              (Obj.cells
                                               #[Value.int IntKind.i64 (0 : Int), Value.string { data := #[] }, Value.int IntKind.i64 (0 : Int),
                                                Value.int IntKind.i64 (0 : Int), Value.int IntKind.u32 (0 : Int)]
                                               (57 : Nat))).setCell
                                            {block := w18.heap.size, off := (0 : Nat) } (Value.int IntKind.i64 i19)).setCell
                                          {block := w18.heap.size, off := (1 : Nat) } (Value.string s20)).setCell
                                        {block := w18.heap.size, off := (2 : Nat) } (Value.int IntKind.i64 i21)).setCell
                                      {block := w18.heap.size, off := (3 : Nat) } (Value.int IntKind.i64 i22)).setCell
                                    {block := w18.heap.size, off := (4 : Nat) } (Value.int IntKind.u32 i23))
                                   fun (v47 : Value) (w48 : World) =>
                                   ∃ (t49 : Bool),
                                    v47 = Value.bool t49 ∧
                                     Keeps
                                       ((((((w18.alloc
                                                  (Obj.cells
                                                   #[Value.int IntKind.i64 (0 : Int), Value.string { data := #[] }, Value.int IntKind.i64 (0 : Int),
                                                    Value.int IntKind.i64 (0 : Int), Value.int IntKind.u32 (0 : Int)]
                                                   (57 : Nat))).setCell
                                                {block := w18.heap.size, off := (0 : Nat) } (Value.int IntKind.i64 i19)).setCell
                                              {block := w18.heap.size, off := (1 : Nat) } (Value.string s20)).setCell
                                            {block := w18.heap.size, off := (2 : Nat) } (Value.int IntKind.i64 i21)).setCell
                                          {block := w18.heap.size, off := (3 : Nat) } (Value.int IntKind.i64 i22)).setCell
                                        {block := w18.heap.size, off := (4 : Nat) } (Value.int IntKind.u32 i23))
                                       w48 [w9.heap.size, w18.heap.size] ∧
                                      bif t49 == false then
                                       Known w48
                                         [(w9.heap.size,
                                           [((0 : Nat), Value.int IntKind.i64 i10), ((1 : Nat), Value.string s11), ((2 : Nat), Value.int IntKind.i64 i12),
                                            ((3 : Nat), Value.int IntKind.i64 i13), ((4 : Nat), Value.int IntKind.u32 i14)]),
                                          (w18.heap.size,
                                           [((0 : Nat), Value.int IntKind.i64 i19), ((1 : Nat), Value.string s20), ((2 : Nat), Value.int IntKind.i64 i21),
                                            ((3 : Nat), Value.int IntKind.i64 i22), ((4 : Nat), Value.int IntKind.u32 i23)])] →
                                        Rets Tryd.prog (48 : Nat) #[] w48 fun (v50 : Value) (w51 : World) =>
                                         ∃ (t52 : Bool),
                                          v50 = Value.bool t52 ∧
                                           Keeps w48 w51 [w9.heap.size, w18.heap.size] ∧
                                            (Known w51
                                              [(w9.heap.size,
                                                [((0 : Nat), Value.int IntKind.i64 i10), ((1 : Nat), Value.string s11), ((2 : Nat), Value.int IntKind.i64 i12),
                                                 ((3 : Nat), Value.int IntKind.i64 i13), ((4 : Nat), Value.int IntKind.u32 i14)]),
                                               (w18.heap.size,
                                                [((0 : Nat), Value.int IntKind.i64 i19), ((1 : Nat), Value.string s20), ((2 : Nat), Value.int IntKind.i64 i21),
                                                 ((3 : Nat), Value.int IntKind.i64 i22), ((4 : Nat), Value.int IntKind.u32 i23)])] →
                                             R (Ending.returned (Value.bool t52)) w51)
                                      else
                                       Known w48
                                         [(w9.heap.size,
                                           [((0 : Nat), Value.int IntKind.i64 i10), ((1 : Nat), Value.string s11), ((2 : Nat), Value.int IntKind.i64 i12),
                                            ((3 : Nat), Value.int IntKind.i64 i13), ((4 : Nat), Value.int IntKind.u32 i14)]),
                                          (w18.heap.size,
                                           [((0 : Nat), Value.int IntKind.i64 i19), ((1 : Nat), Value.string s20), ((2 : Nat), Value.int IntKind.i64 i21),
                                            ((3 : Nat), Value.int IntKind.i64 i22), ((4 : Nat), Value.int IntKind.u32 i23)])] →
                                        R (Ending.returned (Value.bool false)) w48
                                else
                                 Known
                                   ((((((w18.alloc
                                              (Obj.cells
                                               #[Value.int IntKind.i64 (0 : Int), Value.string { data := #[] }, Value.int IntKind.i64 (0 : Int),
                                                Value.int IntKind.i64 (0 : Int), Value.int IntKind.u32 (0 : Int)]
                                               (57 : Nat))).setCell
                                            {block := w18.heap.size, off := (0 : Nat) } (Value.int IntKind.i64 i19)).setCell
                                          {block := w18.heap.size, off := (1 : Nat) } (Value.string s20)).setCell
                                        {block := w18.heap.size, off := (2 : Nat) } (Value.int IntKind.i64 i21)).setCell
                                      {block := w18.heap.size, off := (3 : Nat) } (Value.int IntKind.i64 i22)).setCell
                                    {block := w18.heap.size, off := (4 : Nat) } (Value.int IntKind.u32 i23))
                                   [(w9.heap.size,
                                     [((0 : Nat), Value.int IntKind.i64 i10), ((1 : Nat), Value.string s11), ((2 : Nat), Value.int IntKind.i64 i12),
                                      ((3 : Nat), Value.int IntKind.i64 i13), ((4 : Nat), Value.int IntKind.u32 i14)]),
                                    (w18.heap.size,
                                     [((0 : Nat), Value.int IntKind.i64 i19), ((1 : Nat), Value.string s20), ((2 : Nat), Value.int IntKind.i64 i21),
                                      ((3 : Nat), Value.int IntKind.i64 i22), ((4 : Nat), Value.int IntKind.u32 i23)])] →
                                  R (Ending.returned (Value.bool false))
                                   ((((((w18.alloc
                                              (Obj.cells
                                               #[Value.int IntKind.i64 (0 : Int), Value.string { data := #[] }, Value.int IntKind.i64 (0 : Int),
                                                Value.int IntKind.i64 (0 : Int), Value.int IntKind.u32 (0 : Int)]
                                               (57 : Nat))).setCell
                                            {block := w18.heap.size, off := (0 : Nat) } (Value.int IntKind.i64 i19)).setCell
                                          {block := w18.heap.size, off := (1 : Nat) } (Value.string s20)).setCell
                                        {block := w18.heap.size, off := (2 : Nat) } (Value.int IntKind.i64 i21)).setCell
                                      {block := w18.heap.size, off := (3 : Nat) } (Value.int IntKind.i64 i22)).setCell
                                    {block := w18.heap.size, off := (4 : Nat) } (Value.int IntKind.u32 i23))
                               else
                                Known
                                  ((((((w18.alloc
                                             (Obj.cells
                                              #[Value.int IntKind.i64 (0 : Int), Value.string { data := #[] }, Value.int IntKind.i64 (0 : Int),
                                               Value.int IntKind.i64 (0 : Int), Value.int IntKind.u32 (0 : Int)]
                                              (57 : Nat))).setCell
                                           {block := w18.heap.size, off := (0 : Nat) } (Value.int IntKind.i64 i19)).setCell
                                         {block := w18.heap.size, off := (1 : Nat) } (Value.string s20)).setCell
                                       {block := w18.heap.size, off := (2 : Nat) } (Value.int IntKind.i64 i21)).setCell
                                     {block := w18.heap.size, off := (3 : Nat) } (Value.int IntKind.i64 i22)).setCell
                                   {block := w18.heap.size, off := (4 : Nat) } (Value.int IntKind.u32 i23))
                                  [(w9.heap.size,
                                    [((0 : Nat), Value.int IntKind.i64 i10), ((1 : Nat), Value.string s11), ((2 : Nat), Value.int IntKind.i64 i12),
                                     ((3 : Nat), Value.int IntKind.i64 i13), ((4 : Nat), Value.int IntKind.u32 i14)]),
                                   (w18.heap.size,
                                    [((0 : Nat), Value.int IntKind.i64 i19), ((1 : Nat), Value.string s20), ((2 : Nat), Value.int IntKind.i64 i21),
                                     ((3 : Nat), Value.int IntKind.i64 i22), ((4 : Nat), Value.int IntKind.u32 i23)])] →
                                 R (Ending.returned (Value.bool false))
                                  ((((((w18.alloc
                                             (Obj.cells
                                              #[Value.int IntKind.i64 (0 : Int), Value.string { data := #[] }, Value.int IntKind.i64 (0 : Int),
                                               Value.int IntKind.i64 (0 : Int), Value.int IntKind.u32 (0 : Int)]
                                              (57 : Nat))).setCell
                                           {block := w18.heap.size, off := (0 : Nat) } (Value.int IntKind.i64 i19)).setCell
                                         {block := w18.heap.size, off := (1 : Nat) } (Value.string s20)).setCell
                                       {block := w18.heap.size, off := (2 : Nat) } (Value.int IntKind.i64 i21)).setCell
                                     {block := w18.heap.size, off := (3 : Nat) } (Value.int IntKind.i64 i22)).setCell
                                   {block := w18.heap.size, off := (4 : Nat) } (Value.int IntKind.u32 i23))
                              else
                               Known
                                 ((((((w18.alloc
                                            (Obj.cells
                                             #[Value.int IntKind.i64 (0 : Int), Value.string { data := #[] }, Value.int IntKind.i64 (0 : Int), Value.int IntKind.i64 (0 : Int),
                                              Value.int IntKind.u32 (0 : Int)]
                                             (57 : Nat))).setCell
                                          {block := w18.heap.size, off := (0 : Nat) } (Value.int IntKind.i64 i19)).setCell
                                        {block := w18.heap.size, off := (1 : Nat) } (Value.string s20)).setCell
                                      {block := w18.heap.size, off := (2 : Nat) } (Value.int IntKind.i64 i21)).setCell
                                    {block := w18.heap.size, off := (3 : Nat) } (Value.int IntKind.i64 i22)).setCell
                                  {block := w18.heap.size, off := (4 : Nat) } (Value.int IntKind.u32 i23))
                                 [(w9.heap.size,
                                   [((0 : Nat), Value.int IntKind.i64 i10), ((1 : Nat), Value.string s11), ((2 : Nat), Value.int IntKind.i64 i12),
                                    ((3 : Nat), Value.int IntKind.i64 i13), ((4 : Nat), Value.int IntKind.u32 i14)]),
                                  (w18.heap.size,
                                   [((0 : Nat), Value.int IntKind.i64 i19), ((1 : Nat), Value.string s20), ((2 : Nat), Value.int IntKind.i64 i21),
                                    ((3 : Nat), Value.int IntKind.i64 i22), ((4 : Nat), Value.int IntKind.u32 i23)])] →
                                R (Ending.returned (Value.bool false))
                                 ((((((w18.alloc
                                            (Obj.cells
                                             #[Value.int IntKind.i64 (0 : Int), Value.string { data := #[] }, Value.int IntKind.i64 (0 : Int), Value.int IntKind.i64 (0 : Int),
                                              Value.int IntKind.u32 (0 : Int)]
                                             (57 : Nat))).setCell
                                          {block := w18.heap.size, off := (0 : Nat) } (Value.int IntKind.i64 i19)).setCell
                                        {block := w18.heap.size, off := (1 : Nat) } (Value.string s20)).setCell
                                      {block := w18.heap.size, off := (2 : Nat) } (Value.int IntKind.i64 i21)).setCell
                                    {block := w18.heap.size, off := (3 : Nat) } (Value.int IntKind.i64 i22)).setCell
                                  {block := w18.heap.size, off := (4 : Nat) } (Value.int IntKind.u32 i23)))
theorem vcTryd9 (p0 : Option Addr) (n0 c0 : Nat) (p1 : Int) (w : World) (R : Ending → World → Prop) : SX.vcFn Tryd.prog [] Tryd.f9 [.v (.slice p0 n0 c0), .v (.int .i64 p1)] [] w R = VCTryd9 p0 n0 c0 p1 w R := by kernel_rfl
def VCTryd10 (m : Int) (s : ByteArray) (z a u : Int) (q1 : Option Addr) (n1 c1 : Nat) (q2 : Option Addr) (n2 c2 : Nat) (w : World) (R : Ending → World → Prop) : Prop :=
bif decide ((↑s.size : Int) > (300 : Int)) then
 Known (w.alloc (Obj.cells #[Value.int IntKind.i64 m, Value.string s, Value.int IntKind.i64 z, Value.int IntKind.i64 a, Value.int IntKind.u32 u] (54 : Nat)))
 [(w.heap.size, [((0 : Nat), Value.int IntKind.i64 m), ((1 : Nat), Value.string s), ((2 : Nat), Value.int IntKind.i64 z), ((3 : Nat), Value.int IntKind.i64 a), ((4 : Nat), Value.int IntKind.u32 u)])] →
 Rets Tryd.prog (48 : Nat) #[] (w.alloc (Obj.cells #[Value.int IntKind.i64 m, Value.string s, Value.int IntKind.i64 z, Value.int IntKind.i64 a, Value.int IntKind.u32 u] (54 : Nat))) fun (v0 : Value) (w1 : World) =>
 ∃ (t2 : Bool),
 v0 = Value.bool t2 ∧
 Keeps (w.alloc (Obj.cells #[Value.int IntKind.i64 m, Value.string s, Value.int IntKind.i64 z, Value.int IntKind.i64 a, Value.int IntKind.u32 u] (54 : Nat))) w1 [w.heap.size] ∧
 (Known w1
 [(w.heap.size, [((0 : Nat), Value.int IntKind.i64 m), ((1 : Nat), Value.string s), ((2 : Nat), Value.int IntKind.i64 z), ((3 : Nat), Value.int IntKind.i64 a), ((4 : Nat), Value.int IntKind.u32 u)])] →
 R (Ending.returned (Value.bool t2)) w1)
else
 bif decide ((↑n1 : Int) > (500 : Int)) then
 Known (w.alloc (Obj.cells #[Value.int IntKind.i64 m, Value.string s, Value.int IntKind.i64 z, Value.int IntKind.i64 a, Value.int IntKind.u32 u] (54 : Nat)))
 [(w.heap.size, [((0 : Nat), Value.int IntKind.i64 m), ((1 : Nat), Value.string s), ((2 : Nat), Value.int IntKind.i64 z), ((3 : Nat), Value.int IntKind.i64 a), ((4 : Nat), Value.int IntKind.u32 u)])] →
 Rets Tryd.prog (48 : Nat) #[] (w.alloc (Obj.cells #[Value.int IntKind.i64 m, Value.string s, Value.int IntKind.i64 z, Value.int IntKind.i64 a, Value.int IntKind.u32 u] (54 : Nat))) fun (v3 : Value) (w4 : World) =>
 ∃ (t5 : Bool),
 v3 = Value.bool t5 ∧
 Keeps (w.alloc (Obj.cells #[Value.int IntKind.i64 m, Value.string s, Value.int IntKind.i64 z, Value.int IntKind.i64 a, Value.int IntKind.u32 u] (54 : Nat))) w4 [w.heap.size] ∧
 (Known w4
 [(w.heap.size, [((0 : Nat), Value.int IntKind.i64 m), ((1 : Nat), Value.string s), ((2 : Nat), Value.int IntKind.i64 z), ((3 : Nat), Value.int IntKind.i64 a), ((4 : Nat), Value.int IntKind.u32 u)])] →
 R (Ending.returned (Value.bool t5)) w4)
 else
 bif decide ((↑n2 : Int) > (500 : Int)) then
 Known (w.alloc (Obj.cells #[Value.int IntKind.i64 m, Value.string s, Value.int IntKind.i64 z, Value.int IntKind.i64 a, Value.int IntKind.u32 u] (54 : Nat)))
 [(w.heap.size, [((0 : Nat), Value.int IntKind.i64 m), ((1 : Nat), Value.string s), ((2 : Nat), Value.int IntKind.i64 z), ((3 : Nat), Value.int IntKind.i64 a), ((4 : Nat), Value.int IntKind.u32 u)])] →
 Rets Tryd.prog (48 : Nat) #[] (w.alloc (Obj.cells #[Value.int IntKind.i64 m, Value.string s, Value.int IntKind.i64 z, Value.int IntKind.i64 a, Value.int IntKind.u32 u] (54 : Nat)))
 fun (v6 : Value) (w7 : World) =>
 ∃ (t8 : Bool),
 v6 = Value.bool t8 ∧
 Keeps (w.alloc (Obj.cells #[Value.int IntKind.i64 m, Value.string s, Value.int IntKind.i64 z, Value.int IntKind.i64 a, Value.int IntKind.u32 u] (54 : Nat))) w7 [w.heap.size] ∧
 (Known w7
 [(w.heap.size, [((0 : Nat), Value.int IntKind.i64 m), ((1 : Nat), Value.string s), ((2 : Nat), Value.int IntKind.i64 z), ((3 : Nat), Value.int IntKind.i64 a), ((4 : Nat), Value.int IntKind.u32 u)])] →
 R (Ending.returned (Value.bool t8)) w7)
 else
 Known (w.alloc (Obj.cells #[Value.int IntKind.i64 m, Value.string s, Value.int IntKind.i64 z, Value.int IntKind.i64 a, Value.int IntKind.u32 u] (54 : Nat)))
 [(w.heap.size, [((0 : Nat), Value.int IntKind.i64 m), ((1 : Nat), Value.string s), ((2 : Nat), Value.int IntKind.i64 z), ((3 : Nat), Value.int IntKind.i64 a), ((4 : Nat), Value.int IntKind.u32 u)])] →
 Rets Tryd.prog (26 : Nat) #[] (w.alloc (Obj.cells #[Value.int IntKind.i64 m, Value.string s, Value.int IntKind.i64 z, Value.int IntKind.i64 a, Value.int IntKind.u32 u] (54 : Nat)))
 fun (v9 : Value) (w10 : World) =>
 ∃ (x11 : Array Value),
 v9 = Value.agg x11 ∧
 Keeps (w.alloc (Obj.cells #[Value.int IntKind.i64 m, Value.string s, Value.int IntKind.i64 z, Value.int IntKind.i64 a, Value.int IntKind.u32 u] (54 : Nat))) w10 [w.heap.size] ∧
 Runs Tryd.prog (Instr.storeAt (25 : Nat) (Value.pointer (some { block := w10.heap.size, off := (0 : Nat) })) (Value.agg x11)) (w10.alloc (Obj.cells (zeroA Tryd.prog (25 : Nat)) (25 : Nat)))
 fun (x12 : Unit) (w13 : World) =>
 Keeps (w10.alloc (Obj.cells (zeroA Tryd.prog (25 : Nat)) (25 : Nat))) w13 [w.heap.size] ∧
 (Known w13
 [(w.heap.size,
 [((0 : Nat), Value.int IntKind.i64 m), ((1 : Nat), Value.string s), ((2 : Nat), Value.int IntKind.i64 z), ((3 : Nat), Value.int IntKind.i64 a), ((4 : Nat), Value.int IntKind.u32 u)])] →
 Rets Tryd.prog (49 : Nat)
 #[Value.pointer (some { block := w10.heap.size, off := (0 : Nat) }),
 Value.agg #[Value.int IntKind.i64 m, Value.string s, Value.int IntKind.i64 z, Value.int IntKind.i64 a, Value.int IntKind.u32 u]]
 w13 fun (v14 : Value) (w15 : World) =>
 ∃ (q16 : Option Addr),
 ∃ (n17 : Nat),
 ∃ (n18 : Nat),
 ∃ (i19 : Int),
 v14 = Value.tuple #[Value.slice q16 n17 n18, Value.int IntKind.i64 i19] ∧
 Keeps w13 w15 [w.heap.size] ∧
 bif i19 == (0 : Int) then
 Runs Tryd.prog (Instr.buildSlice (27 : Nat) (0 : Nat) #[]) w15 fun (v20 : Value) (w21 : World) =>
 ∃ (q22 : Option Addr),
 ∃ (n23 : Nat),
 ∃ (n24 : Nat),
 v20 = Value.slice q22 n23 n24 ∧
 Keeps w15 w21 [w.heap.size] ∧
 Runs Tryd.prog (Builtin.append_ #[(27 : Nat), (27 : Nat)] (27 : Nat) #[Value.slice q22 n23 n24, Value.slice q1 n1 c1]) w21 fun (v25 : Value) (w26 : World) =>
 ∃ (q27 : Option Addr),
 ∃ (n28 : Nat),
 ∃ (n29 : Nat),
 v25 = Value.slice q27 n28 n29 ∧
 Keeps w21 w26 [w.heap.size] ∧
 Runs Tryd.prog (Builtin.append_ #[(27 : Nat), (27 : Nat)] (27 : Nat) #[Value.slice q27 n28 n29, Value.slice q16 n17 n18]) w26
 fun (v30 : Value) (w31 : World) =>
 ∃ (q32 : Option Addr),
 ∃ (n33 : Nat),
 ∃ (n34 : Nat),
 v30 = Value.slice q32 n33 n34 ∧
 Keeps w26 w31 [w.heap.size] ∧
 Runs Tryd.prog (Builtin.append_ #[(27 : Nat), (27 : Nat)] (27 : Nat) #[Value.slice q32 n33 n34, Value.slice q2 n2 c2]) w31
 fun (v35 : Value) (w36 : World) =>
 ∃ (q37 : Option Addr),
 ∃ (n38 : Nat),
 ∃ (n39 : Nat),
 v35 = Value.slice q37 n38 n39 ∧
 Keeps w31 w36 [w.heap.size] ∧
 (Known w36
 [(w.heap.size,
 [((0 : Nat), Value.int IntKind.i64 m), ((1 : Nat), Value.string s), ((2 : Nat), Value.int IntKind.i64 z),
 ((3 : Nat), Value.int IntKind.i64 a), ((4 : Nat), Value.int IntKind.u32 u)])] →
 Rets Tryd.prog (54 : Nat)
 #[Value.pointer (some { block := w10.heap.size, off := (0 : Nat) }), Value.slice q37 n38 n39, Value.int IntKind.i64 (↑n1 : Int)]
 w36 fun (v40 : Value) (w41 : World) =>
 ∃ (i42 : Int),
 ∃ (s43 : ByteArray),
 ∃ (i44 : Int),
 ∃ (i45 : Int),
 ∃ (i46 : Int),
 ∃ (i47 : Int),
 ∃ (i48 : Int),
 v40 =
 Value.tuple
 #[Value.agg
 #[Value.int IntKind.i64 i42, Value.string s43, Value.int IntKind.i64 i44, Value.int IntKind.i64 i45,
 Value.int IntKind.u32 i46],
 Value.int IntKind.i64 i47, Value.int IntKind.i64 i48] ∧
 Keeps w36 w41 [w.heap.size] ∧
 bif i48 != (0 : Int) then
 Known
 ((((((w41.alloc
 (Obj.cells
 #[Value.int IntKind.i64 (0 : Int), Value.string { data := #[] },
 Value.int IntKind.i64 (0 : Int), Value.int IntKind.i64 (0 : Int),
 Value.int IntKind.u32 (0 : Int)]
 (54 : Nat))).setCell
 {block := w41.heap.size, off := (0 : Nat) } (Value.int IntKind.i64 i42)).setCell
 {block := w41.heap.size, off := (1 : Nat) } (Value.string s43)).setCell
 {block := w41.heap.size, off := (2 : Nat) } (Value.int IntKind.i64 i44)).setCell
 {block := w41.heap.size, off := (3 : Nat) } (Value.int IntKind.i64 i45)).setCell
 {block := w41.heap.size, off := (4 : Nat) } (Value.int IntKind.u32 i46))
 [(w.heap.size,
 [((0 : Nat), Value.int IntKind.i64 m), ((1 : Nat), Value.string s),
 ((2 : Nat), Value.int IntKind.i64 z), ((3 : Nat), Value.int IntKind.i64 a),
 ((4 : Nat), Value.int IntKind.u32 u)]),
 (w41.heap.size,
 [((0 : Nat), Value.int IntKind.i64 i42), ((1 : Nat), Value.string s43),
 ((2 : Nat), Value.int IntKind.i64 i44), ((3 : Nat), Value.int IntKind.i64 i45),
 ((4 : Nat), Value.int IntKind.u32 i46)])] →
 R (Ending.returned (Value.bool false))
 ((((((w41.alloc
 (Obj.cells
 #[Value.int IntKind.i64 (0 : Int), Value.string { data := #[] },
 Value.int IntKind.i64 (0 : Int), Value.int IntKind.i64 (0 : Int),
 Value.int IntKind.u32 (0 : Int)]
 (54 : Nat))).setCell
 {block := w41.heap.size, off := (0 : Nat) } (Value.int IntKind.i64 i42)).setCell
 {block := w41.heap.size, off := (1 : Nat) } (Value.string s43)).setCell
 {block := w41.heap.size, off := (2 : Nat) } (Value.int IntKind.i64 i44)).setCell
 {block := w41.heap.size, off := (3 : Nat) } (Value.int IntKind.i64 i45)).setCell
 {block := w41.heap.size, off := (4 : Nat) } (Value.int IntKind.u32 i46))
 else
 true = true ∧
 bif !(i42 == m && (s43.toList == s.toList && (i44 == z && (i45 == a && i46 == u)))) then
 Known
 ((((((w41.alloc
 (Obj.cells
 #[Value.int IntKind.i64 (0 : Int), Value.string { data := #[] },
 Value.int IntKind.i64 (0 : Int), Value.int IntKind.i64 (0 : Int),
 Value.int IntKind.u32 (0 : Int)]
 (54 : Nat))).setCell
 {block := w41.heap.size, off := (0 : Nat) } (Value.int IntKind.i64 i42)).setCell
 {block := w41.heap.size, off := (1 : Nat) } (Value.string s43)).setCell
 {block := w41.heap.size, off := (2 : Nat) } (Value.int IntKind.i64 i44)).setCell
 {block := w41.heap.size, off := (3 : Nat) } (Value.int IntKind.i64 i45)).setCell
 {block := w41.heap.size, off := (4 : Nat) } (Value.int IntKind.u32 i46))
 [(w.heap.size,
 [((0 : Nat), Value.int IntKind.i64 m), ((1 : Nat), Value.string s),
 ((2 : Nat), Value.int IntKind.i64 z), ((3 : Nat), Value.int IntKind.i64 a),
 ((4 : Nat), Value.int IntKind.u32 u)]),
 (w41.heap.size,
 [((0 : Nat), Value.int IntKind.i64 i42), ((1 : Nat), Value.string s43),
 ((2 : Nat), Value.int IntKind.i64 i44), ((3 : Nat), Value.int IntKind.i64 i45),
 ((4 : Nat), Value.int IntKind.u32 i46)])] →
 R (Ending.returned (Value.bool false))
 ((((((w41.alloc
 (Obj.cells
 #[Value.int IntKind.i64 (0 : Int), Value.string { data := #[] },
 Value.int IntKind.i64 (0 : Int), Value.int IntKind.i64 (0 : Int),
 Value.int IntKind.u32 (0 : Int)]
 (54 : Nat))).setCell
 {block := w41.heap.size, off := (0 : Nat) } (Value.int IntKind.i64 i42)).setCell
 {block := w41.heap.size, off := (1 : Nat) } (Value.string s43)).setCell
 {block := w41.heap.size, off := (2 : Nat) } (Value.int IntKind.i64 i44)).setCell
 {block := w41.heap.size, off := (3 : Nat) } (Value.int IntKind.i64 i45)).setCell
 {block := w41.heap.size, off := (4 : Nat) } (Value.int IntKind.u32 i46))
 else
 Wr IntKind.i64 ((↑n1 : Int) + (↑n17 : Int)) fun (i49 : Int) =>
 bif i47 != i49 then
 Known
 ((((((w41.alloc
 (Obj.cells
 #[Value.int IntKind.i64 (0 : Int), Value.string { data := #[] },
 Value.int IntKind.i64 (0 : Int), Value.int IntKind.i64 (0 : Int),
 Value.int IntKind.u32 (0 : Int)]
 (54 : Nat))).setCell
 {block := w41.heap.size, off := (0 : Nat) }
 (Value.int IntKind.i64 i42)).setCell
 {block := w41.heap.size, off := (1 : Nat) } (Value.string s43)).setCell
 {block := w41.heap.size, off := (2 : Nat) } (Value.int IntKind.i64 i44)).setCell
 {block := w41.heap.size, off := (3 : Nat) } (Value.int IntKind.i64 i45)).setCell
 {block := w41.heap.size, off := (4 : Nat) } (Value.int IntKind.u32 i46))
 [(w.heap.size,
 [((0 : Nat), Value.int IntKind.i64 m), ((1 : Nat), Value.string s),
 ((2 : Nat), Value.int IntKind.i64 z), ((3 : Nat), Value.int IntKind.i64 a),
 ((4 : Nat), Value.int IntKind.u32 u)]),
 (w41.heap.size,
 [((0 : Nat), Value.int IntKind.i64 i42), ((1 : Nat), Value.string s43),
 ((2 : Nat), Value.int IntKind.i64 i44), ((3 : Nat), Value.int IntKind.i64 i45),
 ((4 : Nat), Value.int IntKind.u32 i46)])] →
 R (Ending.returned (Value.bool false))
 ((((((w41.alloc
 (Obj.cells
 #[Value.int IntKind.i64 (0 : Int), Value.string { data := #[] },
 Value.int IntKind.i64 (0 : Int), Value.int IntKind.i64 (0 : Int),
 Value.int IntKind.u32 (0 : Int)]
 (54 : Nat))).setCell
 {block := w41.heap.size, off := (0 : Nat) }
 (Value.int IntKind.i64 i42)).setCell
 {block := w41.heap.size, off := (1 : Nat) } (Value.string s43)).setCell
 {block := w41.heap.size, off := (2 : Nat) } (Value.int IntKind.i64 i44)).setCell
 {block := w41.heap.size, off := (3 : Nat) } (Value.int IntKind.i64 i45)).setCell
 {block := w41.heap.size, off := (4 : Nat) } (Value.int IntKind.u32 i46))
 else
 Known
 ((((((w41.alloc
 (Obj.cells
 #[Value.int IntKind.i64 (0 : Int), Value.string { data := #[] },
 Value.int IntKind.i64 (0 : Int), Value.int IntKind.i64 (0 : Int),
 Value.int IntKind.u32 (0 : Int)]
 (54 : Nat))).setCell
 {block := w41.heap.size, off := (0 : Nat) }
 (Value.int IntKind.i64 i42)).setCell
 {block := w41.heap.size, off := (1 : Nat) } (Value.string s43)).setCell
 {block := w41.heap.size, off := (2 : Nat) } (Value.int IntKind.i64 i44)).setCell
 {block := w41.heap.size, off := (3 : Nat) } (Value.int IntKind.i64 i45)).setCell
 {block := w41.heap.size, off := (4 : Nat) } (Value.int IntKind.u32 i46))
 [(w.heap.size,
 [((0 : Nat), Value.int IntKind.i64 m), ((1 : Nat), Value.string s),
 ((2 : Nat), Value.int IntKind.i64 z), ((3 : Nat), Value.int IntKind.i64 a),
 ((4 : Nat), Value.int IntKind.u32 u)]),
 (w41.heap.size,
 [((0 : Nat), Value.int IntKind.i64 i42), ((1 : Nat), Value.string s43),
 ((2 : Nat), Value.int IntKind.i64 i44), ((3 : Nat), Value.int IntKind.i64 i45),
 ((4 : Nat), Value.int IntKind.u32 i46)])] →
 Rets Tryd.prog (54 : Nat)
 #[Value.pointer (some { block := w10.heap.size, off := (0 : Nat) }), Value.slice q2 n2 c2,
 Value.int IntKind.i64 (0 : Int)]
 ((((((w41.alloc
 (Obj.cells
 #[Value.int IntKind.i64 (0 : Int), Value.string { data := #[] },
 Value.int IntKind.i64 (0 : Int), Value.int IntKind.i64 (0 : Int),
 Value.int IntKind.u32 (0 : Int)]
 (54 : Nat))).setCell
 {block := w41.heap.size, off := (0 : Nat) }
 (Value.int IntKind.i64 i42)).setCell
 {block := w41.heap.size, off := (1 : Nat) } (Value.string s43)).setCell
 {block := w41.heap.size, off := (2 : Nat) } (Value.int IntKind.i64 i44)).setCell
 {block := w41.heap.size, off := (3 : Nat) } (Value.int IntKind.i64 i45)).setCell
 {block := w41.heap.size, off := (4 : Nat) } (Value.int IntKind.u32 i46))
 fun (v50 : Value) (w51 : World) =>
 ∃ (i52 : Int),
 ∃ (s53 : ByteArray),
 ∃ (i54 : Int),
 ∃ (i55 : Int),
 ∃ (i56 : Int),
 ∃ (i57 : Int),
 ∃ (i58 : Int),
 v50 =
 Value.tuple
 #[Value.agg
 #[Value.int IntKind.i64 i52, Value.string s53, Value.int IntKind.i64 i54,
 Value.int IntKind.i64 i55, Value.int IntKind.u32 i56],
 Value.int IntKind.i64 i57, Value.int IntKind.i64 i58] ∧
 Keeps
 ((((((w41.alloc
 (Obj.cells
 #[Value.int IntKind.i64 (0 : Int),
 Value.string { data := #[] },
 Value.int IntKind.i64 (0 : Int),
 Value.int IntKind.i64 (0 : Int),
 Value.int IntKind.u32 (0 : Int)]
 (54 : Nat))).setCell
 {block := w41.heap.size, off := (0 : Nat) }
 (Value.int IntKind.i64 i42)).setCell
 {block := w41.heap.size, off := (1 : Nat) }
 (Value.string s43)).setCell
 {block := w41.heap.size, off := (2 : Nat) }
 (Value.int IntKind.i64 i44)).setCell
 {block := w41.heap.size, off := (3 : Nat) }
 (Value.int IntKind.i64 i45)).setCell
 {block := w41.heap.size, off := (4 : Nat) } (Value.int IntKind.u32 i46))
 w51 [w.heap.size, w41.heap.size] ∧
 bif i58 != (0 : Int) then
 true = true ∧
 bif
 i52 == (0 : Int) &&
 (s53.toList == ({ data := #[] } : ByteArray).toList &&
 (i54 == (0 : Int) && (i55 == (0 : Int) && i56 == (0 : Int)))) then
 bif i57 == (0 : Int) then
 Known
 ((((((w51.alloc
 (Obj.cells
 #[Value.int IntKind.i64 (0 : Int),
 Value.string { data := #[] },
 Value.int IntKind.i64 (0 : Int),
 Value.int IntKind.i64 (0 : Int),
 Value.int IntKind.u32 (0 : Int)]
 (54 : Nat))).setCell
 {block := w51.heap.size, off := (0 : Nat) }
 (Value.int IntKind.i64 i52)).setCell
 {block := w51.heap.size, off := (1 : Nat) }
 (Value.string s53)).setCell
 {block := w51.heap.size, off := (2 : Nat) }
 (Value.int IntKind.i64 i54)).setCell
 {block := w51.heap.size, off := (3 : Nat) }
 (Value.int IntKind.i64 i55)).setCell
 {block := w51.heap.size, off := (4 : Nat) }
 (Value.int IntKind.u32 i56))
 [(w.heap.size,
 [((0 : Nat), Value.int IntKind.i64 m),
 ((1 : Nat), Value.string s),
 ((2 : Nat), Value.int IntKind.i64 z),
 ((3 : Nat), Value.int IntKind.i64 a),
 ((4 : Nat), Value.int IntKind.u32 u)]),
 (w41.heap.size,
 [((0 : Nat), Value.int IntKind.i64 i42),
 ((1 : Nat), Value.string s43),
 ((2 : Nat), Value.int IntKind.i64 i44),
 ((3 : Nat), Value.int IntKind.i64 i45),
 ((4 : Nat), Value.int IntKind.u32 i46)]),
 (w51.heap.size,
 [((0 : Nat), Value.int IntKind.i64 i52),
 ((1 : Nat), Value.string s53),
 ((2 : Nat), Value.int IntKind.i64 i54),
 ((3 : Nat), Value.int IntKind.i64 i55),
 ((4 : Nat), Value.int IntKind.u32 i56)])] →
 Rets Tryd.prog (48 : Nat) #[]
 ((((((w51.alloc
 (Obj.cells
 #[Value.int IntKind.i64 (0 : Int),
 Value.string { data := #[] },
 Value.int IntKind.i64 (0 : Int),
 Value.int IntKind.i64 (0 : Int),
 Value.int IntKind.u32 (0 : Int)]
 (54 : Nat))).setCell
 {block := w51.heap.size, off := (0 : Nat) }
 (Value.int IntKind.i64 i52)).setCell
 {block := w51.heap.size, off := (1 : Nat) }
 (Value.string s53)).setCell
 {block := w51.heap.size, off := (2 : Nat) }
 (Value.int IntKind.i64 i54)).setCell
 {block := w51.heap.size, off := (3 : Nat) }
 (Value.int IntKind.i64 i55)).setCell
 {block := w51.heap.size, off := (4 : Nat) }
 (Value.int IntKind.u32 i56))
 fun (v59 : Value) (w60 : World) =>
 ∃ (t61 : Bool),
 v59 = Value.bool t61 ∧
 Keeps
 ((((((w51.alloc
 (Obj.cells
 #[Value.int IntKind.i64 (0 : Int),
 Value.string { data := #[] },
 Value.int IntKind.i64 (0 : Int),
 Value.int IntKind.i64 (0 : Int),
 Value.int IntKind.u32 (0 : Int)]
 (54 : Nat))).setCell
 {block := w51.heap.size, off := (0 : Nat) }
 (Value.int IntKind.i64 i52)).setCell
 {block := w51.heap.size, off := (1 : Nat) }
 (Value.string s53)).setCell
 {block := w51.heap.size, off := (2 : Nat) }
 (Value.int IntKind.i64 i54)).setCell
 {block := w51.heap.size, off := (3 : Nat) }
 (Value.int IntKind.i64 i55)).setCell
 {block := w51.heap.size, off := (4 : Nat) }
 (Value.int IntKind.u32 i56))
 w60 [w.heap.size, w41.heap.size, w51.heap.size] ∧
 (Known w60
 [(w.heap.size,
 [((0 : Nat), Value.int IntKind.i64 m),
 ((1 : Nat), Value.string s),
 ((2 : Nat), Value.int IntKind.i64 z),
 ((3 : Nat), Value.int IntKind.i64 a),
 ((4 : Nat), Value.int IntKind.u32 u)]),
 (w41.heap.size,
 [((0 : Nat), Value.int IntKind.i64 i42),
 ((1 : Nat), Value.string s43),
 ((2 : Nat), Value.int IntKind.i64 i44),
 ((3 : Nat), Value.int IntKind.i64 i45),
 ((4 : Nat), Value.int IntKind.u32 i46)]),
 (w51.heap.size,
 [((0 : Nat), Value.int IntKind.i64 i52),
 ((1 : Nat), Value.string s53),
 ((2 : Nat), Value.int IntKind.i64 i54),
 ((3 : Nat), Value.int IntKind.i64 i55),
 ((4 : Nat), Value.int IntKind.u32 i56)])] →
 R (Ending.returned (Value.bool t61)) w60)
 else
 Known
 ((((((w51.alloc
 (Obj.cells
 #[Value.int IntKind.i64 (0 : Int),
 Value.string { data := #[] },
 Value.int IntKind.i64 (0 : Int),
 Value.int IntKind.i64 (0 : Int),
 Value.int IntKind.u32 (0 : Int)]
 (54 : Nat))).setCell
 {block := w51.heap.size, off := (0 : Nat) }
 (Value.int IntKind.i64 i52)).setCell
 {block := w51.heap.size, off := (1 : Nat) }
 (Value.string s53)).setCell
 {block := w51.heap.size, off := (2 : Nat) }
 (Value.int IntKind.i64 i54)).setCell
 {block := w51.heap.size, off := (3 : Nat) }
 (Value.int IntKind.i64 i55)).setCell
 {block := w51.heap.size, off := (4 : Nat) }
 (Value.int IntKind.u32 i56))
 [(w.heap.size,
 [((0 : Nat), Value.int IntKind.i64 m),
 ((1 : Nat), Value.string s),
 ((2 : Nat), Value.int IntKind.i64 z),
 ((3 : Nat), Value.int IntKind.i64 a),
 ((4 : Nat), Value.int IntKind.u32 u)]),
 (w41.heap.size,
 [((0 : Nat), Value.int IntKind.i64 i42),
 ((1 : Nat), Value.string s43),
 ((2 : Nat), Value.int IntKind.i64 i44),
 ((3 : Nat), Value.int IntKind.i64 i45),
 ((4 : Nat), Value.int IntKind.u32 i46)]),
 (w51.heap.size,
 [((0 : Nat), Value.int IntKind.i64 i52),
 ((1 : Nat), Value.string s53),
 ((2 : Nat), Value.int IntKind.i64 i54),
 ((3 : Nat), Value.int IntKind.i64 i55),
 ((4 : Nat), Value.int IntKind.u32 i56)])] →
 R (Ending.returned (Value.bool false))
 ((((((w51.alloc
 (Obj.cells
 #[Value.int IntKind.i64 (0 : Int),
 Value.string { data := #[] },
 Value.int IntKind.i64 (0 : Int),
 Value.int IntKind.i64 (0 : Int),
 Value.int IntKind.u32 (0 : Int)]
 (54 : Nat))).setCell
 {block := w51.heap.size, off := (0 : Nat) }
 (Value.int IntKind.i64 i52)).setCell
 {block := w51.heap.size, off := (1 : Nat) }
 (Value.string s53)).setCell
 {block := w51.heap.size, off := (2 : Nat) }
 (Value.int IntKind.i64 i54)).setCell
 {block := w51.heap.size, off := (3 : Nat) }
 (Value.int IntKind.i64 i55)).setCell
 {block := w51.heap.size, off := (4 : Nat) }
 (Value.int IntKind.u32 i56))
 else
 Known
 ((((((w51.alloc
 (Obj.cells
 #[Value.int IntKind.i64 (0 : Int),
 Value.string { data := #[] },
 Value.int IntKind.i64 (0 : Int),
 Value.int IntKind.i64 (0 : Int),
 Value.int IntKind.u32 (0 : Int)]
 (54 : Nat))).setCell
 {block := w51.heap.size, off := (0 : Nat) }
 (Value.int IntKind.i64 i52)).setCell
 {block := w51.heap.size, off := (1 : Nat) }
 (Value.string s53)).setCell
 {block := w51.heap.size, off := (2 : Nat) }
 (Value.int IntKind.i64 i54)).setCell
 {block := w51.heap.size, off := (3 : Nat) }
 (Value.int IntKind.i64 i55)).setCell
 {block := w51.heap.size, off := (4 : Nat) }
 (Value.int IntKind.u32 i56))
 [(w.heap.size,
 [((0 : Nat), Value.int IntKind.i64 m),
 ((1 : Nat), Value.string s),
 ((2 : Nat), Value.int IntKind.i64 z),
 ((3 : Nat), Value.int IntKind.i64 a),
 ((4 : Nat), Value.int IntKind.u32 u)]),
 (w41.heap.size,
 [((0 : Nat), Value.int IntKind.i64 i42),
 ((1 : Nat), Value.string s43),
 ((2 : Nat), Value.int IntKind.i64 i44),
 ((3 : Nat), Value.int IntKind.i64 i45),
 ((4 : Nat), Value.int IntKind.u32 i46)]),
 (w51.heap.size,
 [((0 : Nat), Value.int IntKind.i64 i52),
 ((1 : Nat), Value.string s53),
 ((2 : Nat), Value.int IntKind.i64 i54),
 ((3 : Nat), Value.int IntKind.i64 i55),
 ((4 : Nat), Value.int IntKind.u32 i56)])] →
 R (Ending.returned (Value.bool false))
 ((((((w51.alloc
 (Obj.cells
 #[Value.int IntKind.i64 (0 : Int),
 Value.string { data := #[] },
 Value.int IntKind.i64 (0 : Int),
 Value.int IntKind.i64 (0 : Int),
 Value.int IntKind.u32 (0 : Int)]
 (54 : Nat))).setCell
 {block := w51.heap.size, off := (0 : Nat) }
 (Value.int IntKind.i64 i52)).setCell
 {block := w51.heap.size, off := (1 : Nat) }
 (Value.string s53)).setCell
 {block := w51.heap.size, off := (2 : Nat) }
 (Value.int IntKind.i64 i54)).setCell
 {block := w51.heap.size, off := (3 : Nat) }
 (Value.int IntKind.i64 i55)).setCell
 {block := w51.heap.size, off := (4 : Nat) }
 (Value.int IntKind.u32 i56))
 else
 Known
 ((((((w51.alloc
 (Obj.cells
 #[Value.int IntKind.i64 (0 : Int),
 Value.string { data := #[] },
 Value.int IntKind.i64 (0 : Int),
 Value.int IntKind.i64 (0 : Int),
 Value.int IntKind.u32 (0 : Int)]
 (54 : Nat))).setCell
 {block := w51.heap.size, off := (0 : Nat) }
 (Value.int IntKind.i64 i52)).setCell
 {block := w51.heap.size, off := (1 : Nat) }
 (Value.string s53)).setCell
 {block := w51.heap.size, off := (2 : Nat) }
 (Value.int IntKind.i64 i54)).setCell
 {block := w51.heap.size, off := (3 : Nat) }
 (Value.int IntKind.i64 i55)).setCell
 {block := w51.heap.size, off := (4 : Nat) }
 (Value.int IntKind.u32 i56))
 [(w.heap.size,
 [((0 : Nat), Value.int IntKind.i64 m), ((1 : Nat), Value.string s),
 ((2 : Nat), Value.int IntKind.i64 z),
 ((3 : Nat), Value.int IntKind.i64 a),
 ((4 : Nat), Value.int IntKind.u32 u)]),
 (w41.heap.size,
 [((0 : Nat), Value.int IntKind.i64 i42),
 ((1 : Nat), Value.string s43),
 ((2 : Nat), Value.int IntKind.i64 i44),
 ((3 : Nat), Value.int IntKind.i64 i45),
 ((4 : Nat), Value.int IntKind.u32 i46)]),
 (w51.heap.size,
 [((0 : Nat), Value.int IntKind.i64 i52),
 ((1 : Nat), Value.string s53),
 ((2 : Nat), Value.int IntKind.i64 i54),
 ((3 : Nat), Value.int IntKind.i64 i55),
 ((4 : Nat), Value.int IntKind.u32 i56)])] →
 Rets Tryd.prog (49 : Nat)
 #[Value.pointer (some { block := w10.heap.size, off := (0 : Nat) }),
 Value.agg
 #[Value.int IntKind.i64 i52, Value.string s53,
 Value.int IntKind.i64 i54, Value.int IntKind.i64 i55,
 Value.int IntKind.u32 i56]]
 ((((((w51.alloc
 (Obj.cells
 #[Value.int IntKind.i64 (0 : Int),
 Value.string { data := #[] },
 Value.int IntKind.i64 (0 : Int),
 Value.int IntKind.i64 (0 : Int),
 Value.int IntKind.u32 (0 : Int)]
 (54 : Nat))).setCell
 {block := w51.heap.size, off := (0 : Nat) }
 (Value.int IntKind.i64 i52)).setCell
 {block := w51.heap.size, off := (1 : Nat) }
 (Value.string s53)).setCell
 {block := w51.heap.size, off := (2 : Nat) }
 (Value.int IntKind.i64 i54)).setCell
 {block := w51.heap.size, off := (3 : Nat) }
 (Value.int IntKind.i64 i55)).setCell
 {block := w51.heap.size, off := (4 : Nat) }
 (Value.int IntKind.u32 i56))
 fun (v62 : Value) (w63 : World) =>
 ∃ (q64 : Option Addr),
 ∃ (n65 : Nat),
 ∃ (n66 : Nat),
 ∃ (i67 : Int),
 v62 =
 Value.tuple
 #[Value.slice q64 n65 n66, Value.int IntKind.i64 i67] ∧
 Keeps
 ((((((w51.alloc
 (Obj.cells
 #[Value.int IntKind.i64 (0 : Int),
 Value.string { data := #[] },
 Value.int IntKind.i64 (0 : Int),
 Value.int IntKind.i64 (0 : Int),
 Value.int IntKind.u32 (0 : Int)]
 (54 : Nat))).setCell
 {block := w51.heap.size, off := (0 : Nat) }
 (Value.int IntKind.i64 i52)).setCell
 {block := w51.heap.size, off := (1 : Nat) }
 (Value.string s53)).setCell
 {block := w51.heap.size, off := (2 : Nat) }
 (Value.int IntKind.i64 i54)).setCell
 {block := w51.heap.size, off := (3 : Nat) }
 (Value.int IntKind.i64 i55)).setCell
 {block := w51.heap.size, off := (4 : Nat) }
 (Value.int IntKind.u32 i56))
 w63 [w.heap.size, w41.heap.size, w51.heap.size] ∧
 bif i67 == (0 : Int) then
 ∃ (s68 : ByteArray),
 s68.size = n65 ∧
 BytesAt w63.drew q64 s68 ∧
 ((0 : Int) ≤ minI i57 (↑n2 : Int) ∧
 minI i57 (↑n2 : Int) ≤ (↑c2 : Int)) ∧
 ∃ (s69 : ByteArray),
 s69.size =
 (minI i57 (↑n2 : Int)).toNat - (0 : Nat) ∧
 BytesAt w63.drew
 (cutA q2 c2 (0 : Nat) (1 : Nat)) s69 ∧
 bif s68.toList == s69.toList then
 Known w63.drew
 [(w.heap.size,
 [((0 : Nat),
 Value.int IntKind.i64 m),
 ((1 : Nat), Value.string s),
 ((2 : Nat),
 Value.int IntKind.i64 z),
 ((3 : Nat),
 Value.int IntKind.i64 a),
 ((4 : Nat),
 Value.int IntKind.u32 u)]),
 (w41.heap.size,
 [((0 : Nat),
 Value.int IntKind.i64 i42),
 ((1 : Nat), Value.string s43),
 ((2 : Nat),
 Value.int IntKind.i64 i44),
 ((3 : Nat),
 Value.int IntKind.i64 i45),
 ((4 : Nat),
 Value.int IntKind.u32 i46)]),
 (w51.heap.size,
 [((0 : Nat),
 Value.int IntKind.i64 i52),
 ((1 : Nat), Value.string s53),
 ((2 : Nat),
 Value.int IntKind.i64 i54),
 ((3 : Nat),
 Value.int IntKind.i64 i55),
 ((4 : Nat),
 Value.int IntKind.u32 i56)])] →
 Rets Tryd.prog (48 : Nat) #[] w63.drew
 fun (v70 : Value) (w71 : World) =>
 ∃ (t72 : Bool),
 v70 = Value.bool t72 ∧
 Keeps w63.drew w71
 [w.heap.size, w41.heap.size,
 w51.heap.size] ∧
 (Known w71
 [(w.heap.size,
 [((0 : Nat),
 Value.int IntKind.i64
 m),
 ((1 : Nat),
 Value.string s),
 ((2 : Nat),
 Value.int IntKind.i64
 z),
 ((3 : Nat),
 Value.int IntKind.i64
 a),
 ((4 : Nat),
 Value.int IntKind.u32
 u)]),
 (w41.heap.size,
 [((0 : Nat),
 Value.int IntKind.i64
 i42),
 ((1 : Nat),
 Value.string s43),
 ((2 : Nat),
 Value.int IntKind.i64
 i44),
 ((3 : Nat),
 Value.int IntKind.i64
 i45),
 ((4 : Nat),
 Value.int IntKind.u32
 i46)]),
 (w51.heap.size,
 [((0 : Nat),
 Value.int IntKind.i64
 i52),
 ((1 : Nat),
 Value.string s53),
 ((2 : Nat),
 Value.int IntKind.i64
 i54),
 ((3 : Nat),
 Value.int IntKind.i64
 i55),
 ((4 : Nat),
 Value.int IntKind.u32
 i56)])] →
 R
 (Ending.returned
 (Value.bool t72))
 w71)
 else
 Known w63.drew
 [(w.heap.size,
 [((0 : Nat),
 Value.int IntKind.i64 m),
 ((1 : Nat), Value.string s),
 ((2 : Nat),
 Value.int IntKind.i64 z),
 ((3 : Nat),
 Value.int IntKind.i64 a),
 ((4 : Nat),
 Value.int IntKind.u32 u)]),
 (w41.heap.size,
 [((0 : Nat),
 Value.int IntKind.i64 i42),
 ((1 : Nat), Value.string s43),
 ((2 : Nat),
 Value.int IntKind.i64 i44),
 ((3 : Nat),
 Value.int IntKind.i64 i45),
 ((4 : Nat),
 Value.int IntKind.u32 i46)]),
 (w51.heap.size,
 [((0 : Nat),
 Value.int IntKind.i64 i52),
 ((1 : Nat), Value.string s53),
 ((2 : Nat),
 Value.int IntKind.i64 i54),
 ((3 : Nat),
 Value.int IntKind.i64 i55),
 ((4 : Nat),
 Value.int IntKind.u32 i56)])] →
 R (Ending.returned (Value.bool false))
 w63.drew
 else
 Known w63.drew
 [(w.heap.size,
 [((0 : Nat), Value.int IntKind.i64 m),
 ((1 : Nat), Value.string s),
 ((2 : Nat), Value.int IntKind.i64 z),
 ((3 : Nat), Value.int IntKind.i64 a),
 ((4 : Nat), Value.int IntKind.u32 u)]),
 (w41.heap.size,
 [((0 : Nat), Value.int IntKind.i64 i42),
 ((1 : Nat), Value.string s43),
 ((2 : Nat), Value.int IntKind.i64 i44),
 ((3 : Nat), Value.int IntKind.i64 i45),
 ((4 : Nat), Value.int IntKind.u32 i46)]),
 (w51.heap.size,
 [((0 : Nat), Value.int IntKind.i64 i52),
 ((1 : Nat), Value.string s53),
 ((2 : Nat), Value.int IntKind.i64 i54),
 ((3 : Nat), Value.int IntKind.i64 i55),
 ((4 : Nat), Value.int IntKind.u32 i56)])] →
 R (Ending.returned (Value.bool false)) w63.drew)
 else
 Known w15
 [(w.heap.size,
 [((0 : Nat), Value.int IntKind.i64 m), ((1 : Nat), Value.string s), ((2 : Nat), Value.int IntKind.i64 z), ((3 : Nat), Value.int IntKind.i64 a),
 ((4 : Nat), Value.int IntKind.u32 u)])] →
 Rets Tryd.prog (54 : Nat) #[Value.pointer (some { block := w10.heap.size, off := (0 : Nat) }), Value.slice q2 n2 c2, Value.int IntKind.i64 (0 : Int)] w15
 fun (v73 : Value) (w74 : World) =>
 ∃ (i75 : Int),
 ∃ (s76 : ByteArray),
 ∃ (i77 : Int),
 ∃ (i78 : Int),
 ∃ (i79 : Int),
 ∃ (i80 : Int),
 ∃ (i81 : Int),
 v73 =
 Value.tuple
 #[Value.agg #[Value.int IntKind.i64 i75, Value.string s76, Value.int IntKind.i64 i77, Value.int IntKind.i64 i78, Value.int IntKind.u32 i79],
 Value.int IntKind.i64 i80, Value.int IntKind.i64 i81] ∧
 Keeps w15 w74 [w.heap.size] ∧
 bif i81 != (0 : Int) then
 true = true ∧
 bif i75 == (0 : Int) && (s76.toList == ({ data := #[] } : ByteArray).toList && (i77 == (0 : Int) && (i78 == (0 : Int) && i79 == (0 : Int)))) then
 bif i80 == (0 : Int) then
 Known
 ((((((w74.alloc
 (Obj.cells
 #[Value.int IntKind.i64 (0 : Int), Value.string { data := #[] }, Value.int IntKind.i64 (0 : Int),
 Value.int IntKind.i64 (0 : Int), Value.int IntKind.u32 (0 : Int)]
 (54 : Nat))).setCell
 {block := w74.heap.size, off := (0 : Nat) } (Value.int IntKind.i64 i75)).setCell
 {block := w74.heap.size, off := (1 : Nat) } (Value.string s76)).setCell
 {block := w74.heap.size, off := (2 : Nat) } (Value.int IntKind.i64 i77)).setCell
 {block := w74.heap.size, off := (3 : Nat) } (Value.int IntKind.i64 i78)).setCell
 {block := w74.heap.size, off := (4 : Nat) } (Value.int IntKind.u32 i79))
 [(w.heap.size,
 [((0 : Nat), Value.int IntKind.i64 m), ((1 : Nat), Value.string s), ((2 : Nat), Value.int IntKind.i64 z), ((3 : Nat), Value.int IntKind.i64 a),
 ((4 : Nat), Value.int IntKind.u32 u)]),
 (w74.heap.size,
 [((0 : Nat), Value.int IntKind.i64 i75), ((1 : Nat), Value.string s76), ((2 : Nat), Value.int IntKind.i64 i77),
 ((3 : Nat), Value.int IntKind.i64 i78), ((4 : Nat), Value.int IntKind.u32 i79)])] →
 Rets Tryd.prog (48 : Nat) #[]
 ((((((w74.alloc
 (Obj.cells
 #[Value.int IntKind.i64 (0 : Int), Value.string { data := #[] }, Value.int IntKind.i64 (0 : Int),
 Value.int IntKind.i64 (0 : Int), Value.int IntKind.u32 (0 : Int)]
 (54 : Nat))).setCell
 {block := w74.heap.size, off := (0 : Nat) } (Value.int IntKind.i64 i75)).setCell
 {block := w74.heap.size, off := (1 : Nat) } (Value.string s76)).setCell
 {block := w74.heap.size, off := (2 : Nat) } (Value.int IntKind.i64 i77)).setCell
 {block := w74.heap.size, off := (3 : Nat) } (Value.int IntKind.i64 i78)).setCell
 {block := w74.heap.size, off := (4 : Nat) } (Value.int IntKind.u32 i79))
 fun (v82 : Value) (w83 : World) =>
 ∃ (t84 : Bool),
 v82 = Value.bool t84 ∧
 Keeps
 ((((((w74.alloc
 (Obj.cells
 #[Value.int IntKind.i64 (0 : Int), Value.string { data := #[] }, Value.int IntKind.i64 (0 : Int),
 Value.int IntKind.i64 (0 : Int), Value.int IntKind.u32 (0 : Int)]
 (54 : Nat))).setCell
 {block := w74.heap.size, off := (0 : Nat) } (Value.int IntKind.i64 i75)).setCell
 {block := w74.heap.size, off := (1 : Nat) } (Value.string s76)).setCell
 {block := w74.heap.size, off := (2 : Nat) } (Value.int IntKind.i64 i77)).setCell
 {block := w74.heap.size, off := (3 : Nat) } (Value.int IntKind.i64 i78)).setCell
 {block := w74.heap.size, off := (4 : Nat) } (Value.int IntKind.u32 i79))
 w83 [w.heap.size, w74.heap.size] ∧
 (Known w83
 [(w.heap.size,
 [((0 : Nat), Value.int IntKind.i64 m), ((1 : Nat), Value.string s), ((2 : Nat), Value.int IntKind.i64 z),
 ((3 : Nat), Value.int IntKind.i64 a), ((4 : Nat), Value.int IntKind.u32 u)]),
 (w74.heap.size,
 [((0 : Nat), Value.int IntKind.i64 i75), ((1 : Nat), Value.string s76), ((2 : Nat), Value.int IntKind.i64 i77),
 ((3 : Nat), Value.int IntKind.i64 i78), ((4 : Nat), Value.int IntKind.u32 i79)])] →
 R (Ending.returned (Value.bool t84)) w83)
 else
 Known
 ((((((w74.alloc
 (Obj.cells
 #[Value.int IntKind.i64 (0 : Int), Value.string { data := #[] }, Value.int IntKind.i64 (0 : Int),
 Value.int IntKind.i64 (0 : Int), Value.int IntKind.u32 (0 : Int)]
 (54 : Nat))).setCell
 {block := w74.heap.size, off := (0 : Nat) } (Value.int IntKind.i64 i75)).setCell
 {block := w74.heap.size, off := (1 : Nat) } (Value.string s76)).setCell
 {block := w74.heap.size, off := (2 : Nat) } (Value.int IntKind.i64 i77)).setCell
 {block := w74.heap.size, off := (3 : Nat) } (Value.int IntKind.i64 i78)).setCell
 {block := w74.heap.size, off := (4 : Nat) } (Value.int IntKind.u32 i79))
 [(w.heap.size,
 [((0 : Nat), Value.int IntKind.i64 m), ((1 : Nat), Value.string s), ((2 : Nat), Value.int IntKind.i64 z), ((3 : Nat), Value.int IntKind.i64 a),
 ((4 : Nat), Value.int IntKind.u32 u)]),
 (w74.heap.size,
 [((0 : Nat), Value.int IntKind.i64 i75), ((1 : Nat), Value.string s76), ((2 : Nat), Value.int IntKind.i64 i77),
 ((3 : Nat), Value.int IntKind.i64 i78), ((4 : Nat), Value.int IntKind.u32 i79)])] →
 R (Ending.returned (Value.bool false))
 ((((((w74.alloc
 (Obj.cells
 #[Value.int IntKind.i64 (0 : Int), Value.string { data := #[] }, Value.int IntKind.i64 (0 : Int),
 Value.int IntKind.i64 (0 : Int), Value.int IntKind.u32 (0 : Int)]
 (54 : Nat))).setCell
 {block := w74.heap.size, off := (0 : Nat) } (Value.int IntKind.i64 i75)).setCell
 {block := w74.heap.size, off := (1 : Nat) } (Value.string s76)).setCell
 {block := w74.heap.size, off := (2 : Nat) } (Value.int IntKind.i64 i77)).setCell
 {block := w74.heap.size, off := (3 : Nat) } (Value.int IntKind.i64 i78)).setCell
 {block := w74.heap.size, off := (4 : Nat) } (Value.int IntKind.u32 i79))
 else
 Known
 ((((((w74.alloc
 (Obj.cells
 #[Value.int IntKind.i64 (0 : Int), Value.string { data := #[] }, Value.int IntKind.i64 (0 : Int),
 Value.int IntKind.i64 (0 : Int), Value.int IntKind.u32 (0 : Int)]
 (54 : Nat))).setCell
 {block := w74.heap.size, off := (0 : Nat) } (Value.int IntKind.i64 i75)).setCell
 {block := w74.heap.size, off := (1 : Nat) } (Value.string s76)).setCell
 {block := w74.heap.size, off := (2 : Nat) } (Value.int IntKind.i64 i77)).setCell
 {block := w74.heap.size, off := (3 : Nat) } (Value.int IntKind.i64 i78)).setCell
 {block := w74.heap.size, off := (4 : Nat) } (Value.int IntKind.u32 i79))
 [(w.heap.size,
 [((0 : Nat), Value.int IntKind.i64 m), ((1 : Nat), Value.string s), ((2 : Nat), Value.int IntKind.i64 z), ((3 : Nat), Value.int IntKind.i64 a),
 ((4 : Nat), Value.int IntKind.u32 u)]),
 (w74.heap.size,
 [((0 : Nat), Value.int IntKind.i64 i75), ((1 : Nat), Value.string s76), ((2 : Nat), Value.int IntKind.i64 i77),
 ((3 : Nat), Value.int IntKind.i64 i78), ((4 : Nat), Value.int IntKind.u32 i79)])] →
 R (Ending.returned (Value.bool false))
 ((((((w74.alloc
 (Obj.cells
 #[Value.int IntKind.i64 (0 : Int), Value.string { data := #[] }, Value.int IntKind.i64 (0 : Int),
 Value.int IntKind.i64 (0 : Int), Value.int IntKind.u32 (0 : Int)]
 (54 : Nat))).setCell
 {block := w74.heap.size, off := (0 : Nat) } (Value.int IntKind.i64 i75)).setCell
 {block := w74.heap.size, off := (1 : Nat) } (Value.string s76)).setCell
 {block := w74.heap.size, off := (2 : Nat) } (Value.int IntKind.i64 i77)).setCell
 {block := w74.heap.size, off := (3 : Nat) } (Value.int IntKind.i64 i78)).setCell
 {block := w74.heap.size, off := (4 : Nat) } (Value.int IntKind.u32 i79))
 else
 Known
 ((((((w74.alloc
 (Obj.cells
 #[Value.int IntKind.i64 (0 : Int), Value.string { data := #[] }, Value.int IntKind.i64 (0 : Int), Value.int IntKind.i64 (0 : Int),
 Value.int IntKind.u32 (0 : Int)]
 (54 : Nat))).setCell
 {block := w74.heap.size, off := (0 : Nat) } (Value.int IntKind.i64 i75)).setCell
 {block := w74.heap.size, off := (1 : Nat) } (Value.string s76)).setCell
 {block := w74.heap.size, off := (2 : Nat) } (Value.int IntKind.i64 i77)).setCell
 {block := w74.heap.size, off := (3 : Nat) } (Value.int IntKind.i64 i78)).setCell
 {block := w74.heap.size, off := (4 : Nat) } (Value.int IntKind.u32 i79))
 [(w.heap.size,
 [((0 : Nat), Value.int IntKind.i64 m), ((1 : Nat), Value.string s), ((2 : Nat), Value.int IntKind.i64 z), ((3 : Nat), Value.int IntKind.i64 a),
 ((4 : Nat), Value.int IntKind.u32 u)]),
 (w74.heap.size,
 [((0 : Nat), Value.int IntKind.i64 i75), ((1 : Nat), Value.string s76), ((2 : Nat), Value.int IntKind.i64 i77),
 ((3 : Nat), Value.int IntKind.i64 i78), ((4 : Nat), Value.int IntKind.u32 i79)])] →
 Rets Tryd.prog (49 : Nat)
 #[Value.pointer (some { block := w10.heap.size, off := (0 : Nat) }),
 Value.agg #[Value.int IntKind.i64 i75, Value.string s76, Value.int IntKind.i64 i77, Value.int IntKind.i64 i78, Value.int IntKind.u32 i79]]
 ((((((w74.alloc
 (Obj.cells
 #[Value.int IntKind.i64 (0 : Int), Value.string { data := #[] }, Value.int IntKind.i64 (0 : Int), Value.int IntKind.i64 (0 : Int),
 Value.int IntKind.u32 (0 : Int)]
 (54 : Nat))).setCell
 {block := w74.heap.size, off := (0 : Nat) } (Value.int IntKind.i64 i75)).setCell
 {block := w74.heap.size, off := (1 : Nat) } (Value.string s76)).setCell
 {block := w74.heap.size, off := (2 : Nat) } (Value.int IntKind.i64 i77)).setCell
 {block := w74.heap.size, off := (3 : Nat) } (Value.int IntKind.i64 i78)).setCell
 {block := w74.heap.size, off := (4 : Nat) } (Value.int IntKind.u32 i79))
 fun (v85 : Value) (w86 : World) =>
 ∃ (q87 : Option Addr),
 ∃ (n88 : Nat),
 ∃ (n89 : Nat),
 ∃ (i90 : Int),
 v85 = Value.tuple #[Value.slice q87 n88 n89, Value.int IntKind.i64 i90] ∧
 Keeps
 ((((((w74.alloc
 (Obj.cells
 #[Value.int IntKind.i64 (0 : Int), Value.string { data := #[] }, Value.int IntKind.i64 (0 : Int),
 Value.int IntKind.i64 (0 : Int), Value.int IntKind.u32 (0 : Int)]
 (54 : Nat))).setCell
 {block := w74.heap.size, off := (0 : Nat) } (Value.int IntKind.i64 i75)).setCell
 {block := w74.heap.size, off := (1 : Nat) } (Value.string s76)).setCell
 {block := w74.heap.size, off := (2 : Nat) } (Value.int IntKind.i64 i77)).setCell
 {block := w74.heap.size, off := (3 : Nat) } (Value.int IntKind.i64 i78)).setCell
 {block := w74.heap.size, off := (4 : Nat) } (Value.int IntKind.u32 i79))
 w86 [w.heap.size, w74.heap.size] ∧
 bif i90 == (0 : Int) then
 ∃ (s91 : ByteArray),
 s91.size = n88 ∧
 BytesAt w86.drew q87 s91 ∧
 ((0 : Int) ≤ minI i80 (↑n2 : Int) ∧ minI i80 (↑n2 : Int) ≤ (↑c2 : Int)) ∧
 ∃ (s92 : ByteArray),
 s92.size = (minI i80 (↑n2 : Int)).toNat - (0 : Nat) ∧
 BytesAt w86.drew (cutA q2 c2 (0 : Nat) (1 : Nat)) s92 ∧
 bif s91.toList == s92.toList then
 Known w86.drew
 [(w.heap.size,
 [((0 : Nat), Value.int IntKind.i64 m), ((1 : Nat), Value.string s), ((2 : Nat), Value.int IntKind.i64 z),
 ((3 : Nat), Value.int IntKind.i64 a), ((4 : Nat), Value.int IntKind.u32 u)]),
 (w74.heap.size,
 [((0 : Nat), Value.int IntKind.i64 i75), ((1 : Nat), Value.string s76), ((2 : Nat), Value.int IntKind.i64 i77),
 ((3 : Nat), Value.int IntKind.i64 i78), ((4 : Nat), Value.int IntKind.u32 i79)])] →
 Rets Tryd.prog (48 : Nat) #[] w86.drew fun (v93 : Value) (w94 : World) =>
 ∃ (t95 : Bool),
 v93 = Value.bool t95 ∧
 Keeps w86.drew w94 [w.heap.size, w74.heap.size] ∧
 (Known w94
 [(w.heap.size,
 [((0 : Nat), Value.int IntKind.i64 m), ((1 : Nat), Value.string s), ((2 : Nat), Value.int IntKind.i64 z),
 ((3 : Nat), Value.int IntKind.i64 a), ((4 : Nat), Value.int IntKind.u32 u)]),
 (w74.heap.size,
 [((0 : Nat), Value.int IntKind.i64 i75), ((1 : Nat), Value.string s76),
 ((2 : Nat), Value.int IntKind.i64 i77), ((3 : Nat), Value.int IntKind.i64 i78),
 ((4 : Nat), Value.int IntKind.u32 i79)])] →
 R (Ending.returned (Value.bool t95)) w94)
 else
 Known w86.drew
 [(w.heap.size,
 [((0 : Nat), Value.int IntKind.i64 m), ((1 : Nat), Value.string s), ((2 : Nat), Value.int IntKind.i64 z),
 ((3 : Nat), Value.int IntKind.i64 a), ((4 : Nat), Value.int IntKind.u32 u)]),
 (w74.heap.size,
 [((0 : Nat), Value.int IntKind.i64 i75), ((1 : Nat), Value.string s76), ((2 : Nat), Value.int IntKind.i64 i77),
 ((3 : Nat), Value.int IntKind.i64 i78), ((4 : Nat), Value.int IntKind.u32 i79)])] →
 R (Ending.returned (Value.bool false)) w86.drew
 else
 Known w86.drew
 [(w.heap.size,
 [((0 : Nat), Value.int IntKind.i64 m), ((1 : Nat), Value.string s), ((2 : Nat), Value.int IntKind.i64 z),
 ((3 : Nat), Value.int IntKind.i64 a), ((4 : Nat), Value.int IntKind.u32 u)]),
 (w74.heap.size,
 [((0 : Nat), Value.int IntKind.i64 i75), ((1 : Nat), Value.string s76), ((2 : Nat), Value.int IntKind.i64 i77),
 ((3 : Nat), Value.int IntKind.i64 i78), ((4 : Nat), Value.int IntKind.u32 i79)])] →
 R (Ending.returned (Value.bool false)) w86.drew)
theorem vcTryd10 (m : Int) (s : ByteArray) (z a u : Int) (q1 : Option Addr) (n1 c1 : Nat) (q2 : Option Addr) (n2 c2 : Nat) (w : World) (R : Ending → World → Prop) : SX.vcFn Tryd.prog [] Tryd.f10 [.v (.agg #[.int .i64 m, .string s, .int .i64 z, .int .i64 a, .int .u32 u]), .v (.slice q1 n1 c1), .v (.slice q2 n2 c2)] [] w R = VCTryd10 m s z a u q1 n1 c1 q2 n2 c2 w R := by kernel_rfl
def VCTryd11 (m : Int) (s : ByteArray) (z a u : Int) (x y : Int) (w : World) (R : Ending → World → Prop) : Prop :=
bif decide ((↑s.size : Int) > (300 : Int)) then
 Known (w.alloc (Obj.cells #[Value.int IntKind.i64 m, Value.string s, Value.int IntKind.i64 z, Value.int IntKind.i64 a, Value.int IntKind.u32 u] (54 : Nat)))
   [(w.heap.size, [((0 : Nat), Value.int IntKind.i64 m), ((1 : Nat), Value.string s), ((2 : Nat), Value.int IntKind.i64 z), ((3 : Nat), Value.int IntKind.i64 a), ((4 : Nat), Value.int IntKind.u32 u)])] →
  Rets Tryd.prog (48 : Nat) #[] (w.alloc (Obj.cells #[Value.int IntKind.i64 m, Value.string s, Value.int IntKind.i64 z, Value.int IntKind.i64 a, Value.int IntKind.u32 u] (54 : Nat))) fun (v0 : Value) (w1 : World) =>
   ∃ (t2 : Bool),
    v0 = Value.bool t2 ∧
     Keeps (w.alloc (Obj.cells #[Value.int IntKind.i64 m, Value.string s, Value.int IntKind.i64 z, Value.int IntKind.i64 a, Value.int IntKind.u32 u] (54 : Nat))) w1 [w.heap.size] ∧
      (Known w1
        [(w.heap.size, [((0 : Nat), Value.int IntKind.i64 m), ((1 : Nat), Value.string s), ((2 : Nat), Value.int IntKind.i64 z), ((3 : Nat), Value.int IntKind.i64 a), ((4 : Nat), Value.int IntKind.u32 u)])] →
       R (Ending.returned (Value.bool t2)) w1)
else
 bif decide (x < (0 : Int)) then
  Known (w.alloc (Obj.cells #[Value.int IntKind.i64 m, Value.string s, Value.int IntKind.i64 z, Value.int IntKind.i64 a, Value.int IntKind.u32 u] (54 : Nat)))
    [(w.heap.size, [((0 : Nat), Value.int IntKind.i64 m), ((1 : Nat), Value.string s), ((2 : Nat), Value.int IntKind.i64 z), ((3 : Nat), Value.int IntKind.i64 a), ((4 : Nat), Value.int IntKind.u32 u)])] →
   Rets Tryd.prog (48 : Nat) #[] (w.alloc (Obj.cells #[Value.int IntKind.i64 m, Value.string s, Value.int IntKind.i64 z, Value.int IntKind.i64 a, Value.int IntKind.u32 u] (54 : Nat))) fun (v3 : Value) (w4 : World) =>
    ∃ (t5 : Bool),
     v3 = Value.bool t5 ∧
      Keeps (w.alloc (Obj.cells #[Value.int IntKind.i64 m, Value.string s, Value.int IntKind.i64 z, Value.int IntKind.i64 a, Value.int IntKind.u32 u] (54 : Nat))) w4 [w.heap.size] ∧
       (Known w4
         [(w.heap.size, [((0 : Nat), Value.int IntKind.i64 m), ((1 : Nat), Value.string s), ((2 : Nat), Value.int IntKind.i64 z), ((3 : Nat), Value.int IntKind.i64 a), ((4 : Nat), Value.int IntKind.u32 u)])] →
        R (Ending.returned (Value.bool t5)) w4)
 else
  bif decide (x > (3000 : Int)) then
   Known (w.alloc (Obj.cells #[Value.int IntKind.i64 m, Value.string s, Value.int IntKind.i64 z, Value.int IntKind.i64 a, Value.int IntKind.u32 u] (54 : Nat)))
     [(w.heap.size, [((0 : Nat), Value.int IntKind.i64 m), ((1 : Nat), Value.string s), ((2 : Nat), Value.int IntKind.i64 z), ((3 : Nat), Value.int IntKind.i64 a), ((4 : Nat), Value.int IntKind.u32 u)])] →
    Rets Tryd.prog (48 : Nat) #[] (w.alloc (Obj.cells #[Value.int IntKind.i64 m, Value.string s, Value.int IntKind.i64 z, Value.int IntKind.i64 a, Value.int IntKind.u32 u] (54 : Nat)))
     fun (v6 : Value) (w7 : World) =>
     ∃ (t8 : Bool),
      v6 = Value.bool t8 ∧
       Keeps (w.alloc (Obj.cells #[Value.int IntKind.i64 m, Value.string s, Value.int IntKind.i64 z, Value.int IntKind.i64 a, Value.int IntKind.u32 u] (54 : Nat))) w7 [w.heap.size] ∧
        (Known w7
          [(w.heap.size, [((0 : Nat), Value.int IntKind.i64 m), ((1 : Nat), Value.string s), ((2 : Nat), Value.int IntKind.i64 z), ((3 : Nat), Value.int IntKind.i64 a), ((4 : Nat), Value.int IntKind.u32 u)])] →
         R (Ending.returned (Value.bool t8)) w7)
  else
   Known (w.alloc (Obj.cells #[Value.int IntKind.i64 m, Value.string s, Value.int IntKind.i64 z, Value.int IntKind.i64 a, Value.int IntKind.u32 u] (54 : Nat)))
     [(w.heap.size, [((0 : Nat), Value.int IntKind.i64 m), ((1 : Nat), Value.string s), ((2 : Nat), Value.int IntKind.i64 z), ((3 : Nat), Value.int IntKind.i64 a), ((4 : Nat), Value.int IntKind.u32 u)])] →
    Rets Tryd.prog (26 : Nat) #[] (w.alloc (Obj.cells #[Value.int IntKind.i64 m, Value.string s, Value.int IntKind.i64 z, Value.int IntKind.i64 a, Value.int IntKind.u32 u] (54 : Nat)))
     fun (v9 : Value) (w10 : World) =>
     ∃ (x11 : Array Value),
      v9 = Value.agg x11 ∧
       Keeps (w.alloc (Obj.cells #[Value.int IntKind.i64 m, Value.string s, Value.int IntKind.i64 z, Value.int IntKind.i64 a, Value.int IntKind.u32 u] (54 : Nat))) w10 [w.heap.size] ∧
        Runs Tryd.prog (Instr.storeAt (25 : Nat) (Value.pointer (some { block := w10.heap.size, off := (0 : Nat) })) (Value.agg x11)) (w10.alloc (Obj.cells (zeroA Tryd.prog (25 : Nat)) (25 : Nat)))
         fun (x12 : Unit) (w13 : World) =>
         Keeps (w10.alloc (Obj.cells (zeroA Tryd.prog (25 : Nat)) (25 : Nat))) w13 [w.heap.size] ∧
          (Known w13
            [(w.heap.size,
              [((0 : Nat), Value.int IntKind.i64 m), ((1 : Nat), Value.string s), ((2 : Nat), Value.int IntKind.i64 z), ((3 : Nat), Value.int IntKind.i64 a), ((4 : Nat), Value.int IntKind.u32 u)])] →
           Rets Tryd.prog (49 : Nat)
            #[Value.pointer (some { block := w10.heap.size, off := (0 : Nat) }),
             Value.agg #[Value.int IntKind.i64 m, Value.string s, Value.int IntKind.i64 z, Value.int IntKind.i64 a, Value.int IntKind.u32 u]]
            w13 fun (v14 : Value) (w15 : World) =>
            ∃ (q16 : Option Addr),
             ∃ (n17 : Nat),
              ∃ (n18 : Nat),
               ∃ (i19 : Int),
                v14 = Value.tuple #[Value.slice q16 n17 n18, Value.int IntKind.i64 i19] ∧
                 Keeps w13 w15 [w.heap.size] ∧
                  bif i19 != (0 : Int) then
                   bif i19 != (0 : Int) then
                    Known w15
                      [(w.heap.size,
                        [((0 : Nat), Value.int IntKind.i64 m), ((1 : Nat), Value.string s), ((2 : Nat), Value.int IntKind.i64 z), ((3 : Nat), Value.int IntKind.i64 a),
                         ((4 : Nat), Value.int IntKind.u32 u)])] →
                     Rets Tryd.prog (48 : Nat) #[] w15 fun (v20 : Value) (w21 : World) =>
                      ∃ (t22 : Bool),
                       v20 = Value.bool t22 ∧
                        Keeps w15 w21 [w.heap.size] ∧
                         (Known w21
                           [(w.heap.size,
                             [((0 : Nat), Value.int IntKind.i64 m), ((1 : Nat), Value.string s), ((2 : Nat), Value.int IntKind.i64 z), ((3 : Nat), Value.int IntKind.i64 a),
                              ((4 : Nat), Value.int IntKind.u32 u)])] →
                          R (Ending.returned (Value.bool t22)) w21)
                   else
                    Known w15
                      [(w.heap.size,
                        [((0 : Nat), Value.int IntKind.i64 m), ((1 : Nat), Value.string s), ((2 : Nat), Value.int IntKind.i64 z), ((3 : Nat), Value.int IntKind.i64 a),
                         ((4 : Nat), Value.int IntKind.u32 u)])] →
                     R (Ending.returned (Value.bool false)) w15
                  else
                   bif decide ((↑n17 : Int) < (6 : Int)) then
                    bif i19 != (0 : Int) then
                     Known w15
                       [(w.heap.size,
                         [((0 : Nat), Value.int IntKind.i64 m), ((1 : Nat), Value.string s), ((2 : Nat), Value.int IntKind.i64 z), ((3 : Nat), Value.int IntKind.i64 a),
                          ((4 : Nat), Value.int IntKind.u32 u)])] →
                      Rets Tryd.prog (48 : Nat) #[] w15 fun (v23 : Value) (w24 : World) =>
                       ∃ (t25 : Bool),
                        v23 = Value.bool t25 ∧
                         Keeps w15 w24 [w.heap.size] ∧
                          (Known w24
                            [(w.heap.size,
                              [((0 : Nat), Value.int IntKind.i64 m), ((1 : Nat), Value.string s), ((2 : Nat), Value.int IntKind.i64 z), ((3 : Nat), Value.int IntKind.i64 a),
                               ((4 : Nat), Value.int IntKind.u32 u)])] →
                           R (Ending.returned (Value.bool t25)) w24)
                    else
                     Known w15
                       [(w.heap.size,
                         [((0 : Nat), Value.int IntKind.i64 m), ((1 : Nat), Value.string s), ((2 : Nat), Value.int IntKind.i64 z), ((3 : Nat), Value.int IntKind.i64 a),
                          ((4 : Nat), Value.int IntKind.u32 u)])] →
                      R (Ending.returned (Value.bool false)) w15
                   else
                    Known w15
                      [(w.heap.size,
                        [((0 : Nat), Value.int IntKind.i64 m), ((1 : Nat), Value.string s), ((2 : Nat), Value.int IntKind.i64 z), ((3 : Nat), Value.int IntKind.i64 a),
                         ((4 : Nat), Value.int IntKind.u32 u)])] →
                     Rets Tryd.prog (34 : Nat) #[Value.slice q16 n17 n18, Value.int IntKind.i64 x, Value.int IntKind.u32 y] w15 fun (v26 : Value) (w27 : World) =>
                      ∃ (q28 : Option Addr),
                       ∃ (n29 : Nat),
                        ∃ (n30 : Nat),
                         v26 = Value.slice q28 n29 n30 ∧
                          Keeps w15 w27 [w.heap.size] ∧
                           ((0 : Int) ≤ (5 : Int) ∧ (5 : Int) < (↑n29 : Int)) ∧
                            SX.Ptr q28 fun (a31 : Addr) =>
                             ∃ (i32 : Int),
                              w27.drew.cell? (a31.add (5 : Nat)) = some (Value.int IntKind.u8 i32) ∧
                               ((0 : Int) ≤ (5 : Int) ∧ (5 : Int) < (↑n17 : Int)) ∧
                                SX.Ptr q16 fun (a33 : Addr) =>
                                 ∃ (i34 : Int),
                                  w27.drew.cell? (a33.add (5 : Nat)) = some (Value.int IntKind.u8 i34) ∧
                                   bif i32 != i34 then
                                    Known w27.drew
                                      [(w.heap.size,
                                        [((0 : Nat), Value.int IntKind.i64 m), ((1 : Nat), Value.string s), ((2 : Nat), Value.int IntKind.i64 z),
                                         ((3 : Nat), Value.int IntKind.i64 a), ((4 : Nat), Value.int IntKind.u32 u)])] →
                                     Rets Tryd.prog (48 : Nat) #[] w27.drew fun (v35 : Value) (w36 : World) =>
                                      ∃ (t37 : Bool),
                                       v35 = Value.bool t37 ∧
                                        Keeps w27.drew w36 [w.heap.size] ∧
                                         (Known w36
                                           [(w.heap.size,
                                             [((0 : Nat), Value.int IntKind.i64 m), ((1 : Nat), Value.string s), ((2 : Nat), Value.int IntKind.i64 z),
                                              ((3 : Nat), Value.int IntKind.i64 a), ((4 : Nat), Value.int IntKind.u32 u)])] →
                                          R (Ending.returned (Value.bool t37)) w36)
                                   else
                                    Known w27.drew
                                      [(w.heap.size,
                                        [((0 : Nat), Value.int IntKind.i64 m), ((1 : Nat), Value.string s), ((2 : Nat), Value.int IntKind.i64 z),
                                         ((3 : Nat), Value.int IntKind.i64 a), ((4 : Nat), Value.int IntKind.u32 u)])] →
                                     Rets Tryd.prog (54 : Nat)
                                      #[Value.pointer (some { block := w10.heap.size, off := (0 : Nat) }), Value.slice q28 n29 n30, Value.int IntKind.i64 (0 : Int)] w27.drew
                                      fun (v38 : Value) (w39 : World) =>
                                      ∃ (i40 : Int),
                                       ∃ (s41 : ByteArray),
                                        ∃ (i42 : Int),
                                         ∃ (i43 : Int),
                                          ∃ (i44 : Int),
                                           ∃ (i45 : Int),
                                            ∃ (i46 : Int),
                                             v38 =
                                               Value.tuple
                                                #[Value.agg
                                                  #[Value.int IntKind.i64 i40, Value.string s41, Value.int IntKind.i64 i42, Value.int IntKind.i64 i43,
                                                   Value.int IntKind.u32 i44],
                                                 Value.int IntKind.i64 i45, Value.int IntKind.i64 i46] ∧
                                              Keeps w27.drew w39 [w.heap.size] ∧
                                               (Known
                                                 ((((((w39.alloc
                                                            (Obj.cells
                                                             #[Value.int IntKind.i64 (0 : Int), Value.string { data := #[] }, Value.int IntKind.i64 (0 : Int),
                                                              Value.int IntKind.i64 (0 : Int), Value.int IntKind.u32 (0 : Int)]
                                                             (54 : Nat))).setCell
                                                          {block := w39.heap.size, off := (0 : Nat) } (Value.int IntKind.i64 i40)).setCell
                                                        {block := w39.heap.size, off := (1 : Nat) } (Value.string s41)).setCell
                                                      {block := w39.heap.size, off := (2 : Nat) } (Value.int IntKind.i64 i42)).setCell
                                                    {block := w39.heap.size, off := (3 : Nat) } (Value.int IntKind.i64 i43)).setCell
                                                  {block := w39.heap.size, off := (4 : Nat) } (Value.int IntKind.u32 i44))
                                                 [(w.heap.size,
                                                   [((0 : Nat), Value.int IntKind.i64 m), ((1 : Nat), Value.string s), ((2 : Nat), Value.int IntKind.i64 z),
                                                    ((3 : Nat), Value.int IntKind.i64 a), ((4 : Nat), Value.int IntKind.u32 u)]),
                                                  (w39.heap.size,
                                                   [((0 : Nat), Value.int IntKind.i64 i40), ((1 : Nat), Value.string s41), ((2 : Nat), Value.int IntKind.i64 i42),
                                                    ((3 : Nat), Value.int IntKind.i64 i43), ((4 : Nat), Value.int IntKind.u32 i44)])] →
                                                Rets Tryd.prog (35 : Nat) #[Value.slice q16 n17 n18, Value.slice q28 n29 n30]
                                                 ((((((w39.alloc
                                                            (Obj.cells
                                                             #[Value.int IntKind.i64 (0 : Int), Value.string { data := #[] }, Value.int IntKind.i64 (0 : Int),
                                                              Value.int IntKind.i64 (0 : Int), Value.int IntKind.u32 (0 : Int)]
                                                             (54 : Nat))).setCell
                                                          {block := w39.heap.size, off := (0 : Nat) } (Value.int IntKind.i64 i40)).setCell
                                                        {block := w39.heap.size, off := (1 : Nat) } (Value.string s41)).setCell
                                                      {block := w39.heap.size, off := (2 : Nat) } (Value.int IntKind.i64 i42)).setCell
                                                    {block := w39.heap.size, off := (3 : Nat) } (Value.int IntKind.i64 i43)).setCell
                                                  {block := w39.heap.size, off := (4 : Nat) } (Value.int IntKind.u32 i44))
                                                 fun (v47 : Value) (w48 : World) =>
                                                 ∃ (t49 : Bool),
                                                  v47 = Value.bool t49 ∧
                                                   Keeps
                                                     ((((((w39.alloc
                                                                (Obj.cells
                                                                 #[Value.int IntKind.i64 (0 : Int), Value.string { data := #[] },
                                                                  Value.int IntKind.i64 (0 : Int), Value.int IntKind.i64 (0 : Int),
                                                                  Value.int IntKind.u32 (0 : Int)]
                                                                 (54 : Nat))).setCell
                                                              {block := w39.heap.size, off := (0 : Nat) } (Value.int IntKind.i64 i40)).setCell
                                                            {block := w39.heap.size, off := (1 : Nat) } (Value.string s41)).setCell
                                                          {block := w39.heap.size, off := (2 : Nat) } (Value.int IntKind.i64 i42)).setCell
                                                        {block := w39.heap.size, off := (3 : Nat) } (Value.int IntKind.i64 i43)).setCell
                                                      {block := w39.heap.size, off := (4 : Nat) } (Value.int IntKind.u32 i44))
                                                     w48 [w.heap.size, w39.heap.size] ∧
                                                    bif t49 then
                                                     bif i46 == (0 : Int) then
                                                      true = true ∧
                                                       bif i40 == m && (s41.toList == s.toList && (i42 == z && (i43 == a && i44 == u))) then
                                                        Known w48
                                                          [(w.heap.size,
                                                            [((0 : Nat), Value.int IntKind.i64 m), ((1 : Nat), Value.string s),
                                                             ((2 : Nat), Value.int IntKind.i64 z), ((3 : Nat), Value.int IntKind.i64 a),
                                                             ((4 : Nat), Value.int IntKind.u32 u)]),
                                                           (w39.heap.size,
                                                            [((0 : Nat), Value.int IntKind.i64 i40), ((1 : Nat), Value.string s41),
                                                             ((2 : Nat), Value.int IntKind.i64 i42), ((3 : Nat), Value.int IntKind.i64 i43),
                                                             ((4 : Nat), Value.int IntKind.u32 i44)])] →
                                                         Rets Tryd.prog (48 : Nat) #[] w48 fun (v50 : Value) (w51 : World) =>
                                                          ∃ (t52 : Bool),
                                                           v50 = Value.bool t52 ∧
                                                            Keeps w48 w51 [w.heap.size, w39.heap.size] ∧
                                                             (Known w51
                                                               [(w.heap.size,
                                                                 [((0 : Nat), Value.int IntKind.i64 m), ((1 : Nat), Value.string s),
                                                                  ((2 : Nat), Value.int IntKind.i64 z), ((3 : Nat), Value.int IntKind.i64 a),
                                                                  ((4 : Nat), Value.int IntKind.u32 u)]),
                                                                (w39.heap.size,
                                                                 [((0 : Nat), Value.int IntKind.i64 i40), ((1 : Nat), Value.string s41),
                                                                  ((2 : Nat), Value.int IntKind.i64 i42), ((3 : Nat), Value.int IntKind.i64 i43),
                                                                  ((4 : Nat), Value.int IntKind.u32 i44)])] →
                                                              R (Ending.returned (Value.bool t52)) w51)
                                                       else
                                                        Known w48
                                                          [(w.heap.size,
                                                            [((0 : Nat), Value.int IntKind.i64 m), ((1 : Nat), Value.string s),
                                                             ((2 : Nat), Value.int IntKind.i64 z), ((3 : Nat), Value.int IntKind.i64 a),
                                                             ((4 : Nat), Value.int IntKind.u32 u)]),
                                                           (w39.heap.size,
                                                            [((0 : Nat), Value.int IntKind.i64 i40), ((1 : Nat), Value.string s41),
                                                             ((2 : Nat), Value.int IntKind.i64 i42), ((3 : Nat), Value.int IntKind.i64 i43),
                                                             ((4 : Nat), Value.int IntKind.u32 i44)])] →
                                                         R (Ending.returned (Value.bool false)) w48
                                                     else
                                                      Known w48
                                                        [(w.heap.size,
                                                          [((0 : Nat), Value.int IntKind.i64 m), ((1 : Nat), Value.string s),
                                                           ((2 : Nat), Value.int IntKind.i64 z), ((3 : Nat), Value.int IntKind.i64 a),
                                                           ((4 : Nat), Value.int IntKind.u32 u)]),
                                                         (w39.heap.size,
                                                          [((0 : Nat), Value.int IntKind.i64 i40), ((1 : Nat), Value.string s41),
                                                           ((2 : Nat), Value.int IntKind.i64 i42), ((3 : Nat), Value.int IntKind.i64 i43),
                                                           ((4 : Nat), Value.int IntKind.u32 i44)])] →
                                                       R (Ending.returned (Value.bool false)) w48
                                                    else
                                                     bif i46 == (3 : Int) then
                                                      true = true ∧
                                                       bif
                                                         i40 == (0 : Int) &&
                                                          (s41.toList == ({ data := #[] } : ByteArray).toList &&
                                                           (i42 == (0 : Int) && (i43 == (0 : Int) && i44 == (0 : Int)))) then
                                                        Known w48
                                                          [(w.heap.size,
                                                            [((0 : Nat), Value.int IntKind.i64 m), ((1 : Nat), Value.string s),
                                                             ((2 : Nat), Value.int IntKind.i64 z), ((3 : Nat), Value.int IntKind.i64 a),
                                                             ((4 : Nat), Value.int IntKind.u32 u)]),
                                                           (w39.heap.size,
                                                            [((0 : Nat), Value.int IntKind.i64 i40), ((1 : Nat), Value.string s41),
                                                             ((2 : Nat), Value.int IntKind.i64 i42), ((3 : Nat), Value.int IntKind.i64 i43),
                                                             ((4 : Nat), Value.int IntKind.u32 i44)])] →
                                                         Rets Tryd.prog (48 : Nat) #[] w48 fun (v53 : Value) (w54 : World) =>
                                                          ∃ (t55 : Bool),
                                                           v53 = Value.bool t55 ∧
                                                            Keeps w48 w54 [w.heap.size, w39.heap.size] ∧
                                                             (Known w54
                                                               [(w.heap.size,
                                                                 [((0 : Nat), Value.int IntKind.i64 m), ((1 : Nat), Value.string s),
                                                                  ((2 : Nat), Value.int IntKind.i64 z), ((3 : Nat), Value.int IntKind.i64 a),
                                                                  ((4 : Nat), Value.int IntKind.u32 u)]),
                                                                (w39.heap.size,
                                                                 [((0 : Nat), Value.int IntKind.i64 i40), ((1 : Nat), Value.string s41),
                                                                  ((2 : Nat), Value.int IntKind.i64 i42), ((3 : Nat), Value.int IntKind.i64 i43),
                                                                  ((4 : Nat), Value.int IntKind.u32 i44)])] →
                                                              R (Ending.returned (Value.bool t55)) w54)
                                                       else
                                                        Known w48
                                                          [(w.heap.size,
                                                            [((0 : Nat), Value.int IntKind.i64 m), ((1 : Nat), Value.string s),
                                                             ((2 : Nat), Value.int IntKind.i64 z), ((3 : Nat), Value.int IntKind.i64 a),
                                                             ((4 : Nat), Value.int IntKind.u32 u)]),
                                                           (w39.heap.size,
                                                            [((0 : Nat), Value.int IntKind.i64 i40), ((1 : Nat), Value.string s41),
                                                             ((2 : Nat), Value.int IntKind.i64 i42), ((3 : Nat), Value.int IntKind.i64 i43),
                                                             ((4 : Nat), Value.int IntKind.u32 i44)])] →
                                                         R (Ending.returned (Value.bool false)) w48
                                                     else
                                                      bif i46 == (4 : Int) then
                                                       true = true ∧
                                                        bif
                                                          i40 == (0 : Int) &&
                                                           (s41.toList == ({ data := #[] } : ByteArray).toList &&
                                                            (i42 == (0 : Int) && (i43 == (0 : Int) && i44 == (0 : Int)))) then
                                                         Known w48
                                                           [(w.heap.size,
                                                             [((0 : Nat), Value.int IntKind.i64 m), ((1 : Nat), Value.string s),
                                                              ((2 : Nat), Value.int IntKind.i64 z), ((3 : Nat), Value.int IntKind.i64 a),
                                                              ((4 : Nat), Value.int IntKind.u32 u)]),
                                                            (w39.heap.size,
                                                             [((0 : Nat), Value.int IntKind.i64 i40), ((1 : Nat), Value.string s41),
                                                              ((2 : Nat), Value.int IntKind.i64 i42), ((3 : Nat), Value.int IntKind.i64 i43),
                                                              ((4 : Nat), Value.int IntKind.u32 i44)])] →
                                                          Rets Tryd.prog (48 : Nat) #[] w48 fun (v56 : Value) (w57 : World) =>
                                                           ∃ (t58 : Bool),
                                                            v56 = Value.bool t58 ∧
                                                             Keeps w48 w57 [w.heap.size, w39.heap.size] ∧
                                                              (Known w57
                                                                [(w.heap.size,
                                                                  [((0 : Nat), Value.int IntKind.i64 m), ((1 : Nat), Value.string s),
                                                                   ((2 : Nat), Value.int IntKind.i64 z), ((3 : Nat), Value.int IntKind.i64 a),
                                                                   ((4 : Nat), Value.int IntKind.u32 u)]),
                                                                 (w39.heap.size,
                                                                  [((0 : Nat), Value.int IntKind.i64 i40), ((1 : Nat), Value.string s41),
                                                                   ((2 : Nat), Value.int IntKind.i64 i42), ((3 : Nat), Value.int IntKind.i64 i43),
                                                                   ((4 : Nat), Value.int IntKind.u32 i44)])] →
                                                               R (Ending.returned (Value.bool t58)) w57)
                                                        else
                                                         Known w48
                                                           [(w.heap.size,
                                                             [((0 : Nat), Value.int IntKind.i64 m), ((1 : Nat), Value.string s),
                                                              ((2 : Nat), Value.int IntKind.i64 z), ((3 : Nat), Value.int IntKind.i64 a),
                                                              ((4 : Nat), Value.int IntKind.u32 u)]),
                                                            (w39.heap.size,
                                                             [((0 : Nat), Value.int IntKind.i64 i40), ((1 : Nat), Value.string s41),
                                                              ((2 : Nat), Value.int IntKind.i64 i42), ((3 : Nat), Value.int IntKind.i64 i43),
                                                              ((4 : Nat), Value.int IntKind.u32 i44)])] →
                                                          R (Ending.returned (Value.bool false)) w48
                                                      else
                                                       Known w48
                                                         [(w.heap.size,
                                                           [((0 : Nat), Value.int IntKind.i64 m), ((1 : Nat), Value.string s),
                                                            ((2 : Nat), Value.int IntKind.i64 z), ((3 : Nat), Value.int IntKind.i64 a),
                                                            ((4 : Nat), Value.int IntKind.u32 u)]),
                                                          (w39.heap.size,
                                                           [((0 : Nat), Value.int IntKind.i64 i40), ((1 : Nat), Value.string s41),
                                                            ((2 : Nat), Value.int IntKind.i64 i42), ((3 : Nat), Value.int IntKind.i64 i43),
                                                            ((4 : Nat), Value.int IntKind.u32 i44)])] →
                                                        R (Ending.returned (Value.bool false)) w48))
theorem vcTryd11 (m : Int) (s : ByteArray) (z a u : Int) (x y : Int) (w : World) (R : Ending → World → Prop) : SX.vcFn Tryd.prog [] Tryd.f11 [.v (.agg #[.int .i64 m, .string s, .int .i64 z, .int .i64 a, .int .u32 u]), .v (.int .i64 x), .v (.int .u32 y)] [] w R = VCTryd11 m s z a u x y w R := by kernel_rfl
end Go.Proofs.YtbpknjldphckgaaDoor
