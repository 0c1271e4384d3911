/- The conditions of functions, as the executor computes them: each is equal to what 'vcFn' says. -/
import Derived.Test.YtodgnegbaigdbaaSxLib
import Derived.Test.YtodgnegbaigdbaaProg
namespace Go.Proofs.Ytodgnegbaigdbaa
open Go Go.SX Go.Proofs
set_option maxRecDepth 100000
set_option linter.unusedVariables false
def VCTry27 (p0 : Option Addr) (p1 : Int) (p2 : Int) (w : World) (R : Ending → World → Prop) : Prop :=
bif p0.isNone then
  Known
      (((((((w.alloc (Obj.cells #[Value.pointer p0] (37 : Nat))).alloc (Obj.cells #[Value.int IntKind.i64 p1] (3 : Nat))).alloc (Obj.cells #[Value.int IntKind.i64 p2] (3 : Nat))).alloc
                    (Obj.cells #[Value.int IntKind.i64 (0 : Int)] (3 : Nat))).alloc
                (Obj.cells #[Value.int IntKind.i64 (0 : Int)] (3 : Nat))).setCell
            { block := (((w.alloc (Obj.cells #[Value.pointer p0] (37 : Nat))).alloc (Obj.cells #[Value.int IntKind.i64 p1] (3 : Nat))).alloc (Obj.cells #[Value.int IntKind.i64 p2] (3 : Nat))).heap.size,
              off := (0 : Nat) }
            (Value.int IntKind.i64 (0 : Int))).setCell
        {
          block :=
            ((((w.alloc (Obj.cells #[Value.pointer p0] (37 : Nat))).alloc (Obj.cells #[Value.int IntKind.i64 p1] (3 : Nat))).alloc (Obj.cells #[Value.int IntKind.i64 p2] (3 : Nat))).alloc
                  (Obj.cells #[Value.int IntKind.i64 (0 : Int)] (3 : Nat))).heap.size,
          off := (0 : Nat) }
        (Value.int IntKind.i64 (0 : Int)))
      [(w.heap.size, [((0 : Nat), Value.pointer p0)]), ((w.alloc (Obj.cells #[Value.pointer p0] (37 : Nat))).heap.size, [((0 : Nat), Value.int IntKind.i64 p1)]),
        (((w.alloc (Obj.cells #[Value.pointer p0] (37 : Nat))).alloc (Obj.cells #[Value.int IntKind.i64 p1] (3 : Nat))).heap.size, [((0 : Nat), Value.int IntKind.i64 p2)]),
        ((((w.alloc (Obj.cells #[Value.pointer p0] (37 : Nat))).alloc (Obj.cells #[Value.int IntKind.i64 p1] (3 : Nat))).alloc (Obj.cells #[Value.int IntKind.i64 p2] (3 : Nat))).heap.size,
          [((0 : Nat), Value.int IntKind.i64 (0 : Int))]),
        (((((w.alloc (Obj.cells #[Value.pointer p0] (37 : Nat))).alloc (Obj.cells #[Value.int IntKind.i64 p1] (3 : Nat))).alloc (Obj.cells #[Value.int IntKind.i64 p2] (3 : Nat))).alloc
                (Obj.cells #[Value.int IntKind.i64 (0 : Int)] (3 : Nat))).heap.size,
          [((0 : Nat), Value.int IntKind.i64 (0 : Int))])] →
    R (Ending.returned (Value.tuple #[Value.int IntKind.i64 (0 : Int), Value.int IntKind.i64 (0 : Int)]))
      (((((((w.alloc (Obj.cells #[Value.pointer p0] (37 : Nat))).alloc (Obj.cells #[Value.int IntKind.i64 p1] (3 : Nat))).alloc (Obj.cells #[Value.int IntKind.i64 p2] (3 : Nat))).alloc
                    (Obj.cells #[Value.int IntKind.i64 (0 : Int)] (3 : Nat))).alloc
                (Obj.cells #[Value.int IntKind.i64 (0 : Int)] (3 : Nat))).setCell
            { block := (((w.alloc (Obj.cells #[Value.pointer p0] (37 : Nat))).alloc (Obj.cells #[Value.int IntKind.i64 p1] (3 : Nat))).alloc (Obj.cells #[Value.int IntKind.i64 p2] (3 : Nat))).heap.size,
              off := (0 : Nat) }
            (Value.int IntKind.i64 (0 : Int))).setCell
        {
          block :=
            ((((w.alloc (Obj.cells #[Value.pointer p0] (37 : Nat))).alloc (Obj.cells #[Value.int IntKind.i64 p1] (3 : Nat))).alloc (Obj.cells #[Value.int IntKind.i64 p2] (3 : Nat))).alloc
                  (Obj.cells #[Value.int IntKind.i64 (0 : Int)] (3 : Nat))).heap.size,
          off := (0 : Nat) }
        (Value.int IntKind.i64 (0 : Int)))
else
  bif decide (p2 < (1 : Int)) then
    Known
        (((((((w.alloc (Obj.cells #[Value.pointer p0] (37 : Nat))).alloc (Obj.cells #[Value.int IntKind.i64 p1] (3 : Nat))).alloc (Obj.cells #[Value.int IntKind.i64 p2] (3 : Nat))).alloc
                      (Obj.cells #[Value.int IntKind.i64 (0 : Int)] (3 : Nat))).alloc
                  (Obj.cells #[Value.int IntKind.i64 (0 : Int)] (3 : Nat))).setCell
              { block := (((w.alloc (Obj.cells #[Value.pointer p0] (37 : Nat))).alloc (Obj.cells #[Value.int IntKind.i64 p1] (3 : Nat))).alloc (Obj.cells #[Value.int IntKind.i64 p2] (3 : Nat))).heap.size,
                off := (0 : Nat) }
              (Value.int IntKind.i64 (0 : Int))).setCell
          {
            block :=
              ((((w.alloc (Obj.cells #[Value.pointer p0] (37 : Nat))).alloc (Obj.cells #[Value.int IntKind.i64 p1] (3 : Nat))).alloc (Obj.cells #[Value.int IntKind.i64 p2] (3 : Nat))).alloc
                    (Obj.cells #[Value.int IntKind.i64 (0 : Int)] (3 : Nat))).heap.size,
            off := (0 : Nat) }
          (Value.int IntKind.i64 (0 : Int)))
        [(w.heap.size, [((0 : Nat), Value.pointer p0)]), ((w.alloc (Obj.cells #[Value.pointer p0] (37 : Nat))).heap.size, [((0 : Nat), Value.int IntKind.i64 p1)]),
          (((w.alloc (Obj.cells #[Value.pointer p0] (37 : Nat))).alloc (Obj.cells #[Value.int IntKind.i64 p1] (3 : Nat))).heap.size, [((0 : Nat), Value.int IntKind.i64 p2)]),
          ((((w.alloc (Obj.cells #[Value.pointer p0] (37 : Nat))).alloc (Obj.cells #[Value.int IntKind.i64 p1] (3 : Nat))).alloc (Obj.cells #[Value.int IntKind.i64 p2] (3 : Nat))).heap.size,
            [((0 : Nat), Value.int IntKind.i64 (0 : Int))]),
          (((((w.alloc (Obj.cells #[Value.pointer p0] (37 : Nat))).alloc (Obj.cells #[Value.int IntKind.i64 p1] (3 : Nat))).alloc (Obj.cells #[Value.int IntKind.i64 p2] (3 : Nat))).alloc
                  (Obj.cells #[Value.int IntKind.i64 (0 : Int)] (3 : Nat))).heap.size,
            [((0 : Nat), Value.int IntKind.i64 (0 : Int))])] →
      R (Ending.returned (Value.tuple #[Value.int IntKind.i64 (0 : Int), Value.int IntKind.i64 (0 : Int)]))
        (((((((w.alloc (Obj.cells #[Value.pointer p0] (37 : Nat))).alloc (Obj.cells #[Value.int IntKind.i64 p1] (3 : Nat))).alloc (Obj.cells #[Value.int IntKind.i64 p2] (3 : Nat))).alloc
                      (Obj.cells #[Value.int IntKind.i64 (0 : Int)] (3 : Nat))).alloc
                  (Obj.cells #[Value.int IntKind.i64 (0 : Int)] (3 : Nat))).setCell
              { block := (((w.alloc (Obj.cells #[Value.pointer p0] (37 : Nat))).alloc (Obj.cells #[Value.int IntKind.i64 p1] (3 : Nat))).alloc (Obj.cells #[Value.int IntKind.i64 p2] (3 : Nat))).heap.size,
                off := (0 : Nat) }
              (Value.int IntKind.i64 (0 : Int))).setCell
          {
            block :=
              ((((w.alloc (Obj.cells #[Value.pointer p0] (37 : Nat))).alloc (Obj.cells #[Value.int IntKind.i64 p1] (3 : Nat))).alloc (Obj.cells #[Value.int IntKind.i64 p2] (3 : Nat))).alloc
                    (Obj.cells #[Value.int IntKind.i64 (0 : Int)] (3 : Nat))).heap.size,
            off := (0 : Nat) }
          (Value.int IntKind.i64 (0 : Int)))
  else
    Known
        (((((w.alloc (Obj.cells #[Value.pointer p0] (37 : Nat))).alloc (Obj.cells #[Value.int IntKind.i64 p1] (3 : Nat))).alloc (Obj.cells #[Value.int IntKind.i64 p2] (3 : Nat))).alloc
              (Obj.cells #[Value.int IntKind.i64 (0 : Int)] (3 : Nat))).alloc
          (Obj.cells #[Value.int IntKind.i64 (0 : Int)] (3 : Nat)))
        [(w.heap.size, [((0 : Nat), Value.pointer p0)]), ((w.alloc (Obj.cells #[Value.pointer p0] (37 : Nat))).heap.size, [((0 : Nat), Value.int IntKind.i64 p1)]),
          (((w.alloc (Obj.cells #[Value.pointer p0] (37 : Nat))).alloc (Obj.cells #[Value.int IntKind.i64 p1] (3 : Nat))).heap.size, [((0 : Nat), Value.int IntKind.i64 p2)]),
          ((((w.alloc (Obj.cells #[Value.pointer p0] (37 : Nat))).alloc (Obj.cells #[Value.int IntKind.i64 p1] (3 : Nat))).alloc (Obj.cells #[Value.int IntKind.i64 p2] (3 : Nat))).heap.size,
            [((0 : Nat), Value.int IntKind.i64 (0 : Int))]),
          (((((w.alloc (Obj.cells #[Value.pointer p0] (37 : Nat))).alloc (Obj.cells #[Value.int IntKind.i64 p1] (3 : Nat))).alloc (Obj.cells #[Value.int IntKind.i64 p2] (3 : Nat))).alloc
                  (Obj.cells #[Value.int IntKind.i64 (0 : Int)] (3 : Nat))).heap.size,
            [((0 : Nat), Value.int IntKind.i64 (0 : Int))])] →
      Rets Try.prog (50 : Nat) #[Value.pointer p0, Value.int IntKind.i64 p1]
        (((((w.alloc (Obj.cells #[Value.pointer p0] (37 : Nat))).alloc (Obj.cells #[Value.int IntKind.i64 p1] (3 : Nat))).alloc (Obj.cells #[Value.int IntKind.i64 p2] (3 : Nat))).alloc
              (Obj.cells #[Value.int IntKind.i64 (0 : Int)] (3 : Nat))).alloc
          (Obj.cells #[Value.int IntKind.i64 (0 : Int)] (3 : Nat)))
        fun (v0 : Value) (w1 : World) =>
        ∃ (v2 : Value),
          v0 = v2 ∧
            Keeps
                (((((w.alloc (Obj.cells #[Value.pointer p0] (37 : Nat))).alloc (Obj.cells #[Value.int IntKind.i64 p1] (3 : Nat))).alloc (Obj.cells #[Value.int IntKind.i64 p2] (3 : Nat))).alloc
                      (Obj.cells #[Value.int IntKind.i64 (0 : Int)] (3 : Nat))).alloc
                  (Obj.cells #[Value.int IntKind.i64 (0 : Int)] (3 : Nat)))
                w1
                [w.heap.size, (w.alloc (Obj.cells #[Value.pointer p0] (37 : Nat))).heap.size, ((w.alloc (Obj.cells #[Value.pointer p0] (37 : Nat))).alloc (Obj.cells #[Value.int IntKind.i64 p1] (3 : Nat))).heap.size,
                  (((w.alloc (Obj.cells #[Value.pointer p0] (37 : Nat))).alloc (Obj.cells #[Value.int IntKind.i64 p1] (3 : Nat))).alloc (Obj.cells #[Value.int IntKind.i64 p2] (3 : Nat))).heap.size,
                  ((((w.alloc (Obj.cells #[Value.pointer p0] (37 : Nat))).alloc (Obj.cells #[Value.int IntKind.i64 p1] (3 : Nat))).alloc (Obj.cells #[Value.int IntKind.i64 p2] (3 : Nat))).alloc
                        (Obj.cells #[Value.int IntKind.i64 (0 : Int)] (3 : Nat))).heap.size] ∧
              (Known w1
                  [(w.heap.size, [((0 : Nat), Value.pointer p0)]), ((w.alloc (Obj.cells #[Value.pointer p0] (37 : Nat))).heap.size, [((0 : Nat), Value.int IntKind.i64 p1)]),
                    (((w.alloc (Obj.cells #[Value.pointer p0] (37 : Nat))).alloc (Obj.cells #[Value.int IntKind.i64 p1] (3 : Nat))).heap.size, [((0 : Nat), Value.int IntKind.i64 p2)]),
                    ((((w.alloc (Obj.cells #[Value.pointer p0] (37 : Nat))).alloc (Obj.cells #[Value.int IntKind.i64 p1] (3 : Nat))).alloc (Obj.cells #[Value.int IntKind.i64 p2] (3 : Nat))).heap.size,
                      [((0 : Nat), Value.int IntKind.i64 (0 : Int))]),
                    (((((w.alloc (Obj.cells #[Value.pointer p0] (37 : Nat))).alloc (Obj.cells #[Value.int IntKind.i64 p1] (3 : Nat))).alloc (Obj.cells #[Value.int IntKind.i64 p2] (3 : Nat))).alloc
                            (Obj.cells #[Value.int IntKind.i64 (0 : Int)] (3 : Nat))).heap.size,
                      [((0 : Nat), Value.int IntKind.i64 (0 : Int))])] →
                ∀ (I3 : LoopState → Option Code → Obj),
                  (∀ (x4 : LoopState) (q5 : Option Code), (I3 x4 q5).isCells = false) →
                    (∀ (i6 i7 i8 i9 : Int) (w10 : World) (I11 : Value → World → Prop),
                        w10.heap[w1.heap.size + (1 : Nat)]? = some (I3 LoopState.ready none) →
                          Known w10
                              [(w.heap.size, [((0 : Nat), Value.pointer p0)]), ((w.alloc (Obj.cells #[Value.pointer p0] (37 : Nat))).heap.size, [((0 : Nat), Value.int IntKind.i64 p1)]),
                                (((w.alloc (Obj.cells #[Value.pointer p0] (37 : Nat))).alloc (Obj.cells #[Value.int IntKind.i64 p1] (3 : Nat))).heap.size, [((0 : Nat), Value.int IntKind.i64 i9)]),
                                ((((w.alloc (Obj.cells #[Value.pointer p0] (37 : Nat))).alloc (Obj.cells #[Value.int IntKind.i64 p1] (3 : Nat))).alloc (Obj.cells #[Value.int IntKind.i64 p2] (3 : Nat))).heap.size,
                                  [((0 : Nat), Value.int IntKind.i64 i7)]),
                                (((((w.alloc (Obj.cells #[Value.pointer p0] (37 : Nat))).alloc (Obj.cells #[Value.int IntKind.i64 p1] (3 : Nat))).alloc (Obj.cells #[Value.int IntKind.i64 p2] (3 : Nat))).alloc
                                        (Obj.cells #[Value.int IntKind.i64 (0 : Int)] (3 : Nat))).heap.size,
                                  [((0 : Nat), Value.int IntKind.i64 i8)])] →
                            (w10.heap[w1.heap.size + (1 : Nat)]? = some (I3 LoopState.ready none) ∧
                                SX.Ptr p0 fun (a16 : Addr) =>
                                  ∃ (q17 : Option Addr),
                                    ∃ (n18 : Nat),
                                      ∃ (n19 : Nat),
                                        (w10.putObj (w1.heap.size + (1 : Nat)) (I3 LoopState.busy none)).drew.cell? (a16.add (0 : Nat)) = some (Value.slice q17 n18 n19) ∧
                                          (Known (w10.putObj (w1.heap.size + (1 : Nat)) (I3 LoopState.busy none)).drew
                                              [(w.heap.size, [((0 : Nat), Value.pointer p0)]), ((w.alloc (Obj.cells #[Value.pointer p0] (37 : Nat))).heap.size, [((0 : Nat), Value.int IntKind.i64 p1)]),
                                                (((w.alloc (Obj.cells #[Value.pointer p0] (37 : Nat))).alloc (Obj.cells #[Value.int IntKind.i64 p1] (3 : Nat))).heap.size, [((0 : Nat), Value.int IntKind.i64 i9)]),
                                                ((((w.alloc (Obj.cells #[Value.pointer p0] (37 : Nat))).alloc (Obj.cells #[Value.int IntKind.i64 p1] (3 : Nat))).alloc
                                                        (Obj.cells #[Value.int IntKind.i64 p2] (3 : Nat))).heap.size,
                                                  [((0 : Nat), Value.int IntKind.i64 i7)]),
                                                (((((w.alloc (Obj.cells #[Value.pointer p0] (37 : Nat))).alloc (Obj.cells #[Value.int IntKind.i64 p1] (3 : Nat))).alloc
                                                            (Obj.cells #[Value.int IntKind.i64 p2] (3 : Nat))).alloc
                                                        (Obj.cells #[Value.int IntKind.i64 (0 : Int)] (3 : Nat))).heap.size,
                                                  [((0 : Nat), Value.int IntKind.i64 i8)])] →
                                            Rets Try.prog (23 : Nat) #[Value.slice q17 n18 n19, Value.int IntKind.i64 p1, Value.int IntKind.i64 i6] (w10.putObj (w1.heap.size + (1 : Nat)) (I3 LoopState.busy none)).drew
                                              fun (v20 : Value) (w21 : World) =>
                                              ∃ (i22 : Int),
                                                v20 = Value.int IntKind.i64 i22 ∧
                                                  Keeps (w10.putObj (w1.heap.size + (1 : Nat)) (I3 LoopState.busy none)).drew w21
                                                      [w.heap.size, (w.alloc (Obj.cells #[Value.pointer p0] (37 : Nat))).heap.size,
                                                        ((w.alloc (Obj.cells #[Value.pointer p0] (37 : Nat))).alloc (Obj.cells #[Value.int IntKind.i64 p1] (3 : Nat))).heap.size,
                                                        (((w.alloc (Obj.cells #[Value.pointer p0] (37 : Nat))).alloc (Obj.cells #[Value.int IntKind.i64 p1] (3 : Nat))).alloc
                                                              (Obj.cells #[Value.int IntKind.i64 p2] (3 : Nat))).heap.size,
                                                        ((((w.alloc (Obj.cells #[Value.pointer p0] (37 : Nat))).alloc (Obj.cells #[Value.int IntKind.i64 p1] (3 : Nat))).alloc
                                                                  (Obj.cells #[Value.int IntKind.i64 p2] (3 : Nat))).alloc
                                                              (Obj.cells #[Value.int IntKind.i64 (0 : Int)] (3 : Nat))).heap.size] ∧
                                                    bif decide (i22 > i7) then
                                                      Wr IntKind.i64 (i9 - (1 : Int)) fun (i23 : Int) =>
                                                        bif i23 == (0 : Int) then
                                                          Known
                                                              (((w21.setCell
                                                                        {
                                                                          block :=
                                                                            (((w.alloc (Obj.cells #[Value.pointer p0] (37 : Nat))).alloc (Obj.cells #[Value.int IntKind.i64 p1] (3 : Nat))).alloc
                                                                                  (Obj.cells #[Value.int IntKind.i64 p2] (3 : Nat))).heap.size,
                                                                          off := (0 : Nat) }
                                                                        (Value.int IntKind.i64 i22)).setCell
                                                                    {
                                                                      block :=
                                                                        ((((w.alloc (Obj.cells #[Value.pointer p0] (37 : Nat))).alloc (Obj.cells #[Value.int IntKind.i64 p1] (3 : Nat))).alloc
                                                                                  (Obj.cells #[Value.int IntKind.i64 p2] (3 : Nat))).alloc
                                                                              (Obj.cells #[Value.int IntKind.i64 (0 : Int)] (3 : Nat))).heap.size,
                                                                      off := (0 : Nat) }
                                                                    (Value.int IntKind.i64 i6)).setCell
                                                                { block := ((w.alloc (Obj.cells #[Value.pointer p0] (37 : Nat))).alloc (Obj.cells #[Value.int IntKind.i64 p1] (3 : Nat))).heap.size, off := (0 : Nat) }
                                                                (Value.int IntKind.i64 i23))
                                                              [(w.heap.size, [((0 : Nat), Value.pointer p0)]), ((w.alloc (Obj.cells #[Value.pointer p0] (37 : Nat))).heap.size, [((0 : Nat), Value.int IntKind.i64 p1)]),
                                                                (((w.alloc (Obj.cells #[Value.pointer p0] (37 : Nat))).alloc (Obj.cells #[Value.int IntKind.i64 p1] (3 : Nat))).heap.size,
                                                                  [((0 : Nat), Value.int IntKind.i64 i23)]),
                                                                ((((w.alloc (Obj.cells #[Value.pointer p0] (37 : Nat))).alloc (Obj.cells #[Value.int IntKind.i64 p1] (3 : Nat))).alloc
                                                                        (Obj.cells #[Value.int IntKind.i64 p2] (3 : Nat))).heap.size,
                                                                  [((0 : Nat), Value.int IntKind.i64 i22)]),
                                                                (((((w.alloc (Obj.cells #[Value.pointer p0] (37 : Nat))).alloc (Obj.cells #[Value.int IntKind.i64 p1] (3 : Nat))).alloc
                                                                            (Obj.cells #[Value.int IntKind.i64 p2] (3 : Nat))).alloc
                                                                        (Obj.cells #[Value.int IntKind.i64 (0 : Int)] (3 : Nat))).heap.size,
                                                                  [((0 : Nat), Value.int IntKind.i64 i6)])] →
                                                            (((w21.setCell
                                                                              {
                                                                                block :=
                                                                                  (((w.alloc (Obj.cells #[Value.pointer p0] (37 : Nat))).alloc (Obj.cells #[Value.int IntKind.i64 p1] (3 : Nat))).alloc
                                                                                        (Obj.cells #[Value.int IntKind.i64 p2] (3 : Nat))).heap.size,
                                                                                off := (0 : Nat) }
                                                                              (Value.int IntKind.i64 i22)).setCell
                                                                          {
                                                                            block :=
                                                                              ((((w.alloc (Obj.cells #[Value.pointer p0] (37 : Nat))).alloc (Obj.cells #[Value.int IntKind.i64 p1] (3 : Nat))).alloc
                                                                                        (Obj.cells #[Value.int IntKind.i64 p2] (3 : Nat))).alloc
                                                                                    (Obj.cells #[Value.int IntKind.i64 (0 : Int)] (3 : Nat))).heap.size,
                                                                            off := (0 : Nat) }
                                                                          (Value.int IntKind.i64 i6)).setCell
                                                                      { block := ((w.alloc (Obj.cells #[Value.pointer p0] (37 : Nat))).alloc (Obj.cells #[Value.int IntKind.i64 p1] (3 : Nat))).heap.size,
                                                                        off := (0 : Nat) }
                                                                      (Value.int IntKind.i64 i23)).heap[w1.heap.size + (1 : Nat)]? =
                                                                some (I3 LoopState.busy none) ∧
                                                              I11 (Value.bool false)
                                                                ((((w21.setCell
                                                                              {
                                                                                block :=
                                                                                  (((w.alloc (Obj.cells #[Value.pointer p0] (37 : Nat))).alloc (Obj.cells #[Value.int IntKind.i64 p1] (3 : Nat))).alloc
                                                                                        (Obj.cells #[Value.int IntKind.i64 p2] (3 : Nat))).heap.size,
                                                                                off := (0 : Nat) }
                                                                              (Value.int IntKind.i64 i22)).setCell
                                                                          {
                                                                            block :=
                                                                              ((((w.alloc (Obj.cells #[Value.pointer p0] (37 : Nat))).alloc (Obj.cells #[Value.int IntKind.i64 p1] (3 : Nat))).alloc
                                                                                        (Obj.cells #[Value.int IntKind.i64 p2] (3 : Nat))).alloc
                                                                                    (Obj.cells #[Value.int IntKind.i64 (0 : Int)] (3 : Nat))).heap.size,
                                                                            off := (0 : Nat) }
                                                                          (Value.int IntKind.i64 i6)).setCell
                                                                      { block := ((w.alloc (Obj.cells #[Value.pointer p0] (37 : Nat))).alloc (Obj.cells #[Value.int IntKind.i64 p1] (3 : Nat))).heap.size,
                                                                        off := (0 : Nat) }
                                                                      (Value.int IntKind.i64 i23)).putObj
                                                                  (w1.heap.size + (1 : Nat)) (I3 LoopState.done (some (Code.exit (0 : Nat)))))
                                                        else
                                                          bif i22 == (258 : Int) then
                                                            Known
                                                                (((w21.setCell
                                                                          {
                                                                            block :=
                                                                              (((w.alloc (Obj.cells #[Value.pointer p0] (37 : Nat))).alloc (Obj.cells #[Value.int IntKind.i64 p1] (3 : Nat))).alloc
                                                                                    (Obj.cells #[Value.int IntKind.i64 p2] (3 : Nat))).heap.size,
                                                                            off := (0 : Nat) }
                                                                          (Value.int IntKind.i64 i22)).setCell
                                                                      {
                                                                        block :=
                                                                          ((((w.alloc (Obj.cells #[Value.pointer p0] (37 : Nat))).alloc (Obj.cells #[Value.int IntKind.i64 p1] (3 : Nat))).alloc
                                                                                    (Obj.cells #[Value.int IntKind.i64 p2] (3 : Nat))).alloc
                                                                                (Obj.cells #[Value.int IntKind.i64 (0 : Int)] (3 : Nat))).heap.size,
                                                                        off := (0 : Nat) }
                                                                      (Value.int IntKind.i64 i6)).setCell
                                                                  { block := ((w.alloc (Obj.cells #[Value.pointer p0] (37 : Nat))).alloc (Obj.cells #[Value.int IntKind.i64 p1] (3 : Nat))).heap.size, off := (0 : Nat) }
                                                                  (Value.int IntKind.i64 i23))
                                                                [(w.heap.size, [((0 : Nat), Value.pointer p0)]), ((w.alloc (Obj.cells #[Value.pointer p0] (37 : Nat))).heap.size, [((0 : Nat), Value.int IntKind.i64 p1)]),
                                                                  (((w.alloc (Obj.cells #[Value.pointer p0] (37 : Nat))).alloc (Obj.cells #[Value.int IntKind.i64 p1] (3 : Nat))).heap.size,
                                                                    [((0 : Nat), Value.int IntKind.i64 i23)]),
                                                                  ((((w.alloc (Obj.cells #[Value.pointer p0] (37 : Nat))).alloc (Obj.cells #[Value.int IntKind.i64 p1] (3 : Nat))).alloc
                                                                          (Obj.cells #[Value.int IntKind.i64 p2] (3 : Nat))).heap.size,
                                                                    [((0 : Nat), Value.int IntKind.i64 i22)]),
                                                                  (((((w.alloc (Obj.cells #[Value.pointer p0] (37 : Nat))).alloc (Obj.cells #[Value.int IntKind.i64 p1] (3 : Nat))).alloc
                                                                              (Obj.cells #[Value.int IntKind.i64 p2] (3 : Nat))).alloc
                                                                          (Obj.cells #[Value.int IntKind.i64 (0 : Int)] (3 : Nat))).heap.size,
                                                                    [((0 : Nat), Value.int IntKind.i64 i6)])] →
                                                              (((w21.setCell
                                                                                {
                                                                                  block :=
                                                                                    (((w.alloc (Obj.cells #[Value.pointer p0] (37 : Nat))).alloc (Obj.cells #[Value.int IntKind.i64 p1] (3 : Nat))).alloc
                                                                                          (Obj.cells #[Value.int IntKind.i64 p2] (3 : Nat))).heap.size,
                                                                                  off := (0 : Nat) }
                                                                                (Value.int IntKind.i64 i22)).setCell
                                                                            {
                                                                              block :=
                                                                                ((((w.alloc (Obj.cells #[Value.pointer p0] (37 : Nat))).alloc (Obj.cells #[Value.int IntKind.i64 p1] (3 : Nat))).alloc
                                                                                          (Obj.cells #[Value.int IntKind.i64 p2] (3 : Nat))).alloc
                                                                                      (Obj.cells #[Value.int IntKind.i64 (0 : Int)] (3 : Nat))).heap.size,
                                                                              off := (0 : Nat) }
                                                                            (Value.int IntKind.i64 i6)).setCell
                                                                        { block := ((w.alloc (Obj.cells #[Value.pointer p0] (37 : Nat))).alloc (Obj.cells #[Value.int IntKind.i64 p1] (3 : Nat))).heap.size,
                                                                          off := (0 : Nat) }
                                                                        (Value.int IntKind.i64 i23)).heap[w1.heap.size + (1 : Nat)]? =
                                                                  some (I3 LoopState.busy none) ∧
                                                                I11 (Value.bool false)
                                                                  ((((w21.setCell
                                                                                {
                                                                                  block :=
                                                                                    (((w.alloc (Obj.cells #[Value.pointer p0] (37 : Nat))).alloc (Obj.cells #[Value.int IntKind.i64 p1] (3 : Nat))).alloc
                                                                                          (Obj.cells #[Value.int IntKind.i64 p2] (3 : Nat))).heap.size,
                                                                                  off := (0 : Nat) }
                                                                                (Value.int IntKind.i64 i22)).setCell
                                                                            {
                                                                              block :=
                                                                                ((((w.alloc (Obj.cells #[Value.pointer p0] (37 : Nat))).alloc (Obj.cells #[Value.int IntKind.i64 p1] (3 : Nat))).alloc
                                                                                          (Obj.cells #[Value.int IntKind.i64 p2] (3 : Nat))).alloc
                                                                                      (Obj.cells #[Value.int IntKind.i64 (0 : Int)] (3 : Nat))).heap.size,
                                                                              off := (0 : Nat) }
                                                                            (Value.int IntKind.i64 i6)).setCell
                                                                        { block := ((w.alloc (Obj.cells #[Value.pointer p0] (37 : Nat))).alloc (Obj.cells #[Value.int IntKind.i64 p1] (3 : Nat))).heap.size,
                                                                          off := (0 : Nat) }
                                                                        (Value.int IntKind.i64 i23)).putObj
                                                                    (w1.heap.size + (1 : Nat)) (I3 LoopState.done (some (Code.exit (0 : Nat)))))
                                                          else
                                                            Known
                                                                (((w21.setCell
                                                                          {
                                                                            block :=
                                                                              (((w.alloc (Obj.cells #[Value.pointer p0] (37 : Nat))).alloc (Obj.cells #[Value.int IntKind.i64 p1] (3 : Nat))).alloc
                                                                                    (Obj.cells #[Value.int IntKind.i64 p2] (3 : Nat))).heap.size,
                                                                            off := (0 : Nat) }
                                                                          (Value.int IntKind.i64 i22)).setCell
                                                                      {
                                                                        block :=
                                                                          ((((w.alloc (Obj.cells #[Value.pointer p0] (37 : Nat))).alloc (Obj.cells #[Value.int IntKind.i64 p1] (3 : Nat))).alloc
                                                                                    (Obj.cells #[Value.int IntKind.i64 p2] (3 : Nat))).alloc
                                                                                (Obj.cells #[Value.int IntKind.i64 (0 : Int)] (3 : Nat))).heap.size,
                                                                        off := (0 : Nat) }
                                                                      (Value.int IntKind.i64 i6)).setCell
                                                                  { block := ((w.alloc (Obj.cells #[Value.pointer p0] (37 : Nat))).alloc (Obj.cells #[Value.int IntKind.i64 p1] (3 : Nat))).heap.size, off := (0 : Nat) }
                                                                  (Value.int IntKind.i64 i23))
                                                                [(w.heap.size, [((0 : Nat), Value.pointer p0)]), ((w.alloc (Obj.cells #[Value.pointer p0] (37 : Nat))).heap.size, [((0 : Nat), Value.int IntKind.i64 p1)]),
                                                                  (((w.alloc (Obj.cells #[Value.pointer p0] (37 : Nat))).alloc (Obj.cells #[Value.int IntKind.i64 p1] (3 : Nat))).heap.size,
                                                                    [((0 : Nat), Value.int IntKind.i64 i23)]),
                                                                  ((((w.alloc (Obj.cells #[Value.pointer p0] (37 : Nat))).alloc (Obj.cells #[Value.int IntKind.i64 p1] (3 : Nat))).alloc
                                                                          (Obj.cells #[Value.int IntKind.i64 p2] (3 : Nat))).heap.size,
                                                                    [((0 : Nat), Value.int IntKind.i64 i22)]),
                                                                  (((((w.alloc (Obj.cells #[Value.pointer p0] (37 : Nat))).alloc (Obj.cells #[Value.int IntKind.i64 p1] (3 : Nat))).alloc
                                                                              (Obj.cells #[Value.int IntKind.i64 p2] (3 : Nat))).alloc
                                                                          (Obj.cells #[Value.int IntKind.i64 (0 : Int)] (3 : Nat))).heap.size,
                                                                    [((0 : Nat), Value.int IntKind.i64 i6)])] →
                                                              (((w21.setCell
                                                                                {
                                                                                  block :=
                                                                                    (((w.alloc (Obj.cells #[Value.pointer p0] (37 : Nat))).alloc (Obj.cells #[Value.int IntKind.i64 p1] (3 : Nat))).alloc
                                                                                          (Obj.cells #[Value.int IntKind.i64 p2] (3 : Nat))).heap.size,
                                                                                  off := (0 : Nat) }
                                                                                (Value.int IntKind.i64 i22)).setCell
                                                                            {
                                                                              block :=
                                                                                ((((w.alloc (Obj.cells #[Value.pointer p0] (37 : Nat))).alloc (Obj.cells #[Value.int IntKind.i64 p1] (3 : Nat))).alloc
                                                                                          (Obj.cells #[Value.int IntKind.i64 p2] (3 : Nat))).alloc
                                                                                      (Obj.cells #[Value.int IntKind.i64 (0 : Int)] (3 : Nat))).heap.size,
                                                                              off := (0 : Nat) }
                                                                            (Value.int IntKind.i64 i6)).setCell
                                                                        { block := ((w.alloc (Obj.cells #[Value.pointer p0] (37 : Nat))).alloc (Obj.cells #[Value.int IntKind.i64 p1] (3 : Nat))).heap.size,
                                                                          off := (0 : Nat) }
                                                                        (Value.int IntKind.i64 i23)).heap[w1.heap.size + (1 : Nat)]? =
                                                                  some (I3 LoopState.busy none) ∧
                                                                I11 (Value.bool true)
                                                                  ((((w21.setCell
                                                                                {
                                                                                  block :=
                                                                                    (((w.alloc (Obj.cells #[Value.pointer p0] (37 : Nat))).alloc (Obj.cells #[Value.int IntKind.i64 p1] (3 : Nat))).alloc
                                                                                          (Obj.cells #[Value.int IntKind.i64 p2] (3 : Nat))).heap.size,
                                                                                  off := (0 : Nat) }
                                                                                (Value.int IntKind.i64 i22)).setCell
                                                                            {
                                                                              block :=
                                                                                ((((w.alloc (Obj.cells #[Value.pointer p0] (37 : Nat))).alloc (Obj.cells #[Value.int IntKind.i64 p1] (3 : Nat))).alloc
                                                                                          (Obj.cells #[Value.int IntKind.i64 p2] (3 : Nat))).alloc
                                                                                      (Obj.cells #[Value.int IntKind.i64 (0 : Int)] (3 : Nat))).heap.size,
                                                                              off := (0 : Nat) }
                                                                            (Value.int IntKind.i64 i6)).setCell
                                                                        { block := ((w.alloc (Obj.cells #[Value.pointer p0] (37 : Nat))).alloc (Obj.cells #[Value.int IntKind.i64 p1] (3 : Nat))).heap.size,
                                                                          off := (0 : Nat) }
                                                                        (Value.int IntKind.i64 i23)).putObj
                                                                    (w1.heap.size + (1 : Nat)) (I3 LoopState.ready none))
                                                    else
                                                      Wr IntKind.i64 (i9 - (1 : Int)) fun (i30 : Int) =>
                                                        bif i30 == (0 : Int) then
                                                          Known
                                                              (w21.setCell
                                                                { block := ((w.alloc (Obj.cells #[Value.pointer p0] (37 : Nat))).alloc (Obj.cells #[Value.int IntKind.i64 p1] (3 : Nat))).heap.size, off := (0 : Nat) }
                                                                (Value.int IntKind.i64 i30))
                                                              [(w.heap.size, [((0 : Nat), Value.pointer p0)]), ((w.alloc (Obj.cells #[Value.pointer p0] (37 : Nat))).heap.size, [((0 : Nat), Value.int IntKind.i64 p1)]),
                                                                (((w.alloc (Obj.cells #[Value.pointer p0] (37 : Nat))).alloc (Obj.cells #[Value.int IntKind.i64 p1] (3 : Nat))).heap.size,
                                                                  [((0 : Nat), Value.int IntKind.i64 i30)]),
                                                                ((((w.alloc (Obj.cells #[Value.pointer p0] (37 : Nat))).alloc (Obj.cells #[Value.int IntKind.i64 p1] (3 : Nat))).alloc
                                                                        (Obj.cells #[Value.int IntKind.i64 p2] (3 : Nat))).heap.size,
                                                                  [((0 : Nat), Value.int IntKind.i64 i7)]),
                                                                (((((w.alloc (Obj.cells #[Value.pointer p0] (37 : Nat))).alloc (Obj.cells #[Value.int IntKind.i64 p1] (3 : Nat))).alloc
                                                                            (Obj.cells #[Value.int IntKind.i64 p2] (3 : Nat))).alloc
                                                                        (Obj.cells #[Value.int IntKind.i64 (0 : Int)] (3 : Nat))).heap.size,
                                                                  [((0 : Nat), Value.int IntKind.i64 i8)])] →
                                                            (w21.setCell
                                                                      { block := ((w.alloc (Obj.cells #[Value.pointer p0] (37 : Nat))).alloc (Obj.cells #[Value.int IntKind.i64 p1] (3 : Nat))).heap.size,
                                                                        off := (0 : Nat) }
                                                                      (Value.int IntKind.i64 i30)).heap[w1.heap.size + (1 : Nat)]? =
                                                                some (I3 LoopState.busy none) ∧
                                                              I11 (Value.bool false)
                                                                ((w21.setCell
                                                                      { block := ((w.alloc (Obj.cells #[Value.pointer p0] (37 : Nat))).alloc (Obj.cells #[Value.int IntKind.i64 p1] (3 : Nat))).heap.size,
                                                                        off := (0 : Nat) }
                                                                      (Value.int IntKind.i64 i30)).putObj
                                                                  (w1.heap.size + (1 : Nat)) (I3 LoopState.done (some (Code.exit (0 : Nat)))))
                                                        else
                                                          bif i7 == (258 : Int) then
                                                            Known
                                                                (w21.setCell
                                                                  { block := ((w.alloc (Obj.cells #[Value.pointer p0] (37 : Nat))).alloc (Obj.cells #[Value.int IntKind.i64 p1] (3 : Nat))).heap.size, off := (0 : Nat) }
                                                                  (Value.int IntKind.i64 i30))
                                                                [(w.heap.size, [((0 : Nat), Value.pointer p0)]), ((w.alloc (Obj.cells #[Value.pointer p0] (37 : Nat))).heap.size, [((0 : Nat), Value.int IntKind.i64 p1)]),
                                                                  (((w.alloc (Obj.cells #[Value.pointer p0] (37 : Nat))).alloc (Obj.cells #[Value.int IntKind.i64 p1] (3 : Nat))).heap.size,
                                                                    [((0 : Nat), Value.int IntKind.i64 i30)]),
                                                                  ((((w.alloc (Obj.cells #[Value.pointer p0] (37 : Nat))).alloc (Obj.cells #[Value.int IntKind.i64 p1] (3 : Nat))).alloc
                                                                          (Obj.cells #[Value.int IntKind.i64 p2] (3 : Nat))).heap.size,
                                                                    [((0 : Nat), Value.int IntKind.i64 i7)]),
                                                                  (((((w.alloc (Obj.cells #[Value.pointer p0] (37 : Nat))).alloc (Obj.cells #[Value.int IntKind.i64 p1] (3 : Nat))).alloc
                                                                              (Obj.cells #[Value.int IntKind.i64 p2] (3 : Nat))).alloc
                                                                          (Obj.cells #[Value.int IntKind.i64 (0 : Int)] (3 : Nat))).heap.size,
                                                                    [((0 : Nat), Value.int IntKind.i64 i8)])] →
                                                              (w21.setCell
                                                                        { block := ((w.alloc (Obj.cells #[Value.pointer p0] (37 : Nat))).alloc (Obj.cells #[Value.int IntKind.i64 p1] (3 : Nat))).heap.size,
                                                                          off := (0 : Nat) }
                                                                        (Value.int IntKind.i64 i30)).heap[w1.heap.size + (1 : Nat)]? =
                                                                  some (I3 LoopState.busy none) ∧
                                                                I11 (Value.bool false)
                                                                  ((w21.setCell
                                                                        { block := ((w.alloc (Obj.cells #[Value.pointer p0] (37 : Nat))).alloc (Obj.cells #[Value.int IntKind.i64 p1] (3 : Nat))).heap.size,
                                                                          off := (0 : Nat) }
                                                                        (Value.int IntKind.i64 i30)).putObj
                                                                    (w1.heap.size + (1 : Nat)) (I3 LoopState.done (some (Code.exit (0 : Nat)))))
                                                          else
                                                            Known
                                                                (w21.setCell
                                                                  { block := ((w.alloc (Obj.cells #[Value.pointer p0] (37 : Nat))).alloc (Obj.cells #[Value.int IntKind.i64 p1] (3 : Nat))).heap.size, off := (0 : Nat) }
                                                                  (Value.int IntKind.i64 i30))
                                                                [(w.heap.size, [((0 : Nat), Value.pointer p0)]), ((w.alloc (Obj.cells #[Value.pointer p0] (37 : Nat))).heap.size, [((0 : Nat), Value.int IntKind.i64 p1)]),
                                                                  (((w.alloc (Obj.cells #[Value.pointer p0] (37 : Nat))).alloc (Obj.cells #[Value.int IntKind.i64 p1] (3 : Nat))).heap.size,
                                                                    [((0 : Nat), Value.int IntKind.i64 i30)]),
                                                                  ((((w.alloc (Obj.cells #[Value.pointer p0] (37 : Nat))).alloc (Obj.cells #[Value.int IntKind.i64 p1] (3 : Nat))).alloc
                                                                          (Obj.cells #[Value.int IntKind.i64 p2] (3 : Nat))).heap.size,
                                                                    [((0 : Nat), Value.int IntKind.i64 i7)]),
                                                                  (((((w.alloc (Obj.cells #[Value.pointer p0] (37 : Nat))).alloc (Obj.cells #[Value.int IntKind.i64 p1] (3 : Nat))).alloc
                                                                              (Obj.cells #[Value.int IntKind.i64 p2] (3 : Nat))).alloc
                                                                          (Obj.cells #[Value.int IntKind.i64 (0 : Int)] (3 : Nat))).heap.size,
                                                                    [((0 : Nat), Value.int IntKind.i64 i8)])] →
                                                              (w21.setCell
                                                                        { block := ((w.alloc (Obj.cells #[Value.pointer p0] (37 : Nat))).alloc (Obj.cells #[Value.int IntKind.i64 p1] (3 : Nat))).heap.size,
                                                                          off := (0 : Nat) }
                                                                        (Value.int IntKind.i64 i30)).heap[w1.heap.size + (1 : Nat)]? =
                                                                  some (I3 LoopState.busy none) ∧
                                                                I11 (Value.bool true)
                                                                  ((w21.setCell
                                                                        { block := ((w.alloc (Obj.cells #[Value.pointer p0] (37 : Nat))).alloc (Obj.cells #[Value.int IntKind.i64 p1] (3 : Nat))).heap.size,
                                                                          off := (0 : Nat) }
                                                                        (Value.int IntKind.i64 i30)).putObj
                                                                    (w1.heap.size + (1 : Nat)) (I3 LoopState.ready none)))) →
                              CallsVal Try.prog (Value.func (Fn.yield (w1.heap.size + (1 : Nat))) #[] #[]) #[Value.int IntKind.i64 i6] w10 I11) →
                      RangeVal Try.prog v2 (Value.func (Fn.yield (w1.heap.size + (1 : Nat))) #[] #[]) ((w1.alloc (Obj.deferred (some []))).alloc (I3 LoopState.ready none)) fun (w37 : World) =>
                        ∃ (i38 : Int),
                          ∃ (i39 : Int),
                            ∃ (i40 : Int),
                              Known w37
                                  [(w.heap.size, [((0 : Nat), Value.pointer p0)]), ((w.alloc (Obj.cells #[Value.pointer p0] (37 : Nat))).heap.size, [((0 : Nat), Value.int IntKind.i64 p1)]),
                                    (((w.alloc (Obj.cells #[Value.pointer p0] (37 : Nat))).alloc (Obj.cells #[Value.int IntKind.i64 p1] (3 : Nat))).heap.size, [((0 : Nat), Value.int IntKind.i64 i40)]),
                                    ((((w.alloc (Obj.cells #[Value.pointer p0] (37 : Nat))).alloc (Obj.cells #[Value.int IntKind.i64 p1] (3 : Nat))).alloc (Obj.cells #[Value.int IntKind.i64 p2] (3 : Nat))).heap.size,
                                      [((0 : Nat), Value.int IntKind.i64 i38)]),
                                    (((((w.alloc (Obj.cells #[Value.pointer p0] (37 : Nat))).alloc (Obj.cells #[Value.int IntKind.i64 p1] (3 : Nat))).alloc (Obj.cells #[Value.int IntKind.i64 p2] (3 : Nat))).alloc
                                            (Obj.cells #[Value.int IntKind.i64 (0 : Int)] (3 : Nat))).heap.size,
                                      [((0 : Nat), Value.int IntKind.i64 i39)])] ∧
                                (w37.heap[w1.heap.size + (1 : Nat)]? = some (I3 LoopState.done (some (Code.exit (0 : Nat)))) ∧
                                    ((w37.putObj (w1.heap.size + (1 : Nat)) (I3 LoopState.exhausted (some (Code.exit (0 : Nat))))).drew.setCell
                                              {
                                                block :=
                                                  (((w.alloc (Obj.cells #[Value.pointer p0] (37 : Nat))).alloc (Obj.cells #[Value.int IntKind.i64 p1] (3 : Nat))).alloc
                                                        (Obj.cells #[Value.int IntKind.i64 p2] (3 : Nat))).heap.size,
                                                off := (0 : Nat) }
                                              (Value.int IntKind.i64 i38)).cell?
                                          {
                                            block :=
                                              ((((w.alloc (Obj.cells #[Value.pointer p0] (37 : Nat))).alloc (Obj.cells #[Value.int IntKind.i64 p1] (3 : Nat))).alloc
                                                        (Obj.cells #[Value.int IntKind.i64 p2] (3 : Nat))).alloc
                                                    (Obj.cells #[Value.int IntKind.i64 (0 : Int)] (3 : Nat))).heap.size,
                                            off := (0 : Nat) } =
                                        some (Value.int IntKind.i64 i39) ∧
                                      (Known
                                          (((w37.putObj (w1.heap.size + (1 : Nat)) (I3 LoopState.exhausted (some (Code.exit (0 : Nat))))).drew.setCell
                                                {
                                                  block :=
                                                    (((w.alloc (Obj.cells #[Value.pointer p0] (37 : Nat))).alloc (Obj.cells #[Value.int IntKind.i64 p1] (3 : Nat))).alloc
                                                          (Obj.cells #[Value.int IntKind.i64 p2] (3 : Nat))).heap.size,
                                                  off := (0 : Nat) }
                                                (Value.int IntKind.i64 i38)).setCell
                                            {
                                              block :=
                                                ((((w.alloc (Obj.cells #[Value.pointer p0] (37 : Nat))).alloc (Obj.cells #[Value.int IntKind.i64 p1] (3 : Nat))).alloc
                                                          (Obj.cells #[Value.int IntKind.i64 p2] (3 : Nat))).alloc
                                                      (Obj.cells #[Value.int IntKind.i64 (0 : Int)] (3 : Nat))).heap.size,
                                              off := (0 : Nat) }
                                            (Value.int IntKind.i64 i39))
                                          [(w.heap.size, [((0 : Nat), Value.pointer p0)]), ((w.alloc (Obj.cells #[Value.pointer p0] (37 : Nat))).heap.size, [((0 : Nat), Value.int IntKind.i64 p1)]),
                                            (((w.alloc (Obj.cells #[Value.pointer p0] (37 : Nat))).alloc (Obj.cells #[Value.int IntKind.i64 p1] (3 : Nat))).heap.size, [((0 : Nat), Value.int IntKind.i64 i40)]),
                                            ((((w.alloc (Obj.cells #[Value.pointer p0] (37 : Nat))).alloc (Obj.cells #[Value.int IntKind.i64 p1] (3 : Nat))).alloc
                                                    (Obj.cells #[Value.int IntKind.i64 p2] (3 : Nat))).heap.size,
                                              [((0 : Nat), Value.int IntKind.i64 i38)]),
                                            (((((w.alloc (Obj.cells #[Value.pointer p0] (37 : Nat))).alloc (Obj.cells #[Value.int IntKind.i64 p1] (3 : Nat))).alloc (Obj.cells #[Value.int IntKind.i64 p2] (3 : Nat))).alloc
                                                    (Obj.cells #[Value.int IntKind.i64 (0 : Int)] (3 : Nat))).heap.size,
                                              [((0 : Nat), Value.int IntKind.i64 i39)])] →
                                        (((w37.putObj (w1.heap.size + (1 : Nat)) (I3 LoopState.exhausted (some (Code.exit (0 : Nat))))).drew.setCell
                                                      {
                                                        block :=
                                                          (((w.alloc (Obj.cells #[Value.pointer p0] (37 : Nat))).alloc (Obj.cells #[Value.int IntKind.i64 p1] (3 : Nat))).alloc
                                                                (Obj.cells #[Value.int IntKind.i64 p2] (3 : Nat))).heap.size,
                                                        off := (0 : Nat) }
                                                      (Value.int IntKind.i64 i38)).setCell
                                                  {
                                                    block :=
                                                      ((((w.alloc (Obj.cells #[Value.pointer p0] (37 : Nat))).alloc (Obj.cells #[Value.int IntKind.i64 p1] (3 : Nat))).alloc
                                                                (Obj.cells #[Value.int IntKind.i64 p2] (3 : Nat))).alloc
                                                            (Obj.cells #[Value.int IntKind.i64 (0 : Int)] (3 : Nat))).heap.size,
                                                    off := (0 : Nat) }
                                                  (Value.int IntKind.i64 i39)).heap[w1.heap.size]? =
                                            some (Obj.deferred (some [])) ∧
                                          R (Ending.returned (Value.tuple #[Value.int IntKind.i64 i38, Value.int IntKind.i64 i39]))
                                            ((((w37.putObj (w1.heap.size + (1 : Nat)) (I3 LoopState.exhausted (some (Code.exit (0 : Nat))))).drew.setCell
                                                      {
                                                        block :=
                                                          (((w.alloc (Obj.cells #[Value.pointer p0] (37 : Nat))).alloc (Obj.cells #[Value.int IntKind.i64 p1] (3 : Nat))).alloc
                                                                (Obj.cells #[Value.int IntKind.i64 p2] (3 : Nat))).heap.size,
                                                        off := (0 : Nat) }
                                                      (Value.int IntKind.i64 i38)).setCell
                                                  {
                                                    block :=
                                                      ((((w.alloc (Obj.cells #[Value.pointer p0] (37 : Nat))).alloc (Obj.cells #[Value.int IntKind.i64 p1] (3 : Nat))).alloc
                                                                (Obj.cells #[Value.int IntKind.i64 p2] (3 : Nat))).alloc
                                                            (Obj.cells #[Value.int IntKind.i64 (0 : Int)] (3 : Nat))).heap.size,
                                                    off := (0 : Nat) }
                                                  (Value.int IntKind.i64 i39)).putObj
                                              w1.heap.size (Obj.deferred none))) ∨
                                  w37.heap[w1.heap.size + (1 : Nat)]? = some (I3 LoopState.ready none) ∧
                                    ((w37.putObj (w1.heap.size + (1 : Nat)) (I3 LoopState.exhausted none)).drew.setCell
                                              {
                                                block :=
                                                  (((w.alloc (Obj.cells #[Value.pointer p0] (37 : Nat))).alloc (Obj.cells #[Value.int IntKind.i64 p1] (3 : Nat))).alloc
                                                        (Obj.cells #[Value.int IntKind.i64 p2] (3 : Nat))).heap.size,
                                                off := (0 : Nat) }
                                              (Value.int IntKind.i64 i38)).cell?
                                          {
                                            block :=
                                              ((((w.alloc (Obj.cells #[Value.pointer p0] (37 : Nat))).alloc (Obj.cells #[Value.int IntKind.i64 p1] (3 : Nat))).alloc
                                                        (Obj.cells #[Value.int IntKind.i64 p2] (3 : Nat))).alloc
                                                    (Obj.cells #[Value.int IntKind.i64 (0 : Int)] (3 : Nat))).heap.size,
                                            off := (0 : Nat) } =
                                        some (Value.int IntKind.i64 i39) ∧
                                      (Known
                                          (((w37.putObj (w1.heap.size + (1 : Nat)) (I3 LoopState.exhausted none)).drew.setCell
                                                {
                                                  block :=
                                                    (((w.alloc (Obj.cells #[Value.pointer p0] (37 : Nat))).alloc (Obj.cells #[Value.int IntKind.i64 p1] (3 : Nat))).alloc
                                                          (Obj.cells #[Value.int IntKind.i64 p2] (3 : Nat))).heap.size,
                                                  off := (0 : Nat) }
                                                (Value.int IntKind.i64 i38)).setCell
                                            {
                                              block :=
                                                ((((w.alloc (Obj.cells #[Value.pointer p0] (37 : Nat))).alloc (Obj.cells #[Value.int IntKind.i64 p1] (3 : Nat))).alloc
                                                          (Obj.cells #[Value.int IntKind.i64 p2] (3 : Nat))).alloc
                                                      (Obj.cells #[Value.int IntKind.i64 (0 : Int)] (3 : Nat))).heap.size,
                                              off := (0 : Nat) }
                                            (Value.int IntKind.i64 i39))
                                          [(w.heap.size, [((0 : Nat), Value.pointer p0)]), ((w.alloc (Obj.cells #[Value.pointer p0] (37 : Nat))).heap.size, [((0 : Nat), Value.int IntKind.i64 p1)]),
                                            (((w.alloc (Obj.cells #[Value.pointer p0] (37 : Nat))).alloc (Obj.cells #[Value.int IntKind.i64 p1] (3 : Nat))).heap.size, [((0 : Nat), Value.int IntKind.i64 i40)]),
                                            ((((w.alloc (Obj.cells #[Value.pointer p0] (37 : Nat))).alloc (Obj.cells #[Value.int IntKind.i64 p1] (3 : Nat))).alloc
                                                    (Obj.cells #[Value.int IntKind.i64 p2] (3 : Nat))).heap.size,
                                              [((0 : Nat), Value.int IntKind.i64 i38)]),
                                            (((((w.alloc (Obj.cells #[Value.pointer p0] (37 : Nat))).alloc (Obj.cells #[Value.int IntKind.i64 p1] (3 : Nat))).alloc (Obj.cells #[Value.int IntKind.i64 p2] (3 : Nat))).alloc
                                                    (Obj.cells #[Value.int IntKind.i64 (0 : Int)] (3 : Nat))).heap.size,
                                              [((0 : Nat), Value.int IntKind.i64 i39)])] →
                                        (((w37.putObj (w1.heap.size + (1 : Nat)) (I3 LoopState.exhausted none)).drew.setCell
                                                      {
                                                        block :=
                                                          (((w.alloc (Obj.cells #[Value.pointer p0] (37 : Nat))).alloc (Obj.cells #[Value.int IntKind.i64 p1] (3 : Nat))).alloc
                                                                (Obj.cells #[Value.int IntKind.i64 p2] (3 : Nat))).heap.size,
                                                        off := (0 : Nat) }
                                                      (Value.int IntKind.i64 i38)).setCell
                                                  {
                                                    block :=
                                                      ((((w.alloc (Obj.cells #[Value.pointer p0] (37 : Nat))).alloc (Obj.cells #[Value.int IntKind.i64 p1] (3 : Nat))).alloc
                                                                (Obj.cells #[Value.int IntKind.i64 p2] (3 : Nat))).alloc
                                                            (Obj.cells #[Value.int IntKind.i64 (0 : Int)] (3 : Nat))).heap.size,
                                                    off := (0 : Nat) }
                                                  (Value.int IntKind.i64 i39)).heap[w1.heap.size]? =
                                            some (Obj.deferred (some [])) ∧
                                          R (Ending.returned (Value.tuple #[Value.int IntKind.i64 i38, Value.int IntKind.i64 i39]))
                                            ((((w37.putObj (w1.heap.size + (1 : Nat)) (I3 LoopState.exhausted none)).drew.setCell
                                                      {
                                                        block :=
                                                          (((w.alloc (Obj.cells #[Value.pointer p0] (37 : Nat))).alloc (Obj.cells #[Value.int IntKind.i64 p1] (3 : Nat))).alloc
                                                                (Obj.cells #[Value.int IntKind.i64 p2] (3 : Nat))).heap.size,
                                                        off := (0 : Nat) }
                                                      (Value.int IntKind.i64 i38)).setCell
                                                  {
                                                    block :=
                                                      ((((w.alloc (Obj.cells #[Value.pointer p0] (37 : Nat))).alloc (Obj.cells #[Value.int IntKind.i64 p1] (3 : Nat))).alloc
                                                                (Obj.cells #[Value.int IntKind.i64 p2] (3 : Nat))).alloc
                                                            (Obj.cells #[Value.int IntKind.i64 (0 : Int)] (3 : Nat))).heap.size,
                                                    off := (0 : Nat) }
                                                  (Value.int IntKind.i64 i39)).putObj
                                              w1.heap.size (Obj.deferred none)))))
theorem vcTry27 (p0 : Option Addr) (p1 : Int) (p2 : Int) (w : World) (R : Ending → World → Prop) : SX.vcFn Try.prog [(5, ⟨[(19, .int .i64)], [], [(3, 0, .int .i64), (4, 0, .int .i64), (2, 0, .int .i64)]⟩)] Try.f27 [.v (.pointer p0), .v (.int .i64 p1), .v (.int .i64 p2)] [] w R = VCTry27 p0 p1 p2 w R := by kernel_rfl
def VCTry28 (p0 : Option Addr) (p1 : Int) (w : World) (R : Ending → World → Prop) : Prop :=
bif p0.isNone then R (Ending.returned (Value.slice none (0 : Nat) (0 : Nat))) w
else
  Known (w.alloc (Obj.cells #[Value.slice none (0 : Nat) (0 : Nat)] (26 : Nat))) [(w.heap.size, [((0 : Nat), Value.slice none (0 : Nat) (0 : Nat))])] →
    Rets Try.prog (50 : Nat) #[Value.pointer p0, Value.int IntKind.i64 p1] (w.alloc (Obj.cells #[Value.slice none (0 : Nat) (0 : Nat)] (26 : Nat))) fun (v0 : Value) (w1 : World) =>
      ∃ (v2 : Value),
        v0 = v2 ∧
          Keeps (w.alloc (Obj.cells #[Value.slice none (0 : Nat) (0 : Nat)] (26 : Nat))) w1 [w.heap.size] ∧
            (Known w1 [(w.heap.size, [((0 : Nat), Value.slice none (0 : Nat) (0 : Nat))])] →
              ∀ (I3 : LoopState → Option Code → Obj),
                (∀ (x4 : LoopState) (q5 : Option Code), (I3 x4 q5).isCells = false) →
                  (∀ (i6 : Int) (q7 : Option Addr) (n8 n9 : Nat) (w10 : World) (I11 : Value → World → Prop),
                      w10.heap[w1.heap.size + (1 : Nat)]? = some (I3 LoopState.ready none) →
                        Known w10 [(w.heap.size, [((0 : Nat), Value.slice q7 n8 n9)])] →
                          (w10.heap[w1.heap.size + (1 : Nat)]? = some (I3 LoopState.ready none) ∧
                              Runs Try.prog
                                (Builtin.append_ #[(26 : Nat), (26 : Nat)] (26 : Nat)
                                  #[Value.slice q7 n8 n9, Value.slice (some { block := (w10.putObj (w1.heap.size + (1 : Nat)) (I3 LoopState.busy none)).heap.size, off := (0 : Nat) }) (1 : Nat) (1 : Nat)])
                                ((w10.putObj (w1.heap.size + (1 : Nat)) (I3 LoopState.busy none)).alloc (Obj.cells #[Value.int IntKind.i64 i6] (3 : Nat))) fun (v16 : Value) (w17 : World) =>
                                ∃ (q18 : Option Addr),
                                  ∃ (n19 : Nat),
                                    ∃ (n20 : Nat),
                                      v16 = Value.slice q18 n19 n20 ∧
                                        Keeps ((w10.putObj (w1.heap.size + (1 : Nat)) (I3 LoopState.busy none)).alloc (Obj.cells #[Value.int IntKind.i64 i6] (3 : Nat))) w17 [w.heap.size] ∧
                                          (Known (w17.setCell { block := w.heap.size, off := (0 : Nat) } (Value.slice q18 n19 n20)) [(w.heap.size, [((0 : Nat), Value.slice q18 n19 n20)])] →
                                            (w17.setCell { block := w.heap.size, off := (0 : Nat) } (Value.slice q18 n19 n20)).heap[w1.heap.size + (1 : Nat)]? = some (I3 LoopState.busy none) ∧
                                              I11 (Value.bool true) ((w17.setCell { block := w.heap.size, off := (0 : Nat) } (Value.slice q18 n19 n20)).putObj (w1.heap.size + (1 : Nat)) (I3 LoopState.ready none)))) →
                            CallsVal Try.prog (Value.func (Fn.yield (w1.heap.size + (1 : Nat))) #[] #[]) #[Value.int IntKind.i64 i6] w10 I11) →
                    RangeVal Try.prog v2 (Value.func (Fn.yield (w1.heap.size + (1 : Nat))) #[] #[]) ((w1.alloc (Obj.deferred (some []))).alloc (I3 LoopState.ready none)) fun (w23 : World) =>
                      ∃ (q24 : Option Addr),
                        ∃ (n25 : Nat),
                          ∃ (n26 : Nat),
                            Known w23 [(w.heap.size, [((0 : Nat), Value.slice q24 n25 n26)])] ∧
                              w23.heap[w1.heap.size + (1 : Nat)]? = some (I3 LoopState.ready none) ∧
                                (Known (w23.putObj (w1.heap.size + (1 : Nat)) (I3 LoopState.exhausted none)) [(w.heap.size, [((0 : Nat), Value.slice q24 n25 n26)])] →
                                  (w23.putObj (w1.heap.size + (1 : Nat)) (I3 LoopState.exhausted none)).heap[w1.heap.size]? = some (Obj.deferred (some [])) ∧
                                    R (Ending.returned (Value.slice q24 n25 n26)) ((w23.putObj (w1.heap.size + (1 : Nat)) (I3 LoopState.exhausted none)).putObj w1.heap.size (Obj.deferred none))))
theorem vcTry28 (p0 : Option Addr) (p1 : Int) (w : World) (R : Ending → World → Prop) : SX.vcFn Try.prog [(6, ⟨[(12, .int .i64)], [], [(0, 0, .slice)]⟩)] Try.f28 [.v (.pointer p0), .v (.int .i64 p1)] [] w R = VCTry28 p0 p1 w R := by kernel_rfl
def VCTry50 (p0 : Option Addr) (p1 : Int) (w : World) (R : Ending → World → Prop) : Prop :=
Known ((w.alloc (Obj.cells #[Value.pointer p0] (37 : Nat))).alloc (Obj.cells #[Value.int IntKind.i64 p1] (3 : Nat)))
    [(w.heap.size, [((0 : Nat), Value.pointer p0)]), ((w.alloc (Obj.cells #[Value.pointer p0] (37 : Nat))).heap.size, [((0 : Nat), Value.int IntKind.i64 p1)])] →
  R
    (Ending.returned
      (Value.func (Fn.func (59 : Nat)) #[]
        #[Value.pointer (some { block := w.heap.size, off := (0 : Nat) }), Value.pointer (some { block := (w.alloc (Obj.cells #[Value.pointer p0] (37 : Nat))).heap.size, off := (0 : Nat) })]))
    ((w.alloc (Obj.cells #[Value.pointer p0] (37 : Nat))).alloc (Obj.cells #[Value.int IntKind.i64 p1] (3 : Nat)))
theorem vcTry50 (p0 : Option Addr) (p1 : Int) (w : World) (R : Ending → World → Prop) : SX.vcFn Try.prog [] Try.f50 [.v (.pointer p0), .v (.int .i64 p1)] [] w R = VCTry50 p0 p1 w R := by kernel_rfl
def VCTry59 (y : Value) (a b : Addr) (w : World) (R : Ending → World → Prop) : Prop :=
∃ (q0 : Option Addr),
  w.cell? a = some (Value.pointer q0) ∧
    ∃ (i1 : Int),
      w.cell? b = some (Value.int IntKind.i64 i1) ∧
        Rets Try.prog (60 : Nat) #[Value.pointer q0, Value.int IntKind.i64 i1] w fun (v2 : Value) (w3 : World) =>
          ∃ (t4 : Bool),
            v2 = Value.bool t4 ∧
              Keeps w w3 [] ∧
                bif !t4 then R (Ending.returned (Value.tuple #[])) w3
                else
                  ∃ (q5 : Option Addr),
                    w3.cell? a = some (Value.pointer q5) ∧
                      ∃ (i6 : Int),
                        w3.cell? b = some (Value.int IntKind.i64 i6) ∧
                          Rets Try.prog (61 : Nat) #[Value.pointer q5, Value.int IntKind.i64 i6] w3 fun (v7 : Value) (w8 : World) =>
                            v7 = Value.tuple #[] ∧
                              Keeps w3 w8 [] ∧
                                ∃ (q9 : Option Addr),
                                  w8.drew.cell? a = some (Value.pointer q9) ∧
                                    SX.Ptr q9 fun (a10 : Addr) =>
                                      ∃ (q11 : Option Addr),
                                        ∃ (n12 : Nat),
                                          ∃ (n13 : Nat),
                                            w8.drew.cell? (a10.add (2 : Nat)) = some (Value.slice q11 n12 n13) ∧
                                              ∃ (i14 : Int),
                                                w8.drew.cell? b = some (Value.int IntKind.i64 i14) ∧
                                                  ((0 : Int) ≤ i14 ∧ i14 < (↑n12 : Int)) ∧
                                                    SX.Ptr q11 fun (a15 : Addr) =>
                                                      ∃ (i16 : Int),
                                                        w8.drew.cell? (a15.add (i14.toNat * (1 : Nat))) = some (Value.int IntKind.i64 i16) ∧
                                                          ∃ (I17 : Int → World → Prop),
                                                            ∃ (I18 : Int → World → Nat),
                                                              I17 i16 w8.drew ∧
                                                                ∀ (i19 : Int) (w20 : World),
                                                                  I17 i19 w20 →
                                                                    bif decide (i19 ≥ (0 : Int)) then
                                                                      ∃ (i21 : Int),
                                                                        w20.cell? b = some (Value.int IntKind.i64 i21) ∧
                                                                          Wr IntKind.i64 (i21 - i19) fun (i22 : Int) =>
                                                                            bif decide (i22 ≤ (32768 : Int)) then
                                                                              ∃ (i23 : Int),
                                                                                w20.cell? b = some (Value.int IntKind.i64 i23) ∧
                                                                                  Wr IntKind.i64 (i23 - i19) fun (i24 : Int) =>
                                                                                    CallsVal Try.prog y #[Value.int IntKind.i64 i24] w20 fun (v25 : Value) (w26 : World) =>
                                                                                      ∃ (t27 : Bool),
                                                                                        v25 = Value.bool t27 ∧
                                                                                          Keeps w20 w26 [] ∧
                                                                                            bif !t27 then R (Ending.returned (Value.tuple #[])) w26
                                                                                            else
                                                                                              ∃ (q28 : Option Addr),
                                                                                                w26.cell? a = some (Value.pointer q28) ∧
                                                                                                  SX.Ptr q28 fun (a29 : Addr) =>
                                                                                                    ∃ (q30 : Option Addr),
                                                                                                      ∃ (n31 : Nat),
                                                                                                        ∃ (n32 : Nat),
                                                                                                          w26.cell? (a29.add (2 : Nat)) = some (Value.slice q30 n31 n32) ∧
                                                                                                            ((0 : Int) ≤ i19 ∧ i19 < (↑n31 : Int)) ∧
                                                                                                              SX.Ptr q30 fun (a33 : Addr) =>
                                                                                                                ∃ (i34 : Int),
                                                                                                                  w26.cell? (a33.add (i19.toNat * (1 : Nat))) = some (Value.int IntKind.i64 i34) ∧
                                                                                                                    I17 i34 w26 ∧ I18 i34 w26 < I18 i19 w20
                                                                            else R (Ending.returned (Value.tuple #[])) w20
                                                                    else R (Ending.returned (Value.tuple #[])) w20
theorem vcTry59 (y : Value) (a b : Addr) (w : World) (R : Ending → World → Prop) : SX.vcFn Try.prog [(3, ⟨[(4, .int .i64)], [1, 2, 0], []⟩)] Try.f59 [.v y, .v (.pointer (some a)), .v (.pointer (some b))] [] w R = VCTry59 y a b w R := by kernel_rfl
def VCTry25 (p0 : Option Addr) (n0 c0 : Nat) (p1 : Int) (p2 : Int) (w : World) (R : Ending → World → Prop) : Prop :=
Rets Try.prog (26 : Nat) #[Value.slice p0 n0 c0] w fun (v0 : Value) (w1 : World) =>
  ∃ (q2 : Option Addr),
    v0 = Value.pointer q2 ∧
      Keeps w w1 [] ∧
        Rets Try.prog (27 : Nat) #[Value.pointer q2, Value.int IntKind.i64 p1, Value.int IntKind.i64 p2] w1 fun (v3 : Value) (w4 : World) =>
          ∃ (i5 : Int), ∃ (i6 : Int), v3 = Value.tuple #[Value.int IntKind.i64 i5, Value.int IntKind.i64 i6] ∧ Keeps w1 w4 [] ∧ R (Ending.returned (Value.tuple #[Value.int IntKind.i64 i5, Value.int IntKind.i64 i6])) w4
theorem vcTry25 (p0 : Option Addr) (n0 c0 : Nat) (p1 : Int) (p2 : Int) (w : World) (R : Ending → World → Prop) : SX.vcFn Try.prog [] Try.f25 [.v (.slice p0 n0 c0), .v (.int .i64 p1), .v (.int .i64 p2)] [] w R = VCTry25 p0 n0 c0 p1 p2 w R := by kernel_rfl
def VCTry26 (p0 : Option Addr) (n0 c0 : Nat) (w : World) (R : Ending → World → Prop) : Prop :=
Known ((w.alloc (Obj.map #[] (0 : Nat))).alloc (Obj.cells #[Value.slice p0 n0 c0, Value.map (some w.heap.size), Value.slice none (0 : Nat) (0 : Nat), Value.int IntKind.i64 (0 : Int)] (72 : Nat)))
    [((w.alloc (Obj.map #[] (0 : Nat))).heap.size,
        [((0 : Nat), Value.slice p0 n0 c0), ((1 : Nat), Value.map (some w.heap.size)), ((2 : Nat), Value.slice none (0 : Nat) (0 : Nat)), ((3 : Nat), Value.int IntKind.i64 (0 : Int))])] →
  R (Ending.returned (Value.pointer (some { block := (w.alloc (Obj.map #[] (0 : Nat))).heap.size, off := (0 : Nat) })))
    ((w.alloc (Obj.map #[] (0 : Nat))).alloc (Obj.cells #[Value.slice p0 n0 c0, Value.map (some w.heap.size), Value.slice none (0 : Nat) (0 : Nat), Value.int IntKind.i64 (0 : Int)] (72 : Nat)))
theorem vcTry26 (p0 : Option Addr) (n0 c0 : Nat) (w : World) (R : Ending → World → Prop) : SX.vcFn Try.prog [] Try.f26 [.v (.slice p0 n0 c0)] [] w R = VCTry26 p0 n0 c0 w R := by kernel_rfl
def VCTry7 (p0 : Option Addr) (n0 c0 : Nat) (p1 : Option Addr) (n1 c1 : Nat) (p2 : Int) (w : World) (R : Ending → World → Prop) : Prop :=
bif decide ((↑n0 : Int) > (1500 : Int)) then Rets Try.prog (22 : Nat) #[] w fun (v0 : Value) (w1 : World) => ∃ (t2 : Bool), v0 = Value.bool t2 ∧ Keeps w w1 [] ∧ R (Ending.returned (Value.bool t2)) w1
else
  bif decide ((↑n1 : Int) > (20 : Int)) then Rets Try.prog (22 : Nat) #[] w fun (v3 : Value) (w4 : World) => ∃ (t5 : Bool), v3 = Value.bool t5 ∧ Keeps w w4 [] ∧ R (Ending.returned (Value.bool t5)) w4
  else
    Rets Try.prog (26 : Nat) #[Value.slice p0 n0 c0] w fun (v6 : Value) (w7 : World) =>
      ∃ (q8 : Option Addr),
        v6 = Value.pointer q8 ∧
          Keeps w w7 [] ∧
            ∃ (I9 : Int → World → Prop),
              ∃ (I10 : Int → World → Nat),
                I9 (0 : Int) w7 ∧
                  ∀ (i11 : Int) (w12 : World),
                    I9 i11 w12 →
                      bif decide (i11 < (↑n1 : Int)) then
                        ((0 : Int) ≤ i11 ∧ i11 < (↑n1 : Int)) ∧
                          SX.Ptr p1 fun (a13 : Addr) =>
                            ∃ (i14 : Int),
                              w12.cell? (a13.add (i11.toNat * (1 : Nat))) = some (Value.int IntKind.i64 i14) ∧
                                Rets Try.prog (27 : Nat) #[Value.pointer q8, Value.int IntKind.i64 i14, Value.int IntKind.i64 p2] w12 fun (v15 : Value) (w16 : World) =>
                                  ∃ (i17 : Int),
                                    ∃ (i18 : Int),
                                      v15 = Value.tuple #[Value.int IntKind.i64 i17, Value.int IntKind.i64 i18] ∧
                                        Keeps w12 w16 [] ∧
                                          ((0 : Int) ≤ i11 ∧ i11 < (↑n1 : Int)) ∧
                                            SX.Ptr p1 fun (a19 : Addr) =>
                                              ∃ (i20 : Int),
                                                w16.cell? (a19.add (i11.toNat * (1 : Nat))) = some (Value.int IntKind.i64 i20) ∧
                                                  Rets Try.prog (25 : Nat) #[Value.slice p0 n0 c0, Value.int IntKind.i64 i20, Value.int IntKind.i64 p2] w16 fun (v21 : Value) (w22 : World) =>
                                                    ∃ (i23 : Int),
                                                      ∃ (i24 : Int),
                                                        v21 = Value.tuple #[Value.int IntKind.i64 i23, Value.int IntKind.i64 i24] ∧
                                                          Keeps w16 w22 [] ∧
                                                            ((0 : Int) ≤ i11 ∧ i11 < (↑n1 : Int)) ∧
                                                              SX.Ptr p1 fun (a25 : Addr) =>
                                                                ∃ (i26 : Int),
                                                                  w22.cell? (a25.add (i11.toNat * (1 : Nat))) = some (Value.int IntKind.i64 i26) ∧
                                                                    Rets Try.prog (21 : Nat) #[Value.slice p0 n0 c0, Value.int IntKind.i64 i26, Value.int IntKind.i64 p2] w22 fun (v27 : Value) (w28 : World) =>
                                                                      ∃ (i29 : Int),
                                                                        ∃ (i30 : Int),
                                                                          v27 = Value.tuple #[Value.int IntKind.i64 i29, Value.int IntKind.i64 i30] ∧
                                                                            Keeps w22 w28 [] ∧
                                                                              ((0 : Int) ≤ i11 ∧ i11 < (↑n1 : Int)) ∧
                                                                                SX.Ptr p1 fun (a31 : Addr) =>
                                                                                  ∃ (i32 : Int),
                                                                                    w28.cell? (a31.add (i11.toNat * (1 : Nat))) = some (Value.int IntKind.i64 i32) ∧
                                                                                      Rets Try.prog (27 : Nat) #[Value.pointer none, Value.int IntKind.i64 i32, Value.int IntKind.i64 p2] w28
                                                                                        fun (v33 : Value) (w34 : World) =>
                                                                                        ∃ (i35 : Int),
                                                                                          ∃ (i36 : Int),
                                                                                            v33 = Value.tuple #[Value.int IntKind.i64 i35, Value.int IntKind.i64 i36] ∧
                                                                                              Keeps w28 w34 [] ∧
                                                                                                bif i17 != i29 then R (Ending.returned (Value.bool false)) w34
                                                                                                else
                                                                                                  bif i18 != i30 then R (Ending.returned (Value.bool false)) w34
                                                                                                  else
                                                                                                    bif i23 != i29 then R (Ending.returned (Value.bool false)) w34
                                                                                                    else
                                                                                                      bif i24 != i30 then R (Ending.returned (Value.bool false)) w34
                                                                                                      else
                                                                                                        bif i35 != (0 : Int) then R (Ending.returned (Value.bool false)) w34
                                                                                                        else
                                                                                                          bif i36 != (0 : Int) then R (Ending.returned (Value.bool false)) w34
                                                                                                          else
                                                                                                            ((0 : Int) ≤ i11 ∧ i11 < (↑n1 : Int)) ∧
                                                                                                              SX.Ptr p1 fun (a37 : Addr) =>
                                                                                                                ∃ (i38 : Int),
                                                                                                                  w34.cell? (a37.add (i11.toNat * (1 : Nat))) = some (Value.int IntKind.i64 i38) ∧
                                                                                                                    Rets Try.prog (28 : Nat) #[Value.pointer none, Value.int IntKind.i64 i38] w34
                                                                                                                      fun (v39 : Value) (w40 : World) =>
                                                                                                                      ∃ (q41 : Option Addr),
                                                                                                                        ∃ (n42 : Nat),
                                                                                                                          ∃ (n43 : Nat),
                                                                                                                            v39 = Value.slice q41 n42 n43 ∧
                                                                                                                              Keeps w34 w40 [] ∧
                                                                                                                                bif (↑n42 : Int) != (0 : Int) then R (Ending.returned (Value.bool false)) w40
                                                                                                                                else
                                                                                                                                  Wr IntKind.i64 (i11 + (1 : Int)) fun (i44 : Int) => I9 i44 w40 ∧ I10 i44 w40 < I10 i11 w12
                      else Rets Try.prog (22 : Nat) #[] w12 fun (v45 : Value) (w46 : World) => ∃ (t47 : Bool), v45 = Value.bool t47 ∧ Keeps w12 w46 [] ∧ R (Ending.returned (Value.bool t47)) w46
theorem vcTry7 (p0 : Option Addr) (n0 c0 : Nat) (p1 : Option Addr) (n1 c1 : Nat) (p2 : Int) (w : World) (R : Ending → World → Prop) : SX.vcFn Try.prog [(6, ⟨[(9, .int .i64)], [1, 8, 2, 0, 7], []⟩)] Try.f7 [.v (.slice p0 n0 c0), .v (.slice p1 n1 c1), .v (.int .i64 p2)] [] w R = VCTry7 p0 n0 c0 p1 n1 c1 p2 w R := by kernel_rfl
def VCTry8 (p0 : Option Addr) (n0 c0 : Nat) (p1 : Int) (w : World) (R : Ending → World → Prop) : Prop :=
bif decide ((↑n0 : Int) > (1500 : Int)) then Rets Try.prog (22 : Nat) #[] w fun (v0 : Value) (w1 : World) => ∃ (t2 : Bool), v0 = Value.bool t2 ∧ Keeps w w1 [] ∧ R (Ending.returned (Value.bool t2)) w1
else
  Rets Try.prog (26 : Nat) #[Value.slice p0 n0 c0] w fun (v3 : Value) (w4 : World) =>
    ∃ (q5 : Option Addr),
      v3 = Value.pointer q5 ∧
        Keeps w w4 [] ∧
          Rets Try.prog (28 : Nat) #[Value.pointer q5, Value.int IntKind.i64 p1] w4 fun (v6 : Value) (w7 : World) =>
            ∃ (q8 : Option Addr),
              ∃ (n9 : Nat),
                ∃ (n10 : Nat),
                  v6 = Value.slice q8 n9 n10 ∧
                    Keeps w4 w7 [] ∧
                      ∃ (I11 : Int → Int → World → Prop),
                        ∃ (I12 : Int → Int → World → Nat),
                          I11 (1 : Int) (0 : Int) w7 ∧
                            ∀ (i13 i14 : Int) (w15 : World),
                              I11 i13 i14 w15 →
                                bif decide (i13 ≤ p1) then
                                  bif decide (i13 ≤ (32768 : Int)) then
                                    bif decide (p1 < (↑n0 : Int)) then
                                      Rets Try.prog (24 : Nat) #[Value.slice p0 n0 c0, Value.int IntKind.i64 p1, Value.int IntKind.i64 i13] w15 fun (v16 : Value) (w17 : World) =>
                                        ∃ (i18 : Int),
                                          v16 = Value.int IntKind.i64 i18 ∧
                                            Keeps w15 w17 [] ∧
                                              bif decide (i18 < (3 : Int)) then Wr IntKind.i64 (i13 + (1 : Int)) fun (i19 : Int) => I11 i19 i14 w17 ∧ I12 i19 i14 w17 < I12 i13 i14 w15
                                              else
                                                bif decide (i14 ≥ (↑n9 : Int)) then R (Ending.returned (Value.bool false)) w17
                                                else
                                                  ((0 : Int) ≤ i14 ∧ i14 < (↑n9 : Int)) ∧
                                                    SX.Ptr q8 fun (a20 : Addr) =>
                                                      ∃ (i21 : Int),
                                                        w17.cell? (a20.add (i14.toNat * (1 : Nat))) = some (Value.int IntKind.i64 i21) ∧
                                                          bif i21 != i13 then R (Ending.returned (Value.bool false)) w17
                                                          else Wr IntKind.i64 (i14 + (1 : Int)) fun (i22 : Int) => Wr IntKind.i64 (i13 + (1 : Int)) fun (i23 : Int) => I11 i23 i22 w17 ∧ I12 i23 i22 w17 < I12 i13 i14 w15
                                    else
                                      bif i14 == (↑n9 : Int) then
                                        Rets Try.prog (22 : Nat) #[] w15 fun (v24 : Value) (w25 : World) => ∃ (t26 : Bool), v24 = Value.bool t26 ∧ Keeps w15 w25 [] ∧ R (Ending.returned (Value.bool t26)) w25
                                      else R (Ending.returned (Value.bool false)) w15
                                  else
                                    bif i14 == (↑n9 : Int) then
                                      Rets Try.prog (22 : Nat) #[] w15 fun (v27 : Value) (w28 : World) => ∃ (t29 : Bool), v27 = Value.bool t29 ∧ Keeps w15 w28 [] ∧ R (Ending.returned (Value.bool t29)) w28
                                    else R (Ending.returned (Value.bool false)) w15
                                else
                                  bif i14 == (↑n9 : Int) then
                                    Rets Try.prog (22 : Nat) #[] w15 fun (v30 : Value) (w31 : World) => ∃ (t32 : Bool), v30 = Value.bool t32 ∧ Keeps w15 w31 [] ∧ R (Ending.returned (Value.bool t32)) w31
                                  else R (Ending.returned (Value.bool false)) w15
theorem vcTry8 (p0 : Option Addr) (n0 c0 : Nat) (p1 : Int) (w : World) (R : Ending → World → Prop) : SX.vcFn Try.prog [(6, ⟨[(7, .int .i64), (6, .int .i64)], [5, 1, 0], []⟩)] Try.f8 [.v (.slice p0 n0 c0), .v (.int .i64 p1)] [] w R = VCTry8 p0 n0 c0 p1 w R := by kernel_rfl
def VCTry22 (w : World) (R : Ending → World → Prop) : Prop :=
Runs Try.prog (convert (25 : Nat) (25 : Nat) (Value.slice (some { block := w.heap.size, off := (0 : Nat) }) (6 : Nat) (6 : Nat)))
  (w.alloc
    (Obj.cells #[Value.int IntKind.u8 (97 : Int), Value.int IntKind.u8 (98 : Int), Value.int IntKind.u8 (99 : Int), Value.int IntKind.u8 (97 : Int), Value.int IntKind.u8 (98 : Int), Value.int IntKind.u8 (99 : Int)]
      (5 : Nat)))
  fun (v0 : Value) (w1 : World) =>
  ∃ (q2 : Option Addr),
    ∃ (n3 : Nat),
      ∃ (n4 : Nat),
        v0 = Value.slice q2 n3 n4 ∧
          Keeps
              (w.alloc
                (Obj.cells
                  #[Value.int IntKind.u8 (97 : Int), Value.int IntKind.u8 (98 : Int), Value.int IntKind.u8 (99 : Int), Value.int IntKind.u8 (97 : Int), Value.int IntKind.u8 (98 : Int), Value.int IntKind.u8 (99 : Int)]
                  (5 : Nat)))
              w1 [] ∧
            Rets Try.prog (25 : Nat) #[Value.slice q2 n3 n4, Value.int IntKind.i64 (3 : Int), Value.int IntKind.i64 (1 : Int)] w1 fun (v5 : Value) (w6 : World) =>
              ∃ (i7 : Int),
                ∃ (i8 : Int),
                  v5 = Value.tuple #[Value.int IntKind.i64 i7, Value.int IntKind.i64 i8] ∧
                    Keeps w1 w6 [] ∧ bif i7 == (3 : Int) then R (Ending.returned (Value.bool (i8 == (3 : Int)))) w6 else R (Ending.returned (Value.bool false)) w6
theorem vcTry22 (w : World) (R : Ending → World → Prop) : SX.vcFn Try.prog [] Try.f22 [] [] w R = VCTry22  w R := by kernel_rfl
def VCTry60 (p0 : Option Addr) (p1 : Int) (w : World) (R : Ending → World → Prop) : Prop :=
bif decide (p1 ≥ (0 : Int)) then
  SX.Ptr p0 fun (a0 : Addr) =>
    ∃ (q1 : Option Addr),
      ∃ (n2 : Nat), ∃ (n3 : Nat), w.cell? (a0.add (0 : Nat)) = some (Value.slice q1 n2 n3) ∧ Wr IntKind.i64 ((↑n2 : Int) - (3 : Int)) fun (i4 : Int) => R (Ending.returned (Value.bool (decide (p1 ≤ i4)))) w
else R (Ending.returned (Value.bool false)) w
theorem vcTry60 (p0 : Option Addr) (p1 : Int) (w : World) (R : Ending → World → Prop) : SX.vcFn Try.prog [] Try.f60 [.v (.pointer p0), .v (.int .i64 p1)] [] w R = VCTry60 p0 p1 w R := by kernel_rfl
def VCTry61 (p0 : Option Addr) (p1 : Int) (w : World) (R : Ending → World → Prop) : Prop :=
∃ (I0 : World → Prop),
  ∃ (I1 : World → Nat),
    I0 w ∧
      ∀ (w2 : World),
        I0 w2 →
          SX.Ptr p0 fun (a3 : Addr) =>
            ∃ (i4 : Int),
              w2.cell? (a3.add (3 : Nat)) = some (Value.int IntKind.i64 i4) ∧
                bif decide (i4 ≤ p1) then
                  SX.Ptr p0 fun (a5 : Addr) =>
                    ∃ (q6 : Option Addr),
                      ∃ (n7 : Nat),
                        ∃ (n8 : Nat),
                          w2.drew.cell? (a5.add (0 : Nat)) = some (Value.slice q6 n7 n8) ∧
                            SX.Ptr p0 fun (a9 : Addr) =>
                              ∃ (i10 : Int),
                                w2.drew.cell? (a9.add (3 : Nat)) = some (Value.int IntKind.i64 i10) ∧
                                  Rets Try.prog (63 : Nat) #[Value.slice q6 n7 n8, Value.int IntKind.i64 i10] w2.drew fun (v11 : Value) (w12 : World) =>
                                    ∃ (i13 : Int),
                                      v11 = Value.int IntKind.i64 i13 ∧
                                        Keeps w2.drew w12 [] ∧
                                          SX.Ptr p0 fun (a14 : Addr) =>
                                            ∃ (q15 : Option Nat),
                                              w12.cell? (a14.add (1 : Nat)) = some (Value.map q15) ∧
                                                Runs Try.prog (Instr.lookup (70 : Nat) (Value.map q15) (Value.int IntKind.i64 i13) true) w12 fun (v16 : Value) (w17 : World) =>
                                                  ∃ (i18 : Int),
                                                    ∃ (t19 : Bool),
                                                      v16 = Value.tuple #[Value.int IntKind.i64 i18, Value.bool t19] ∧
                                                        Keeps w12 w17 [] ∧
                                                          bif !t19 then
                                                            SX.Ptr p0 fun (a20 : Addr) =>
                                                              ∃ (q21 : Option Addr),
                                                                ∃ (n22 : Nat),
                                                                  ∃ (n23 : Nat),
                                                                    w17.cell? (a20.add (2 : Nat)) = some (Value.slice q21 n22 n23) ∧
                                                                      Runs Try.prog
                                                                        (Builtin.append_ #[(26 : Nat), (26 : Nat)] (26 : Nat)
                                                                          #[Value.slice q21 n22 n23, Value.slice (some { block := w17.heap.size, off := (0 : Nat) }) (1 : Nat) (1 : Nat)])
                                                                        (w17.alloc (Obj.cells #[Value.int IntKind.i64 (-1 : Int)] (3 : Nat))) fun (v24 : Value) (w25 : World) =>
                                                                        ∃ (q26 : Option Addr),
                                                                          ∃ (n27 : Nat),
                                                                            ∃ (n28 : Nat),
                                                                              v24 = Value.slice q26 n27 n28 ∧
                                                                                Keeps (w17.alloc (Obj.cells #[Value.int IntKind.i64 (-1 : Int)] (3 : Nat))) w25 [] ∧
                                                                                  SX.Ptr p0 fun (a29 : Addr) =>
                                                                                    (∃ (v30 : Value), w25.cell? ((a29.add (2 : Nat)).add (0 : Nat)) = some v30) ∧
                                                                                      w25.frozen? ((a29.add (2 : Nat)).add (0 : Nat)) = false ∧
                                                                                        SX.Ptr p0 fun (a31 : Addr) =>
                                                                                          ∃ (q32 : Option Nat),
                                                                                            (w25.setCell ((a29.add (2 : Nat)).add (0 : Nat)) (Value.slice q26 n27 n28)).drew.cell? (a31.add (1 : Nat)) =
                                                                                                some (Value.map q32) ∧
                                                                                              SX.Ptr p0 fun (a33 : Addr) =>
                                                                                                ∃ (i34 : Int),
                                                                                                  (w25.setCell ((a29.add (2 : Nat)).add (0 : Nat)) (Value.slice q26 n27 n28)).drew.cell? (a33.add (3 : Nat)) =
                                                                                                      some (Value.int IntKind.i64 i34) ∧
                                                                                                    Runs Try.prog (Instr.mapUpdate (70 : Nat) (Value.map q32) (Value.int IntKind.i64 i13) (Value.int IntKind.i64 i34))
                                                                                                      (w25.setCell ((a29.add (2 : Nat)).add (0 : Nat)) (Value.slice q26 n27 n28)).drew fun (x35 : Unit) (w36 : World) =>
                                                                                                      Keeps (w25.setCell ((a29.add (2 : Nat)).add (0 : Nat)) (Value.slice q26 n27 n28)).drew w36 [] ∧
                                                                                                        SX.Ptr p0 fun (a37 : Addr) =>
                                                                                                          ∃ (i38 : Int),
                                                                                                            w36.cell? (a37.add (3 : Nat)) = some (Value.int IntKind.i64 i38) ∧
                                                                                                              Wr IntKind.i64 (i38 + (1 : Int)) fun (i39 : Int) =>
                                                                                                                SX.Ptr p0 fun (a40 : Addr) =>
                                                                                                                  (∃ (v41 : Value), w36.cell? ((a40.add (3 : Nat)).add (0 : Nat)) = some v41) ∧
                                                                                                                    w36.frozen? ((a40.add (3 : Nat)).add (0 : Nat)) = false ∧
                                                                                                                      I0 (w36.setCell ((a40.add (3 : Nat)).add (0 : Nat)) (Value.int IntKind.i64 i39)) ∧
                                                                                                                        I1 (w36.setCell ((a40.add (3 : Nat)).add (0 : Nat)) (Value.int IntKind.i64 i39)) < I1 w2
                                                          else
                                                            SX.Ptr p0 fun (a42 : Addr) =>
                                                              ∃ (q43 : Option Addr),
                                                                ∃ (n44 : Nat),
                                                                  ∃ (n45 : Nat),
                                                                    w17.cell? (a42.add (2 : Nat)) = some (Value.slice q43 n44 n45) ∧
                                                                      Runs Try.prog
                                                                        (Builtin.append_ #[(26 : Nat), (26 : Nat)] (26 : Nat)
                                                                          #[Value.slice q43 n44 n45, Value.slice (some { block := w17.heap.size, off := (0 : Nat) }) (1 : Nat) (1 : Nat)])
                                                                        (w17.alloc (Obj.cells #[Value.int IntKind.i64 i18] (3 : Nat))) fun (v46 : Value) (w47 : World) =>
                                                                        ∃ (q48 : Option Addr),
                                                                          ∃ (n49 : Nat),
                                                                            ∃ (n50 : Nat),
                                                                              v46 = Value.slice q48 n49 n50 ∧
                                                                                Keeps (w17.alloc (Obj.cells #[Value.int IntKind.i64 i18] (3 : Nat))) w47 [] ∧
                                                                                  SX.Ptr p0 fun (a51 : Addr) =>
                                                                                    (∃ (v52 : Value), w47.cell? ((a51.add (2 : Nat)).add (0 : Nat)) = some v52) ∧
                                                                                      w47.frozen? ((a51.add (2 : Nat)).add (0 : Nat)) = false ∧
                                                                                        SX.Ptr p0 fun (a53 : Addr) =>
                                                                                          ∃ (q54 : Option Nat),
                                                                                            (w47.setCell ((a51.add (2 : Nat)).add (0 : Nat)) (Value.slice q48 n49 n50)).drew.cell? (a53.add (1 : Nat)) =
                                                                                                some (Value.map q54) ∧
                                                                                              SX.Ptr p0 fun (a55 : Addr) =>
                                                                                                ∃ (i56 : Int),
                                                                                                  (w47.setCell ((a51.add (2 : Nat)).add (0 : Nat)) (Value.slice q48 n49 n50)).drew.cell? (a55.add (3 : Nat)) =
                                                                                                      some (Value.int IntKind.i64 i56) ∧
                                                                                                    Runs Try.prog (Instr.mapUpdate (70 : Nat) (Value.map q54) (Value.int IntKind.i64 i13) (Value.int IntKind.i64 i56))
                                                                                                      (w47.setCell ((a51.add (2 : Nat)).add (0 : Nat)) (Value.slice q48 n49 n50)).drew fun (x57 : Unit) (w58 : World) =>
                                                                                                      Keeps (w47.setCell ((a51.add (2 : Nat)).add (0 : Nat)) (Value.slice q48 n49 n50)).drew w58 [] ∧
                                                                                                        SX.Ptr p0 fun (a59 : Addr) =>
                                                                                                          ∃ (i60 : Int),
                                                                                                            w58.cell? (a59.add (3 : Nat)) = some (Value.int IntKind.i64 i60) ∧
                                                                                                              Wr IntKind.i64 (i60 + (1 : Int)) fun (i61 : Int) =>
                                                                                                                SX.Ptr p0 fun (a62 : Addr) =>
                                                                                                                  (∃ (v63 : Value), w58.cell? ((a62.add (3 : Nat)).add (0 : Nat)) = some v63) ∧
                                                                                                                    w58.frozen? ((a62.add (3 : Nat)).add (0 : Nat)) = false ∧
                                                                                                                      I0 (w58.setCell ((a62.add (3 : Nat)).add (0 : Nat)) (Value.int IntKind.i64 i61)) ∧
                                                                                                                        I1 (w58.setCell ((a62.add (3 : Nat)).add (0 : Nat)) (Value.int IntKind.i64 i61)) < I1 w2
                else R (Ending.returned (Value.tuple #[])) w2
theorem vcTry61 (p0 : Option Addr) (p1 : Int) (w : World) (R : Ending → World → Prop) : SX.vcFn Try.prog [(0, ⟨[], [0, 1], []⟩)] Try.f61 [.v (.pointer p0), .v (.int .i64 p1)] [] w R = VCTry61 p0 p1 w R := by kernel_rfl
def VCTry63 (p0 : Option Addr) (n0 c0 : Nat) (p1 : Int) (w : World) (R : Ending → World → Prop) : Prop :=
((0 : Int) ≤ p1 ∧ p1 < (↑n0 : Int)) ∧
  SX.Ptr p0 fun (a0 : Addr) =>
    ∃ (i1 : Int),
      w.drew.cell? (a0.add (p1.toNat * (1 : Nat))) = some (Value.int IntKind.u8 i1) ∧
        Wr IntKind.i64 i1 fun (i2 : Int) =>
          Wr IntKind.i64 (p1 + (1 : Int)) fun (i3 : Int) =>
            ((0 : Int) ≤ i3 ∧ i3 < (↑n0 : Int)) ∧
              SX.Ptr p0 fun (a4 : Addr) =>
                ∃ (i5 : Int),
                  w.drew.cell? (a4.add (i3.toNat * (1 : Nat))) = some (Value.int IntKind.u8 i5) ∧
                    Wr IntKind.i64 i5 fun (i6 : Int) =>
                      (0 : Int) ≤ (8 : Int) ∧
                        Wr IntKind.i64 (shlI IntKind.i64 i6 (8 : Int)) fun (i7 : Int) =>
                          Wr IntKind.i64 (p1 + (2 : Int)) fun (i8 : Int) =>
                            ((0 : Int) ≤ i8 ∧ i8 < (↑n0 : Int)) ∧
                              SX.Ptr p0 fun (a9 : Addr) =>
                                ∃ (i10 : Int),
                                  w.drew.cell? (a9.add (i8.toNat * (1 : Nat))) = some (Value.int IntKind.u8 i10) ∧
                                    Wr IntKind.i64 i10 fun (i11 : Int) =>
                                      (0 : Int) ≤ (16 : Int) ∧
                                        Wr IntKind.i64 (shlI IntKind.i64 i11 (16 : Int)) fun (i12 : Int) => R (Ending.returned (Value.int IntKind.i64 (orI IntKind.i64 (orI IntKind.i64 i2 i7) i12))) w.drew
theorem vcTry63 (p0 : Option Addr) (n0 c0 : Nat) (p1 : Int) (w : World) (R : Ending → World → Prop) : SX.vcFn Try.prog [] Try.f63 [.v (.slice p0 n0 c0), .v (.int .i64 p1)] [] w R = VCTry63 p0 n0 c0 p1 w R := by kernel_rfl
end Go.Proofs.Ytodgnegbaigdbaa
