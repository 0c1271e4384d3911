/- The conditions of functions, as the executor computes them: each is equal to what 'vcFn' says. -/
import Derived.Test.YtodgnegbaigdbaaSxLib
import Derived.Test.YtodgnegbaigdbaaProg
namespace Go.Proofs.Ytodgnegbaigdbaa
open Go Go.SX Go.Proofs
set_option maxRecDepth 100000
set_option linter.unusedVariables false
def VCTry6 (q : Option Addr) (n c : Nat) (at_ x y : Int) (w : World) (R : Ending → World → Prop) : Prop :=
bif decide ((↑n : Int) > (3000 : Int)) then
  Known (w.alloc (Obj.cells #[Value.int IntKind.i64 x, Value.int IntKind.i64 y] (35 : Nat))) [(w.heap.size, [((0 : Nat), Value.int IntKind.i64 x), ((1 : Nat), Value.int IntKind.i64 y)])] →
    Rets Try.prog (22 : Nat) #[] (w.alloc (Obj.cells #[Value.int IntKind.i64 x, Value.int IntKind.i64 y] (35 : Nat))) fun (v0 : Value) (w1 : World) =>
      ∃ (t2 : Bool),
        v0 = Value.bool t2 ∧
          Keeps (w.alloc (Obj.cells #[Value.int IntKind.i64 x, Value.int IntKind.i64 y] (35 : Nat))) w1 [w.heap.size] ∧
            (Known w1 [(w.heap.size, [((0 : Nat), Value.int IntKind.i64 x), ((1 : Nat), Value.int IntKind.i64 y)])] → R (Ending.returned (Value.bool t2)) w1)
else
  (0 : Int) = (↑(0 : Nat) : Int) ∧
    (1 : Int) = (↑(1 : Nat) : Int) ∧
      bif decide (x > y) then
        Known (w.alloc (Obj.cells #[Value.int IntKind.i64 x, Value.int IntKind.i64 y] (35 : Nat))) [(w.heap.size, [((0 : Nat), Value.int IntKind.i64 x), ((1 : Nat), Value.int IntKind.i64 y)])] →
          Rets Try.prog (22 : Nat) #[] (w.alloc (Obj.cells #[Value.int IntKind.i64 x, Value.int IntKind.i64 y] (35 : Nat))) fun (v3 : Value) (w4 : World) =>
            ∃ (t5 : Bool),
              v3 = Value.bool t5 ∧
                Keeps (w.alloc (Obj.cells #[Value.int IntKind.i64 x, Value.int IntKind.i64 y] (35 : Nat))) w4 [] ∧
                  ∃ (i6 : Int),
                    w4.cell? { block := w.heap.size, off := (0 : Nat) } = some (Value.int IntKind.i64 i6) ∧
                      w4.frozen? { block := w.heap.size, off := (0 : Nat) } = false ∧
                        ∃ (i7 : Int),
                          w4.cell? { block := w.heap.size, off := (1 : Nat) } = some (Value.int IntKind.i64 i7) ∧
                            w4.frozen? { block := w.heap.size, off := (1 : Nat) } = false ∧
                              (Known w4 [(w.heap.size, [((0 : Nat), Value.int IntKind.i64 i6), ((1 : Nat), Value.int IntKind.i64 i7)])] → R (Ending.returned (Value.bool t5)) w4)
      else
        (1 : Int) = (↑(1 : Nat) : Int) ∧
          bif decide (y > (100000 : Int)) then
            Known (w.alloc (Obj.cells #[Value.int IntKind.i64 x, Value.int IntKind.i64 y] (35 : Nat))) [(w.heap.size, [((0 : Nat), Value.int IntKind.i64 x), ((1 : Nat), Value.int IntKind.i64 y)])] →
              Rets Try.prog (22 : Nat) #[] (w.alloc (Obj.cells #[Value.int IntKind.i64 x, Value.int IntKind.i64 y] (35 : Nat))) fun (v8 : Value) (w9 : World) =>
                ∃ (t10 : Bool),
                  v8 = Value.bool t10 ∧
                    Keeps (w.alloc (Obj.cells #[Value.int IntKind.i64 x, Value.int IntKind.i64 y] (35 : Nat))) w9 [] ∧
                      ∃ (i11 : Int),
                        w9.cell? { block := w.heap.size, off := (0 : Nat) } = some (Value.int IntKind.i64 i11) ∧
                          w9.frozen? { block := w.heap.size, off := (0 : Nat) } = false ∧
                            ∃ (i12 : Int),
                              w9.cell? { block := w.heap.size, off := (1 : Nat) } = some (Value.int IntKind.i64 i12) ∧
                                w9.frozen? { block := w.heap.size, off := (1 : Nat) } = false ∧
                                  (Known w9 [(w.heap.size, [((0 : Nat), Value.int IntKind.i64 i11), ((1 : Nat), Value.int IntKind.i64 i12)])] → R (Ending.returned (Value.bool t10)) w9)
          else
            (0 : Int) = (↑(0 : Nat) : Int) ∧
              (Known (w.alloc (Obj.cells #[Value.int IntKind.i64 x, Value.int IntKind.i64 y] (35 : Nat))) [(w.heap.size, [((0 : Nat), Value.int IntKind.i64 x), ((1 : Nat), Value.int IntKind.i64 y)])] →
                Rets Try.prog (25 : Nat) #[Value.slice q n c, Value.int IntKind.i64 at_, Value.int IntKind.i64 x] (w.alloc (Obj.cells #[Value.int IntKind.i64 x, Value.int IntKind.i64 y] (35 : Nat)))
                  fun (v13 : Value) (w14 : World) =>
                  ∃ (i15 : Int),
                    ∃ (i16 : Int),
                      v13 = Value.tuple #[Value.int IntKind.i64 i15, Value.int IntKind.i64 i16] ∧
                        Keeps (w.alloc (Obj.cells #[Value.int IntKind.i64 x, Value.int IntKind.i64 y] (35 : Nat))) w14 [] ∧
                          ∃ (i17 : Int),
                            w14.cell? { block := w.heap.size, off := (0 : Nat) } = some (Value.int IntKind.i64 i17) ∧
                              w14.frozen? { block := w.heap.size, off := (0 : Nat) } = false ∧
                                ∃ (i18 : Int),
                                  w14.cell? { block := w.heap.size, off := (1 : Nat) } = some (Value.int IntKind.i64 i18) ∧
                                    w14.frozen? { block := w.heap.size, off := (1 : Nat) } = false ∧
                                      (1 : Int) = (↑(1 : Nat) : Int) ∧
                                        (Known w14 [(w.heap.size, [((0 : Nat), Value.int IntKind.i64 i17), ((1 : Nat), Value.int IntKind.i64 i18)])] →
                                          Rets Try.prog (25 : Nat) #[Value.slice q n c, Value.int IntKind.i64 at_, Value.int IntKind.i64 i18] w14 fun (v19 : Value) (w20 : World) =>
                                            ∃ (i21 : Int),
                                              ∃ (i22 : Int),
                                                v19 = Value.tuple #[Value.int IntKind.i64 i21, Value.int IntKind.i64 i22] ∧
                                                  Keeps w14 w20 [] ∧
                                                    ∃ (i23 : Int),
                                                      w20.cell? { block := w.heap.size, off := (0 : Nat) } = some (Value.int IntKind.i64 i23) ∧
                                                        w20.frozen? { block := w.heap.size, off := (0 : Nat) } = false ∧
                                                          ∃ (i24 : Int),
                                                            w20.cell? { block := w.heap.size, off := (1 : Nat) } = some (Value.int IntKind.i64 i24) ∧
                                                              w20.frozen? { block := w.heap.size, off := (1 : Nat) } = false ∧
                                                                bif decide (i21 < i15) then
                                                                  Known w20 [(w.heap.size, [((0 : Nat), Value.int IntKind.i64 i23), ((1 : Nat), Value.int IntKind.i64 i24)])] → R (Ending.returned (Value.bool false)) w20
                                                                else
                                                                  bif i15 != (0 : Int) then
                                                                    bif decide (i15 < (3 : Int)) then
                                                                      Known w20 [(w.heap.size, [((0 : Nat), Value.int IntKind.i64 i23), ((1 : Nat), Value.int IntKind.i64 i24)])] →
                                                                        R (Ending.returned (Value.bool false)) w20
                                                                    else
                                                                      bif decide (i15 > (258 : Int)) then
                                                                        Known w20 [(w.heap.size, [((0 : Nat), Value.int IntKind.i64 i23), ((1 : Nat), Value.int IntKind.i64 i24)])] →
                                                                          R (Ending.returned (Value.bool false)) w20
                                                                      else
                                                                        bif decide (i16 < (1 : Int)) then
                                                                          Known w20 [(w.heap.size, [((0 : Nat), Value.int IntKind.i64 i23), ((1 : Nat), Value.int IntKind.i64 i24)])] →
                                                                            R (Ending.returned (Value.bool false)) w20
                                                                        else
                                                                          bif decide (i16 > at_) then
                                                                            Known w20 [(w.heap.size, [((0 : Nat), Value.int IntKind.i64 i23), ((1 : Nat), Value.int IntKind.i64 i24)])] →
                                                                              R (Ending.returned (Value.bool false)) w20
                                                                          else
                                                                            bif decide (i16 > (32768 : Int)) then
                                                                              Known w20 [(w.heap.size, [((0 : Nat), Value.int IntKind.i64 i23), ((1 : Nat), Value.int IntKind.i64 i24)])] →
                                                                                R (Ending.returned (Value.bool false)) w20
                                                                            else
                                                                              bif decide (at_ < (0 : Int)) then
                                                                                Known w20 [(w.heap.size, [((0 : Nat), Value.int IntKind.i64 i23), ((1 : Nat), Value.int IntKind.i64 i24)])] →
                                                                                  R (Ending.returned (Value.bool false)) w20
                                                                              else
                                                                                Wr IntKind.i64 ((↑n : Int) - at_) fun (i25 : Int) =>
                                                                                  bif decide (i15 > i25) then
                                                                                    Known w20 [(w.heap.size, [((0 : Nat), Value.int IntKind.i64 i23), ((1 : Nat), Value.int IntKind.i64 i24)])] →
                                                                                      R (Ending.returned (Value.bool false)) w20
                                                                                  else
                                                                                    ∃ (I26 : Int → World → Prop),
                                                                                      ∃ (I27 : Int → World → Nat),
                                                                                        I26 (0 : Int) w20 ∧
                                                                                          ∀ (i28 : Int) (w29 : World),
                                                                                            I26 i28 w29 →
                                                                                              Known w29 [(w.heap.size, [((0 : Nat), Value.int IntKind.i64 i23), ((1 : Nat), Value.int IntKind.i64 i24)])] →
                                                                                                bif decide (i28 < i15) then
                                                                                                  Wr IntKind.i64 (at_ + i28) fun (i30 : Int) =>
                                                                                                    ((0 : Int) ≤ i30 ∧ i30 < (↑n : Int)) ∧
                                                                                                      SX.Ptr q fun (a31 : Addr) =>
                                                                                                        ∃ (i32 : Int),
                                                                                                          w29.drew.cell? (a31.add (i30.toNat * (1 : Nat))) = some (Value.int IntKind.u8 i32) ∧
                                                                                                            Wr IntKind.i64 (at_ + i28) fun (i33 : Int) =>
                                                                                                              Wr IntKind.i64 (i33 - i16) fun (i34 : Int) =>
                                                                                                                ((0 : Int) ≤ i34 ∧ i34 < (↑n : Int)) ∧
                                                                                                                  SX.Ptr q fun (a35 : Addr) =>
                                                                                                                    ∃ (i36 : Int),
                                                                                                                      w29.drew.cell? (a35.add (i34.toNat * (1 : Nat))) = some (Value.int IntKind.u8 i36) ∧
                                                                                                                        bif i32 != i36 then
                                                                                                                          Known w29.drew
                                                                                                                              [(w.heap.size,
                                                                                                                                  [((0 : Nat), Value.int IntKind.i64 i23), ((1 : Nat), Value.int IntKind.i64 i24)])] →
                                                                                                                            R (Ending.returned (Value.bool false)) w29.drew
                                                                                                                        else
                                                                                                                          Wr IntKind.i64 (i28 + (1 : Int)) fun (i37 : Int) =>
                                                                                                                            SameVals [Value.int IntKind.i64 i23, Value.int IntKind.i64 i24]
                                                                                                                                [Value.int IntKind.i64 i23, Value.int IntKind.i64 i24] ∧
                                                                                                                              I26 i37 w29.drew ∧ I27 i37 w29.drew < I27 i28 w29
                                                                                                else
                                                                                                  bif i15 == (0 : Int) then
                                                                                                    bif decide (i15 > (0 : Int)) == decide (i16 > (0 : Int)) then
                                                                                                      Known w29.drew [(w.heap.size, [((0 : Nat), Value.int IntKind.i64 i23), ((1 : Nat), Value.int IntKind.i64 i24)])] →
                                                                                                        Rets Try.prog (22 : Nat) #[] w29.drew fun (v38 : Value) (w39 : World) =>
                                                                                                          ∃ (t40 : Bool),
                                                                                                            v38 = Value.bool t40 ∧
                                                                                                              Keeps w29.drew w39 [] ∧
                                                                                                                ∃ (i41 : Int),
                                                                                                                  w39.cell? { block := w.heap.size, off := (0 : Nat) } = some (Value.int IntKind.i64 i41) ∧
                                                                                                                    w39.frozen? { block := w.heap.size, off := (0 : Nat) } = false ∧
                                                                                                                      ∃ (i42 : Int),
                                                                                                                        w39.cell? { block := w.heap.size, off := (1 : Nat) } = some (Value.int IntKind.i64 i42) ∧
                                                                                                                          w39.frozen? { block := w.heap.size, off := (1 : Nat) } = false ∧
                                                                                                                            (Known w39
                                                                                                                                [(w.heap.size,
                                                                                                                                    [((0 : Nat), Value.int IntKind.i64 i41), ((1 : Nat), Value.int IntKind.i64 i42)])] →
                                                                                                                              R (Ending.returned (Value.bool t40)) w39)
                                                                                                    else
                                                                                                      Known w29.drew [(w.heap.size, [((0 : Nat), Value.int IntKind.i64 i23), ((1 : Nat), Value.int IntKind.i64 i24)])] →
                                                                                                        R (Ending.returned (Value.bool false)) w29.drew
                                                                                                  else
                                                                                                    bif i15 == (258 : Int) then
                                                                                                      bif decide (i15 > (0 : Int)) == decide (i16 > (0 : Int)) then
                                                                                                        Known w29.drew [(w.heap.size, [((0 : Nat), Value.int IntKind.i64 i23), ((1 : Nat), Value.int IntKind.i64 i24)])] →
                                                                                                          Rets Try.prog (22 : Nat) #[] w29.drew fun (v43 : Value) (w44 : World) =>
                                                                                                            ∃ (t45 : Bool),
                                                                                                              v43 = Value.bool t45 ∧
                                                                                                                Keeps w29.drew w44 [] ∧
                                                                                                                  ∃ (i46 : Int),
                                                                                                                    w44.cell? { block := w.heap.size, off := (0 : Nat) } = some (Value.int IntKind.i64 i46) ∧
                                                                                                                      w44.frozen? { block := w.heap.size, off := (0 : Nat) } = false ∧
                                                                                                                        ∃ (i47 : Int),
                                                                                                                          w44.cell? { block := w.heap.size, off := (1 : Nat) } = some (Value.int IntKind.i64 i47) ∧
                                                                                                                            w44.frozen? { block := w.heap.size, off := (1 : Nat) } = false ∧
                                                                                                                              (Known w44
                                                                                                                                  [(w.heap.size,
                                                                                                                                      [((0 : Nat), Value.int IntKind.i64 i46), ((1 : Nat), Value.int IntKind.i64 i47)])] →
                                                                                                                                R (Ending.returned (Value.bool t45)) w44)
                                                                                                      else
                                                                                                        Known w29.drew [(w.heap.size, [((0 : Nat), Value.int IntKind.i64 i23), ((1 : Nat), Value.int IntKind.i64 i24)])] →
                                                                                                          R (Ending.returned (Value.bool false)) w29.drew
                                                                                                    else
                                                                                                      Wr IntKind.i64 (at_ + i15) fun (i48 : Int) =>
                                                                                                        bif i48 == (↑n : Int) then
                                                                                                          bif decide (i15 > (0 : Int)) == decide (i16 > (0 : Int)) then
                                                                                                            Known w29.drew
                                                                                                                [(w.heap.size, [((0 : Nat), Value.int IntKind.i64 i23), ((1 : Nat), Value.int IntKind.i64 i24)])] →
                                                                                                              Rets Try.prog (22 : Nat) #[] w29.drew fun (v49 : Value) (w50 : World) =>
                                                                                                                ∃ (t51 : Bool),
                                                                                                                  v49 = Value.bool t51 ∧
                                                                                                                    Keeps w29.drew w50 [] ∧
                                                                                                                      ∃ (i52 : Int),
                                                                                                                        w50.cell? { block := w.heap.size, off := (0 : Nat) } = some (Value.int IntKind.i64 i52) ∧
                                                                                                                          w50.frozen? { block := w.heap.size, off := (0 : Nat) } = false ∧
                                                                                                                            ∃ (i53 : Int),
                                                                                                                              w50.cell? { block := w.heap.size, off := (1 : Nat) } = some (Value.int IntKind.i64 i53) ∧
                                                                                                                                w50.frozen? { block := w.heap.size, off := (1 : Nat) } = false ∧
                                                                                                                                  (Known w50
                                                                                                                                      [(w.heap.size,
                                                                                                                                          [((0 : Nat), Value.int IntKind.i64 i52),
                                                                                                                                            ((1 : Nat), Value.int IntKind.i64 i53)])] →
                                                                                                                                    R (Ending.returned (Value.bool t51)) w50)
                                                                                                          else
                                                                                                            Known w29.drew
                                                                                                                [(w.heap.size, [((0 : Nat), Value.int IntKind.i64 i23), ((1 : Nat), Value.int IntKind.i64 i24)])] →
                                                                                                              R (Ending.returned (Value.bool false)) w29.drew
                                                                                                        else
                                                                                                          Wr IntKind.i64 (at_ + i15) fun (i54 : Int) =>
                                                                                                            ((0 : Int) ≤ i54 ∧ i54 < (↑n : Int)) ∧
                                                                                                              SX.Ptr q fun (a55 : Addr) =>
                                                                                                                ∃ (i56 : Int),
                                                                                                                  w29.drew.cell? (a55.add (i54.toNat * (1 : Nat))) = some (Value.int IntKind.u8 i56) ∧
                                                                                                                    Wr IntKind.i64 (at_ + i15) fun (i57 : Int) =>
                                                                                                                      Wr IntKind.i64 (i57 - i16) fun (i58 : Int) =>
                                                                                                                        ((0 : Int) ≤ i58 ∧ i58 < (↑n : Int)) ∧
                                                                                                                          SX.Ptr q fun (a59 : Addr) =>
                                                                                                                            ∃ (i60 : Int),
                                                                                                                              w29.drew.cell? (a59.add (i58.toNat * (1 : Nat))) = some (Value.int IntKind.u8 i60) ∧
                                                                                                                                bif i56 != i60 then
                                                                                                                                  bif decide (i15 > (0 : Int)) == decide (i16 > (0 : Int)) then
                                                                                                                                    Known w29.drew
                                                                                                                                        [(w.heap.size,
                                                                                                                                            [((0 : Nat), Value.int IntKind.i64 i23),
                                                                                                                                              ((1 : Nat), Value.int IntKind.i64 i24)])] →
                                                                                                                                      Rets Try.prog (22 : Nat) #[] w29.drew fun (v61 : Value) (w62 : World) =>
                                                                                                                                        ∃ (t63 : Bool),
                                                                                                                                          v61 = Value.bool t63 ∧
                                                                                                                                            Keeps w29.drew w62 [] ∧
                                                                                                                                              ∃ (i64 : Int),
                                                                                                                                                w62.cell? { block := w.heap.size, off := (0 : Nat) } =
                                                                                                                                                    some (Value.int IntKind.i64 i64) ∧
                                                                                                                                                  w62.frozen? { block := w.heap.size, off := (0 : Nat) } = false ∧
                                                                                                                                                    ∃ (i65 : Int),
                                                                                                                                                      w62.cell? { block := w.heap.size, off := (1 : Nat) } =
                                                                                                                                                          some (Value.int IntKind.i64 i65) ∧
                                                                                                                                                        w62.frozen? { block := w.heap.size, off := (1 : Nat) } = false ∧
                                                                                                                                                          (Known w62
                                                                                                                                                              [(w.heap.size,
                                                                                                                                                                  [((0 : Nat), Value.int IntKind.i64 i64),
                                                                                                                                                                    ((1 : Nat), Value.int IntKind.i64 i65)])] →
                                                                                                                                                            R (Ending.returned (Value.bool t63)) w62)
                                                                                                                                  else
                                                                                                                                    Known w29.drew
                                                                                                                                        [(w.heap.size,
                                                                                                                                            [((0 : Nat), Value.int IntKind.i64 i23),
                                                                                                                                              ((1 : Nat), Value.int IntKind.i64 i24)])] →
                                                                                                                                      R (Ending.returned (Value.bool false)) w29.drew
                                                                                                                                else
                                                                                                                                  Known w29.drew
                                                                                                                                      [(w.heap.size,
                                                                                                                                          [((0 : Nat), Value.int IntKind.i64 i23),
                                                                                                                                            ((1 : Nat), Value.int IntKind.i64 i24)])] →
                                                                                                                                    R (Ending.returned (Value.bool false)) w29.drew
                                                                  else
                                                                    ∃ (I66 : Int → World → Prop),
                                                                      ∃ (I67 : Int → World → Nat),
                                                                        I66 (0 : Int) w20 ∧
                                                                          ∀ (i68 : Int) (w69 : World),
                                                                            I66 i68 w69 →
                                                                              Known w69 [(w.heap.size, [((0 : Nat), Value.int IntKind.i64 i23), ((1 : Nat), Value.int IntKind.i64 i24)])] →
                                                                                bif decide (i68 < i15) then
                                                                                  Wr IntKind.i64 (at_ + i68) fun (i70 : Int) =>
                                                                                    ((0 : Int) ≤ i70 ∧ i70 < (↑n : Int)) ∧
                                                                                      SX.Ptr q fun (a71 : Addr) =>
                                                                                        ∃ (i72 : Int),
                                                                                          w69.drew.cell? (a71.add (i70.toNat * (1 : Nat))) = some (Value.int IntKind.u8 i72) ∧
                                                                                            Wr IntKind.i64 (at_ + i68) fun (i73 : Int) =>
                                                                                              Wr IntKind.i64 (i73 - i16) fun (i74 : Int) =>
                                                                                                ((0 : Int) ≤ i74 ∧ i74 < (↑n : Int)) ∧
                                                                                                  SX.Ptr q fun (a75 : Addr) =>
                                                                                                    ∃ (i76 : Int),
                                                                                                      w69.drew.cell? (a75.add (i74.toNat * (1 : Nat))) = some (Value.int IntKind.u8 i76) ∧
                                                                                                        bif i72 != i76 then
                                                                                                          Known w69.drew [(w.heap.size, [((0 : Nat), Value.int IntKind.i64 i23), ((1 : Nat), Value.int IntKind.i64 i24)])] →
                                                                                                            R (Ending.returned (Value.bool false)) w69.drew
                                                                                                        else
                                                                                                          Wr IntKind.i64 (i68 + (1 : Int)) fun (i77 : Int) =>
                                                                                                            SameVals [Value.int IntKind.i64 i23, Value.int IntKind.i64 i24]
                                                                                                                [Value.int IntKind.i64 i23, Value.int IntKind.i64 i24] ∧
                                                                                                              I66 i77 w69.drew ∧ I67 i77 w69.drew < I67 i68 w69
                                                                                else
                                                                                  bif i15 == (0 : Int) then
                                                                                    bif decide (i15 > (0 : Int)) == decide (i16 > (0 : Int)) then
                                                                                      Known w69.drew [(w.heap.size, [((0 : Nat), Value.int IntKind.i64 i23), ((1 : Nat), Value.int IntKind.i64 i24)])] →
                                                                                        Rets Try.prog (22 : Nat) #[] w69.drew fun (v78 : Value) (w79 : World) =>
                                                                                          ∃ (t80 : Bool),
                                                                                            v78 = Value.bool t80 ∧
                                                                                              Keeps w69.drew w79 [] ∧
                                                                                                ∃ (i81 : Int),
                                                                                                  w79.cell? { block := w.heap.size, off := (0 : Nat) } = some (Value.int IntKind.i64 i81) ∧
                                                                                                    w79.frozen? { block := w.heap.size, off := (0 : Nat) } = false ∧
                                                                                                      ∃ (i82 : Int),
                                                                                                        w79.cell? { block := w.heap.size, off := (1 : Nat) } = some (Value.int IntKind.i64 i82) ∧
                                                                                                          w79.frozen? { block := w.heap.size, off := (1 : Nat) } = false ∧
                                                                                                            (Known w79 [(w.heap.size, [((0 : Nat), Value.int IntKind.i64 i81), ((1 : Nat), Value.int IntKind.i64 i82)])] →
                                                                                                              R (Ending.returned (Value.bool t80)) w79)
                                                                                    else
                                                                                      Known w69.drew [(w.heap.size, [((0 : Nat), Value.int IntKind.i64 i23), ((1 : Nat), Value.int IntKind.i64 i24)])] →
                                                                                        R (Ending.returned (Value.bool false)) w69.drew
                                                                                  else
                                                                                    bif i15 == (258 : Int) then
                                                                                      bif decide (i15 > (0 : Int)) == decide (i16 > (0 : Int)) then
                                                                                        Known w69.drew [(w.heap.size, [((0 : Nat), Value.int IntKind.i64 i23), ((1 : Nat), Value.int IntKind.i64 i24)])] →
                                                                                          Rets Try.prog (22 : Nat) #[] w69.drew fun (v83 : Value) (w84 : World) =>
                                                                                            ∃ (t85 : Bool),
                                                                                              v83 = Value.bool t85 ∧
                                                                                                Keeps w69.drew w84 [] ∧
                                                                                                  ∃ (i86 : Int),
                                                                                                    w84.cell? { block := w.heap.size, off := (0 : Nat) } = some (Value.int IntKind.i64 i86) ∧
                                                                                                      w84.frozen? { block := w.heap.size, off := (0 : Nat) } = false ∧
                                                                                                        ∃ (i87 : Int),
                                                                                                          w84.cell? { block := w.heap.size, off := (1 : Nat) } = some (Value.int IntKind.i64 i87) ∧
                                                                                                            w84.frozen? { block := w.heap.size, off := (1 : Nat) } = false ∧
                                                                                                              (Known w84 [(w.heap.size, [((0 : Nat), Value.int IntKind.i64 i86), ((1 : Nat), Value.int IntKind.i64 i87)])] →
                                                                                                                R (Ending.returned (Value.bool t85)) w84)
                                                                                      else
                                                                                        Known w69.drew [(w.heap.size, [((0 : Nat), Value.int IntKind.i64 i23), ((1 : Nat), Value.int IntKind.i64 i24)])] →
                                                                                          R (Ending.returned (Value.bool false)) w69.drew
                                                                                    else
                                                                                      Wr IntKind.i64 (at_ + i15) fun (i88 : Int) =>
                                                                                        bif i88 == (↑n : Int) then
                                                                                          bif decide (i15 > (0 : Int)) == decide (i16 > (0 : Int)) then
                                                                                            Known w69.drew [(w.heap.size, [((0 : Nat), Value.int IntKind.i64 i23), ((1 : Nat), Value.int IntKind.i64 i24)])] →
                                                                                              Rets Try.prog (22 : Nat) #[] w69.drew fun (v89 : Value) (w90 : World) =>
                                                                                                ∃ (t91 : Bool),
                                                                                                  v89 = Value.bool t91 ∧
                                                                                                    Keeps w69.drew w90 [] ∧
                                                                                                      ∃ (i92 : Int),
                                                                                                        w90.cell? { block := w.heap.size, off := (0 : Nat) } = some (Value.int IntKind.i64 i92) ∧
                                                                                                          w90.frozen? { block := w.heap.size, off := (0 : Nat) } = false ∧
                                                                                                            ∃ (i93 : Int),
                                                                                                              w90.cell? { block := w.heap.size, off := (1 : Nat) } = some (Value.int IntKind.i64 i93) ∧
                                                                                                                w90.frozen? { block := w.heap.size, off := (1 : Nat) } = false ∧
                                                                                                                  (Known w90
                                                                                                                      [(w.heap.size, [((0 : Nat), Value.int IntKind.i64 i92), ((1 : Nat), Value.int IntKind.i64 i93)])] →
                                                                                                                    R (Ending.returned (Value.bool t91)) w90)
                                                                                          else
                                                                                            Known w69.drew [(w.heap.size, [((0 : Nat), Value.int IntKind.i64 i23), ((1 : Nat), Value.int IntKind.i64 i24)])] →
                                                                                              R (Ending.returned (Value.bool false)) w69.drew
                                                                                        else
                                                                                          Wr IntKind.i64 (at_ + i15) fun (i94 : Int) =>
                                                                                            ((0 : Int) ≤ i94 ∧ i94 < (↑n : Int)) ∧
                                                                                              SX.Ptr q fun (a95 : Addr) =>
                                                                                                ∃ (i96 : Int),
                                                                                                  w69.drew.cell? (a95.add (i94.toNat * (1 : Nat))) = some (Value.int IntKind.u8 i96) ∧
                                                                                                    Wr IntKind.i64 (at_ + i15) fun (i97 : Int) =>
                                                                                                      Wr IntKind.i64 (i97 - i16) fun (i98 : Int) =>
                                                                                                        ((0 : Int) ≤ i98 ∧ i98 < (↑n : Int)) ∧
                                                                                                          SX.Ptr q fun (a99 : Addr) =>
                                                                                                            ∃ (i100 : Int),
                                                                                                              w69.drew.cell? (a99.add (i98.toNat * (1 : Nat))) = some (Value.int IntKind.u8 i100) ∧
                                                                                                                bif i96 != i100 then
                                                                                                                  bif decide (i15 > (0 : Int)) == decide (i16 > (0 : Int)) then
                                                                                                                    Known w69.drew
                                                                                                                        [(w.heap.size, [((0 : Nat), Value.int IntKind.i64 i23), ((1 : Nat), Value.int IntKind.i64 i24)])] →
                                                                                                                      Rets Try.prog (22 : Nat) #[] w69.drew fun (v101 : Value) (w102 : World) =>
                                                                                                                        ∃ (t103 : Bool),
                                                                                                                          v101 = Value.bool t103 ∧
                                                                                                                            Keeps w69.drew w102 [] ∧
                                                                                                                              ∃ (i104 : Int),
                                                                                                                                w102.cell? { block := w.heap.size, off := (0 : Nat) } = some (Value.int IntKind.i64 i104) ∧
                                                                                                                                  w102.frozen? { block := w.heap.size, off := (0 : Nat) } = false ∧
                                                                                                                                    ∃ (i105 : Int),
                                                                                                                                      w102.cell? { block := w.heap.size, off := (1 : Nat) } =
                                                                                                                                          some (Value.int IntKind.i64 i105) ∧
                                                                                                                                        w102.frozen? { block := w.heap.size, off := (1 : Nat) } = false ∧
                                                                                                                                          (Known w102
                                                                                                                                              [(w.heap.size,
                                                                                                                                                  [((0 : Nat), Value.int IntKind.i64 i104),
                                                                                                                                                    ((1 : Nat), Value.int IntKind.i64 i105)])] →
                                                                                                                                            R (Ending.returned (Value.bool t103)) w102)
                                                                                                                  else
                                                                                                                    Known w69.drew
                                                                                                                        [(w.heap.size, [((0 : Nat), Value.int IntKind.i64 i23), ((1 : Nat), Value.int IntKind.i64 i24)])] →
                                                                                                                      R (Ending.returned (Value.bool false)) w69.drew
                                                                                                                else
                                                                                                                  Known w69.drew
                                                                                                                      [(w.heap.size, [((0 : Nat), Value.int IntKind.i64 i23), ((1 : Nat), Value.int IntKind.i64 i24)])] →
                                                                                                                    R (Ending.returned (Value.bool false)) w69.drew))
theorem vcTry6 (q : Option Addr) (n c : Nat) (at_ x y : Int) (w : World) (R : Ending → World → Prop) : SX.vcFn Try.prog [(8, ⟨[(11, .int .i64)], [8, 1, 0, 7], []⟩)] Try.f6 [.v (.slice q n c), .v (.int .i64 at_), .v (.agg #[.int .i64 x, .int .i64 y])] [] w R = VCTry6 q n c at_ x y w R := by kernel_rfl
end Go.Proofs.Ytodgnegbaigdbaa
