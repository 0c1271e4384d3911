/- The conditions of functions, as the executor computes them: each is equal to what 'vcFn' says. -/
import Derived.Test.YtodgnegbaigdbaaSxLib
import Derived.Test.YtodgnegbaigdbaaProg
namespace Go.Proofs.Ytodgnegbaigdbaa
open Go Go.SX Go.Proofs
set_option maxRecDepth 100000
set_option linter.unusedVariables false
def VCTry10 (p0 : Option Addr) (n0 c0 : Nat) (p1 : Int) (p2 : Int) (w : World) (R : Ending → World → Prop) : Prop :=
bif decide ((↑n0 : Int) > (2000 : Int)) then
 Known (w.alloc (Obj.cells #[Value.int IntKind.i64 p2] (3 : Nat))) [(w.heap.size, [((0 : Nat), Value.int IntKind.i64 p2)])] →
  Rets Try.prog (29 : Nat) #[] (w.alloc (Obj.cells #[Value.int IntKind.i64 p2] (3 : Nat))) fun (v0 : Value) (w1 : World) =>
   ∃ (t2 : Bool),
    v0 = Value.bool t2 ∧
     Keeps (w.alloc (Obj.cells #[Value.int IntKind.i64 p2] (3 : Nat))) w1 [w.heap.size] ∧ (Known w1 [(w.heap.size, [((0 : Nat), Value.int IntKind.i64 p2)])] → R (Ending.returned (Value.bool t2)) w1)
else
 Known (w.alloc (Obj.cells #[Value.int IntKind.i64 p2] (3 : Nat))) [(w.heap.size, [((0 : Nat), Value.int IntKind.i64 p2)])] →
  Rets Try.prog (31 : Nat) #[Value.slice p0 n0 c0, Value.int IntKind.i64 p1] (w.alloc (Obj.cells #[Value.int IntKind.i64 p2] (3 : Nat))) fun (v3 : Value) (w4 : World) =>
   ∃ (q5 : Option Addr),
    ∃ (n6 : Nat),
     ∃ (n7 : Nat),
      v3 = Value.slice q5 n6 n7 ∧
       Keeps (w.alloc (Obj.cells #[Value.int IntKind.i64 p2] (3 : Nat))) w4 [w.heap.size] ∧
        (Known ((w4.alloc (Obj.cells #[Value.slice none (0 : Nat) (0 : Nat)] (42 : Nat))).setCell { block := w4.heap.size, off := (0 : Nat) } (Value.slice q5 n6 n7))
          [(w.heap.size, [((0 : Nat), Value.int IntKind.i64 p2)]), (w4.heap.size, [((0 : Nat), Value.slice q5 n6 n7)])] →
         Rets Try.prog (35 : Nat) #[Value.slice p0 n0 c0, Value.int IntKind.i64 p1]
          ((w4.alloc (Obj.cells #[Value.slice none (0 : Nat) (0 : Nat)] (42 : Nat))).setCell { block := w4.heap.size, off := (0 : Nat) } (Value.slice q5 n6 n7)) fun (v8 : Value) (w9 : World) =>
          ∃ (v10 : Value),
           v8 = v10 ∧
            Keeps ((w4.alloc (Obj.cells #[Value.slice none (0 : Nat) (0 : Nat)] (42 : Nat))).setCell { block := w4.heap.size, off := (0 : Nat) } (Value.slice q5 n6 n7)) w9 [w.heap.size, w4.heap.size] ∧
             FnVal v10 fun (t11 : Bool) =>
              bif t11 then Known w9 [(w.heap.size, [((0 : Nat), Value.int IntKind.i64 p2)]), (w4.heap.size, [((0 : Nat), Value.slice q5 n6 n7)])] → R (Ending.returned (Value.bool false)) w9
              else
               Known
                 ((((w9.alloc (Obj.cells #[Value.int IntKind.i64 (0 : Int)] (3 : Nat))).setCell { block := w9.heap.size, off := (0 : Nat) } (Value.int IntKind.i64 (0 : Int))).alloc
                    (Obj.cells #[Value.bool false] (4 : Nat))).setCell
                  {block := ((w9.alloc (Obj.cells #[Value.int IntKind.i64 (0 : Int)] (3 : Nat))).setCell { block := w9.heap.size, off := (0 : Nat) } (Value.int IntKind.i64 (0 : Int))).heap.size,
                   off := (0 : Nat) }
                  (Value.bool true))
                 [(w.heap.size, [((0 : Nat), Value.int IntKind.i64 p2)]), (w4.heap.size, [((0 : Nat), Value.slice q5 n6 n7)]), (w9.heap.size, [((0 : Nat), Value.int IntKind.i64 (0 : Int))]),
                  (((w9.alloc (Obj.cells #[Value.int IntKind.i64 (0 : Int)] (3 : Nat))).setCell { block := w9.heap.size, off := (0 : Nat) } (Value.int IntKind.i64 (0 : Int))).heap.size,
                   [((0 : Nat), Value.bool true)])] →
                CallsVal Try.prog v10
                 #[Value.func (Fn.func (36 : Nat)) #[]
                   #[Value.pointer
                     (some
                      {
                       block :=
                        ((w9.alloc (Obj.cells #[Value.int IntKind.i64 (0 : Int)] (3 : Nat))).setCell { block := w9.heap.size, off := (0 : Nat) } (Value.int IntKind.i64 (0 : Int))).heap.size,
                       off := (0 : Nat) }),
                    Value.pointer (some { block := w9.heap.size, off := (0 : Nat) }), Value.pointer (some { block := w4.heap.size, off := (0 : Nat) }),
                    Value.pointer (some { block := w.heap.size, off := (0 : Nat) })]]
                 ((((w9.alloc (Obj.cells #[Value.int IntKind.i64 (0 : Int)] (3 : Nat))).setCell { block := w9.heap.size, off := (0 : Nat) } (Value.int IntKind.i64 (0 : Int))).alloc
                    (Obj.cells #[Value.bool false] (4 : Nat))).setCell
                  {block := ((w9.alloc (Obj.cells #[Value.int IntKind.i64 (0 : Int)] (3 : Nat))).setCell { block := w9.heap.size, off := (0 : Nat) } (Value.int IntKind.i64 (0 : Int))).heap.size,
                   off := (0 : Nat) }
                  (Value.bool true))
                 fun (v12 : Value) (w13 : World) =>
                 v12 = Value.tuple #[] ∧
                  Keeps
                    ((((w9.alloc (Obj.cells #[Value.int IntKind.i64 (0 : Int)] (3 : Nat))).setCell { block := w9.heap.size, off := (0 : Nat) } (Value.int IntKind.i64 (0 : Int))).alloc
                       (Obj.cells #[Value.bool false] (4 : Nat))).setCell
                     {block := ((w9.alloc (Obj.cells #[Value.int IntKind.i64 (0 : Int)] (3 : Nat))).setCell { block := w9.heap.size, off := (0 : Nat) } (Value.int IntKind.i64 (0 : Int))).heap.size,
                      off := (0 : Nat) }
                     (Value.bool true))
                    w13 [] ∧
                   ∃ (i14 : Int),
                    w13.cell? { block := w.heap.size, off := (0 : Nat) } = some (Value.int IntKind.i64 i14) ∧
                     w13.frozen? { block := w.heap.size, off := (0 : Nat) } = false ∧
                      ∃ (q15 : Option Addr),
                       ∃ (n16 : Nat),
                        ∃ (n17 : Nat),
                         w13.cell? { block := w4.heap.size, off := (0 : Nat) } = some (Value.slice q15 n16 n17) ∧
                          w13.frozen? { block := w4.heap.size, off := (0 : Nat) } = false ∧
                           ∃ (i18 : Int),
                            w13.cell? { block := w9.heap.size, off := (0 : Nat) } = some (Value.int IntKind.i64 i18) ∧
                             w13.frozen? { block := w9.heap.size, off := (0 : Nat) } = false ∧
                              ∃ (t19 : Bool),
                               w13.cell?
                                  {
                                   block :=
                                    ((w9.alloc (Obj.cells #[Value.int IntKind.i64 (0 : Int)] (3 : Nat))).setCell { block := w9.heap.size, off := (0 : Nat) }
                                       (Value.int IntKind.i64 (0 : Int))).heap.size,
                                   off := (0 : Nat) } =
                                 some (Value.bool t19) ∧
                                w13.frozen?
                                   {
                                    block :=
                                     ((w9.alloc (Obj.cells #[Value.int IntKind.i64 (0 : Int)] (3 : Nat))).setCell { block := w9.heap.size, off := (0 : Nat) }
                                        (Value.int IntKind.i64 (0 : Int))).heap.size,
                                    off := (0 : Nat) } =
                                  false ∧
                                 bif decide (i14 > (0 : Int)) then
                                  bif decide (i14 < (↑n16 : Int)) then
                                   bif t19 then
                                    bif i18 == i14 then
                                     Known w13
                                       [(w.heap.size, [((0 : Nat), Value.int IntKind.i64 i14)]), (w4.heap.size, [((0 : Nat), Value.slice q15 n16 n17)]),
                                        (w9.heap.size, [((0 : Nat), Value.int IntKind.i64 i18)]),
                                        (((w9.alloc (Obj.cells #[Value.int IntKind.i64 (0 : Int)] (3 : Nat))).setCell { block := w9.heap.size, off := (0 : Nat) }
                                            (Value.int IntKind.i64 (0 : Int))).heap.size,
                                         [((0 : Nat), Value.bool t19)])] →
                                      Rets Try.prog (29 : Nat) #[] w13 fun (v20 : Value) (w21 : World) =>
                                       ∃ (t22 : Bool),
                                        v20 = Value.bool t22 ∧
                                         Keeps w13 w21 [] ∧
                                          ∃ (i23 : Int),
                                           w21.cell? { block := w.heap.size, off := (0 : Nat) } = some (Value.int IntKind.i64 i23) ∧
                                            w21.frozen? { block := w.heap.size, off := (0 : Nat) } = false ∧
                                             ∃ (q24 : Option Addr),
                                              ∃ (n25 : Nat),
                                               ∃ (n26 : Nat),
                                                w21.cell? { block := w4.heap.size, off := (0 : Nat) } = some (Value.slice q24 n25 n26) ∧
                                                 w21.frozen? { block := w4.heap.size, off := (0 : Nat) } = false ∧
                                                  ∃ (i27 : Int),
                                                   w21.cell? { block := w9.heap.size, off := (0 : Nat) } = some (Value.int IntKind.i64 i27) ∧
                                                    w21.frozen? { block := w9.heap.size, off := (0 : Nat) } = false ∧
                                                     ∃ (t28 : Bool),
                                                      w21.cell?
                                                         {
                                                          block :=
                                                           ((w9.alloc (Obj.cells #[Value.int IntKind.i64 (0 : Int)] (3 : Nat))).setCell
                                                              {block := w9.heap.size, off := (0 : Nat) } (Value.int IntKind.i64 (0 : Int))).heap.size,
                                                          off := (0 : Nat) } =
                                                        some (Value.bool t28) ∧
                                                       w21.frozen?
                                                          {
                                                           block :=
                                                            ((w9.alloc (Obj.cells #[Value.int IntKind.i64 (0 : Int)] (3 : Nat))).setCell
                                                               {block := w9.heap.size, off := (0 : Nat) } (Value.int IntKind.i64 (0 : Int))).heap.size,
                                                           off := (0 : Nat) } =
                                                         false ∧
                                                        (Known w21
                                                          [(w.heap.size, [((0 : Nat), Value.int IntKind.i64 i23)]),
                                                           (w4.heap.size, [((0 : Nat), Value.slice q24 n25 n26)]),
                                                           (w9.heap.size, [((0 : Nat), Value.int IntKind.i64 i27)]),
                                                           (((w9.alloc (Obj.cells #[Value.int IntKind.i64 (0 : Int)] (3 : Nat))).setCell
                                                               {block := w9.heap.size, off := (0 : Nat) } (Value.int IntKind.i64 (0 : Int))).heap.size,
                                                            [((0 : Nat), Value.bool t28)])] →
                                                         R (Ending.returned (Value.bool t22)) w21)
                                    else
                                     Known w13
                                       [(w.heap.size, [((0 : Nat), Value.int IntKind.i64 i14)]), (w4.heap.size, [((0 : Nat), Value.slice q15 n16 n17)]),
                                        (w9.heap.size, [((0 : Nat), Value.int IntKind.i64 i18)]),
                                        (((w9.alloc (Obj.cells #[Value.int IntKind.i64 (0 : Int)] (3 : Nat))).setCell { block := w9.heap.size, off := (0 : Nat) }
                                            (Value.int IntKind.i64 (0 : Int))).heap.size,
                                         [((0 : Nat), Value.bool t19)])] →
                                      R (Ending.returned (Value.bool false)) w13
                                   else
                                    Known w13
                                      [(w.heap.size, [((0 : Nat), Value.int IntKind.i64 i14)]), (w4.heap.size, [((0 : Nat), Value.slice q15 n16 n17)]),
                                       (w9.heap.size, [((0 : Nat), Value.int IntKind.i64 i18)]),
                                       (((w9.alloc (Obj.cells #[Value.int IntKind.i64 (0 : Int)] (3 : Nat))).setCell { block := w9.heap.size, off := (0 : Nat) }
                                           (Value.int IntKind.i64 (0 : Int))).heap.size,
                                        [((0 : Nat), Value.bool t19)])] →
                                     R (Ending.returned (Value.bool false)) w13
                                  else
                                   bif t19 then
                                    bif i18 == (↑n16 : Int) then
                                     Known w13
                                       [(w.heap.size, [((0 : Nat), Value.int IntKind.i64 i14)]), (w4.heap.size, [((0 : Nat), Value.slice q15 n16 n17)]),
                                        (w9.heap.size, [((0 : Nat), Value.int IntKind.i64 i18)]),
                                        (((w9.alloc (Obj.cells #[Value.int IntKind.i64 (0 : Int)] (3 : Nat))).setCell { block := w9.heap.size, off := (0 : Nat) }
                                            (Value.int IntKind.i64 (0 : Int))).heap.size,
                                         [((0 : Nat), Value.bool t19)])] →
                                      Rets Try.prog (29 : Nat) #[] w13 fun (v29 : Value) (w30 : World) =>
                                       ∃ (t31 : Bool),
                                        v29 = Value.bool t31 ∧
                                         Keeps w13 w30 [] ∧
                                          ∃ (i32 : Int),
                                           w30.cell? { block := w.heap.size, off := (0 : Nat) } = some (Value.int IntKind.i64 i32) ∧
                                            w30.frozen? { block := w.heap.size, off := (0 : Nat) } = false ∧
                                             ∃ (q33 : Option Addr),
                                              ∃ (n34 : Nat),
                                               ∃ (n35 : Nat),
                                                w30.cell? { block := w4.heap.size, off := (0 : Nat) } = some (Value.slice q33 n34 n35) ∧
                                                 w30.frozen? { block := w4.heap.size, off := (0 : Nat) } = false ∧
                                                  ∃ (i36 : Int),
                                                   w30.cell? { block := w9.heap.size, off := (0 : Nat) } = some (Value.int IntKind.i64 i36) ∧
                                                    w30.frozen? { block := w9.heap.size, off := (0 : Nat) } = false ∧
                                                     ∃ (t37 : Bool),
                                                      w30.cell?
                                                         {
                                                          block :=
                                                           ((w9.alloc (Obj.cells #[Value.int IntKind.i64 (0 : Int)] (3 : Nat))).setCell
                                                              {block := w9.heap.size, off := (0 : Nat) } (Value.int IntKind.i64 (0 : Int))).heap.size,
                                                          off := (0 : Nat) } =
                                                        some (Value.bool t37) ∧
                                                       w30.frozen?
                                                          {
                                                           block :=
                                                            ((w9.alloc (Obj.cells #[Value.int IntKind.i64 (0 : Int)] (3 : Nat))).setCell
                                                               {block := w9.heap.size, off := (0 : Nat) } (Value.int IntKind.i64 (0 : Int))).heap.size,
                                                           off := (0 : Nat) } =
                                                         false ∧
                                                        (Known w30
                                                          [(w.heap.size, [((0 : Nat), Value.int IntKind.i64 i32)]),
                                                           (w4.heap.size, [((0 : Nat), Value.slice q33 n34 n35)]),
                                                           (w9.heap.size, [((0 : Nat), Value.int IntKind.i64 i36)]),
                                                           (((w9.alloc (Obj.cells #[Value.int IntKind.i64 (0 : Int)] (3 : Nat))).setCell
                                                               {block := w9.heap.size, off := (0 : Nat) } (Value.int IntKind.i64 (0 : Int))).heap.size,
                                                            [((0 : Nat), Value.bool t37)])] →
                                                         R (Ending.returned (Value.bool t31)) w30)
                                    else
                                     Known w13
                                       [(w.heap.size, [((0 : Nat), Value.int IntKind.i64 i14)]), (w4.heap.size, [((0 : Nat), Value.slice q15 n16 n17)]),
                                        (w9.heap.size, [((0 : Nat), Value.int IntKind.i64 i18)]),
                                        (((w9.alloc (Obj.cells #[Value.int IntKind.i64 (0 : Int)] (3 : Nat))).setCell { block := w9.heap.size, off := (0 : Nat) }
                                            (Value.int IntKind.i64 (0 : Int))).heap.size,
                                         [((0 : Nat), Value.bool t19)])] →
                                      R (Ending.returned (Value.bool false)) w13
                                   else
                                    Known w13
                                      [(w.heap.size, [((0 : Nat), Value.int IntKind.i64 i14)]), (w4.heap.size, [((0 : Nat), Value.slice q15 n16 n17)]),
                                       (w9.heap.size, [((0 : Nat), Value.int IntKind.i64 i18)]),
                                       (((w9.alloc (Obj.cells #[Value.int IntKind.i64 (0 : Int)] (3 : Nat))).setCell { block := w9.heap.size, off := (0 : Nat) }
                                           (Value.int IntKind.i64 (0 : Int))).heap.size,
                                        [((0 : Nat), Value.bool t19)])] →
                                     R (Ending.returned (Value.bool false)) w13
                                 else
                                  bif t19 then
                                   bif i18 == (↑n16 : Int) then
                                    Known w13
                                      [(w.heap.size, [((0 : Nat), Value.int IntKind.i64 i14)]), (w4.heap.size, [((0 : Nat), Value.slice q15 n16 n17)]),
                                       (w9.heap.size, [((0 : Nat), Value.int IntKind.i64 i18)]),
                                       (((w9.alloc (Obj.cells #[Value.int IntKind.i64 (0 : Int)] (3 : Nat))).setCell { block := w9.heap.size, off := (0 : Nat) }
                                           (Value.int IntKind.i64 (0 : Int))).heap.size,
                                        [((0 : Nat), Value.bool t19)])] →
                                     Rets Try.prog (29 : Nat) #[] w13 fun (v38 : Value) (w39 : World) =>
                                      ∃ (t40 : Bool),
                                       v38 = Value.bool t40 ∧
                                        Keeps w13 w39 [] ∧
                                         ∃ (i41 : Int),
                                          w39.cell? { block := w.heap.size, off := (0 : Nat) } = some (Value.int IntKind.i64 i41) ∧
                                           w39.frozen? { block := w.heap.size, off := (0 : Nat) } = false ∧
                                            ∃ (q42 : Option Addr),
                                             ∃ (n43 : Nat),
                                              ∃ (n44 : Nat),
                                               w39.cell? { block := w4.heap.size, off := (0 : Nat) } = some (Value.slice q42 n43 n44) ∧
                                                w39.frozen? { block := w4.heap.size, off := (0 : Nat) } = false ∧
                                                 ∃ (i45 : Int),
                                                  w39.cell? { block := w9.heap.size, off := (0 : Nat) } = some (Value.int IntKind.i64 i45) ∧
                                                   w39.frozen? { block := w9.heap.size, off := (0 : Nat) } = false ∧
                                                    ∃ (t46 : Bool),
                                                     w39.cell?
                                                        {
                                                         block :=
                                                          ((w9.alloc (Obj.cells #[Value.int IntKind.i64 (0 : Int)] (3 : Nat))).setCell
                                                             {block := w9.heap.size, off := (0 : Nat) } (Value.int IntKind.i64 (0 : Int))).heap.size,
                                                         off := (0 : Nat) } =
                                                       some (Value.bool t46) ∧
                                                      w39.frozen?
                                                         {
                                                          block :=
                                                           ((w9.alloc (Obj.cells #[Value.int IntKind.i64 (0 : Int)] (3 : Nat))).setCell
                                                              {block := w9.heap.size, off := (0 : Nat) } (Value.int IntKind.i64 (0 : Int))).heap.size,
                                                          off := (0 : Nat) } =
                                                        false ∧
                                                       (Known w39
                                                         [(w.heap.size, [((0 : Nat), Value.int IntKind.i64 i41)]),
                                                          (w4.heap.size, [((0 : Nat), Value.slice q42 n43 n44)]),
                                                          (w9.heap.size, [((0 : Nat), Value.int IntKind.i64 i45)]),
                                                          (((w9.alloc (Obj.cells #[Value.int IntKind.i64 (0 : Int)] (3 : Nat))).setCell
                                                              {block := w9.heap.size, off := (0 : Nat) } (Value.int IntKind.i64 (0 : Int))).heap.size,
                                                           [((0 : Nat), Value.bool t46)])] →
                                                        R (Ending.returned (Value.bool t40)) w39)
                                   else
                                    Known w13
                                      [(w.heap.size, [((0 : Nat), Value.int IntKind.i64 i14)]), (w4.heap.size, [((0 : Nat), Value.slice q15 n16 n17)]),
                                       (w9.heap.size, [((0 : Nat), Value.int IntKind.i64 i18)]),
                                       (((w9.alloc (Obj.cells #[Value.int IntKind.i64 (0 : Int)] (3 : Nat))).setCell { block := w9.heap.size, off := (0 : Nat) }
                                           (Value.int IntKind.i64 (0 : Int))).heap.size,
                                        [((0 : Nat), Value.bool t19)])] →
                                     R (Ending.returned (Value.bool false)) w13
                                  else
                                   Known w13
                                     [(w.heap.size, [((0 : Nat), Value.int IntKind.i64 i14)]), (w4.heap.size, [((0 : Nat), Value.slice q15 n16 n17)]),
                                      (w9.heap.size, [((0 : Nat), Value.int IntKind.i64 i18)]),
                                      (((w9.alloc (Obj.cells #[Value.int IntKind.i64 (0 : Int)] (3 : Nat))).setCell { block := w9.heap.size, off := (0 : Nat) }
                                          (Value.int IntKind.i64 (0 : Int))).heap.size,
                                       [((0 : Nat), Value.bool t19)])] →
                                    R (Ending.returned (Value.bool false)) w13)
theorem vcTry10 (p0 : Option Addr) (n0 c0 : Nat) (p1 : Int) (p2 : Int) (w : World) (R : Ending → World → Prop) : SX.vcFn Try.prog [] Try.f10 [.v (.slice p0 n0 c0), .v (.int .i64 p1), .v (.int .i64 p2)] [] w R = VCTry10 p0 n0 c0 p1 p2 w R := by kernel_rfl
def VCTry36 (x y z : Int) (a1 a2 a3 a4 : Addr) (w : World) (R : Ending → World → Prop) : Prop :=
∃ (t0 : Bool),
 (w.alloc (Obj.cells #[Value.int IntKind.u8 x, Value.int IntKind.i64 y, Value.int IntKind.i64 z] (49 : Nat))).drew.cell? a1 = some (Value.bool t0) ∧
  bif t0 then
   ∃ (i1 : Int),
    (w.alloc (Obj.cells #[Value.int IntKind.u8 x, Value.int IntKind.i64 y, Value.int IntKind.i64 z] (49 : Nat))).drew.cell? a2 = some (Value.int IntKind.i64 i1) ∧
     ∃ (q2 : Option Addr),
      ∃ (n3 : Nat),
       ∃ (n4 : Nat),
        (w.alloc (Obj.cells #[Value.int IntKind.u8 x, Value.int IntKind.i64 y, Value.int IntKind.i64 z] (49 : Nat))).drew.cell? a3 = some (Value.slice q2 n3 n4) ∧
         bif decide (i1 < (↑n3 : Int)) then
          ∃ (q5 : Option Addr),
           ∃ (n6 : Nat),
            ∃ (n7 : Nat),
             (w.alloc (Obj.cells #[Value.int IntKind.u8 x, Value.int IntKind.i64 y, Value.int IntKind.i64 z] (49 : Nat))).drew.cell? a3 = some (Value.slice q5 n6 n7) ∧
              ∃ (i8 : Int),
               (w.alloc (Obj.cells #[Value.int IntKind.u8 x, Value.int IntKind.i64 y, Value.int IntKind.i64 z] (49 : Nat))).drew.cell? a2 = some (Value.int IntKind.i64 i8) ∧
                ((0 : Int) ≤ i8 ∧ i8 < (↑n6 : Int)) ∧
                 SX.Ptr q5 fun (a9 : Addr) =>
                  ∃ (i10 : Int),
                   ∃ (i11 : Int),
                    ∃ (i12 : Int),
                     ((w.alloc (Obj.cells #[Value.int IntKind.u8 x, Value.int IntKind.i64 y, Value.int IntKind.i64 z] (49 : Nat))).drew.cell? ((a9.add (i8.toNat * (3 : Nat))).add (0 : Nat)) =
                        some (Value.int IntKind.u8 i10) ∧
                       (w.alloc (Obj.cells #[Value.int IntKind.u8 x, Value.int IntKind.i64 y, Value.int IntKind.i64 z] (49 : Nat))).drew.cell? ((a9.add (i8.toNat * (3 : Nat))).add (1 : Nat)) =
                         some (Value.int IntKind.i64 i11) ∧
                        (w.alloc (Obj.cells #[Value.int IntKind.u8 x, Value.int IntKind.i64 y, Value.int IntKind.i64 z] (49 : Nat))).drew.cell? ((a9.add (i8.toNat * (3 : Nat))).add (2 : Nat)) =
                          some (Value.int IntKind.i64 i12) ∧
                         True) ∧
                      true = true ∧
                       (∃ (v13 : Value), (w.alloc (Obj.cells #[Value.int IntKind.u8 x, Value.int IntKind.i64 y, Value.int IntKind.i64 z] (49 : Nat))).drew.cell? (a1.add (0 : Nat)) = some v13) ∧
                        (w.alloc (Obj.cells #[Value.int IntKind.u8 x, Value.int IntKind.i64 y, Value.int IntKind.i64 z] (49 : Nat))).drew.frozen? (a1.add (0 : Nat)) = false ∧
                         Apart (a1.add (0 : Nat)) w.heap.size [(0 : Nat), (1 : Nat), (2 : Nat)] ∧
                          ∃ (i14 : Int),
                           ((w.alloc (Obj.cells #[Value.int IntKind.u8 x, Value.int IntKind.i64 y, Value.int IntKind.i64 z] (49 : Nat))).drew.setCell (a1.add (0 : Nat))
                                (Value.bool (i10 == x && (i11 == y && i12 == z)))).cell?
                              a2 =
                             some (Value.int IntKind.i64 i14) ∧
                            Wr IntKind.i64 (i14 + (1 : Int)) fun (i15 : Int) =>
                             (∃ (v16 : Value),
                               ((w.alloc (Obj.cells #[Value.int IntKind.u8 x, Value.int IntKind.i64 y, Value.int IntKind.i64 z] (49 : Nat))).drew.setCell (a1.add (0 : Nat))
                                   (Value.bool (i10 == x && (i11 == y && i12 == z)))).cell?
                                 (a2.add (0 : Nat)) =
                                some v16) ∧
                              ((w.alloc (Obj.cells #[Value.int IntKind.u8 x, Value.int IntKind.i64 y, Value.int IntKind.i64 z] (49 : Nat))).drew.setCell (a1.add (0 : Nat))
                                   (Value.bool (i10 == x && (i11 == y && i12 == z)))).frozen?
                                 (a2.add (0 : Nat)) =
                                false ∧
                               Apart (a2.add (0 : Nat)) w.heap.size [(0 : Nat), (1 : Nat), (2 : Nat)] ∧
                                ∃ (i17 : Int),
                                 (((w.alloc (Obj.cells #[Value.int IntKind.u8 x, Value.int IntKind.i64 y, Value.int IntKind.i64 z] (49 : Nat))).drew.setCell (a1.add (0 : Nat))
                                        (Value.bool (i10 == x && (i11 == y && i12 == z)))).setCell
                                      (a2.add (0 : Nat)) (Value.int IntKind.i64 i15)).cell?
                                    a2 =
                                   some (Value.int IntKind.i64 i17) ∧
                                  ∃ (i18 : Int),
                                   (((w.alloc (Obj.cells #[Value.int IntKind.u8 x, Value.int IntKind.i64 y, Value.int IntKind.i64 z] (49 : Nat))).drew.setCell (a1.add (0 : Nat))
                                          (Value.bool (i10 == x && (i11 == y && i12 == z)))).setCell
                                        (a2.add (0 : Nat)) (Value.int IntKind.i64 i15)).cell?
                                      a4 =
                                     some (Value.int IntKind.i64 i18) ∧
                                    (Known
                                      (((w.alloc (Obj.cells #[Value.int IntKind.u8 x, Value.int IntKind.i64 y, Value.int IntKind.i64 z] (49 : Nat))).drew.setCell (a1.add (0 : Nat))
                                         (Value.bool (i10 == x && (i11 == y && i12 == z)))).setCell
                                       (a2.add (0 : Nat)) (Value.int IntKind.i64 i15))
                                      [(w.heap.size, [((0 : Nat), Value.int IntKind.u8 x), ((1 : Nat), Value.int IntKind.i64 y), ((2 : Nat), Value.int IntKind.i64 z)])] →
                                     R (Ending.returned (Value.bool (i17 != i18)))
                                      (((w.alloc (Obj.cells #[Value.int IntKind.u8 x, Value.int IntKind.i64 y, Value.int IntKind.i64 z] (49 : Nat))).drew.setCell (a1.add (0 : Nat))
                                         (Value.bool (i10 == x && (i11 == y && i12 == z)))).setCell
                                       (a2.add (0 : Nat)) (Value.int IntKind.i64 i15)))
         else
          (∃ (v19 : Value), (w.alloc (Obj.cells #[Value.int IntKind.u8 x, Value.int IntKind.i64 y, Value.int IntKind.i64 z] (49 : Nat))).drew.cell? (a1.add (0 : Nat)) = some v19) ∧
           (w.alloc (Obj.cells #[Value.int IntKind.u8 x, Value.int IntKind.i64 y, Value.int IntKind.i64 z] (49 : Nat))).drew.frozen? (a1.add (0 : Nat)) = false ∧
            Apart (a1.add (0 : Nat)) w.heap.size [(0 : Nat), (1 : Nat), (2 : Nat)] ∧
             ∃ (i20 : Int),
              ((w.alloc (Obj.cells #[Value.int IntKind.u8 x, Value.int IntKind.i64 y, Value.int IntKind.i64 z] (49 : Nat))).drew.setCell (a1.add (0 : Nat)) (Value.bool false)).cell? a2 =
                some (Value.int IntKind.i64 i20) ∧
               Wr IntKind.i64 (i20 + (1 : Int)) fun (i21 : Int) =>
                (∃ (v22 : Value),
                  ((w.alloc (Obj.cells #[Value.int IntKind.u8 x, Value.int IntKind.i64 y, Value.int IntKind.i64 z] (49 : Nat))).drew.setCell (a1.add (0 : Nat)) (Value.bool false)).cell?
                    (a2.add (0 : Nat)) =
                   some v22) ∧
                 ((w.alloc (Obj.cells #[Value.int IntKind.u8 x, Value.int IntKind.i64 y, Value.int IntKind.i64 z] (49 : Nat))).drew.setCell (a1.add (0 : Nat)) (Value.bool false)).frozen?
                    (a2.add (0 : Nat)) =
                   false ∧
                  Apart (a2.add (0 : Nat)) w.heap.size [(0 : Nat), (1 : Nat), (2 : Nat)] ∧
                   ∃ (i23 : Int),
                    (((w.alloc (Obj.cells #[Value.int IntKind.u8 x, Value.int IntKind.i64 y, Value.int IntKind.i64 z] (49 : Nat))).drew.setCell (a1.add (0 : Nat)) (Value.bool false)).setCell
                         (a2.add (0 : Nat)) (Value.int IntKind.i64 i21)).cell?
                       a2 =
                      some (Value.int IntKind.i64 i23) ∧
                     ∃ (i24 : Int),
                      (((w.alloc (Obj.cells #[Value.int IntKind.u8 x, Value.int IntKind.i64 y, Value.int IntKind.i64 z] (49 : Nat))).drew.setCell (a1.add (0 : Nat)) (Value.bool false)).setCell
                           (a2.add (0 : Nat)) (Value.int IntKind.i64 i21)).cell?
                         a4 =
                        some (Value.int IntKind.i64 i24) ∧
                       (Known
                         (((w.alloc (Obj.cells #[Value.int IntKind.u8 x, Value.int IntKind.i64 y, Value.int IntKind.i64 z] (49 : Nat))).drew.setCell (a1.add (0 : Nat)) (Value.bool false)).setCell
                          (a2.add (0 : Nat)) (Value.int IntKind.i64 i21))
                         [(w.heap.size, [((0 : Nat), Value.int IntKind.u8 x), ((1 : Nat), Value.int IntKind.i64 y), ((2 : Nat), Value.int IntKind.i64 z)])] →
                        R (Ending.returned (Value.bool (i23 != i24)))
                         (((w.alloc (Obj.cells #[Value.int IntKind.u8 x, Value.int IntKind.i64 y, Value.int IntKind.i64 z] (49 : Nat))).drew.setCell (a1.add (0 : Nat)) (Value.bool false)).setCell
                          (a2.add (0 : Nat)) (Value.int IntKind.i64 i21)))
  else
   (∃ (v25 : Value), (w.alloc (Obj.cells #[Value.int IntKind.u8 x, Value.int IntKind.i64 y, Value.int IntKind.i64 z] (49 : Nat))).drew.cell? (a1.add (0 : Nat)) = some v25) ∧
    (w.alloc (Obj.cells #[Value.int IntKind.u8 x, Value.int IntKind.i64 y, Value.int IntKind.i64 z] (49 : Nat))).drew.frozen? (a1.add (0 : Nat)) = false ∧
     Apart (a1.add (0 : Nat)) w.heap.size [(0 : Nat), (1 : Nat), (2 : Nat)] ∧
      ∃ (i26 : Int),
       ((w.alloc (Obj.cells #[Value.int IntKind.u8 x, Value.int IntKind.i64 y, Value.int IntKind.i64 z] (49 : Nat))).drew.setCell (a1.add (0 : Nat)) (Value.bool false)).cell? a2 =
         some (Value.int IntKind.i64 i26) ∧
        Wr IntKind.i64 (i26 + (1 : Int)) fun (i27 : Int) =>
         (∃ (v28 : Value),
           ((w.alloc (Obj.cells #[Value.int IntKind.u8 x, Value.int IntKind.i64 y, Value.int IntKind.i64 z] (49 : Nat))).drew.setCell (a1.add (0 : Nat)) (Value.bool false)).cell? (a2.add (0 : Nat)) =
            some v28) ∧
          ((w.alloc (Obj.cells #[Value.int IntKind.u8 x, Value.int IntKind.i64 y, Value.int IntKind.i64 z] (49 : Nat))).drew.setCell (a1.add (0 : Nat)) (Value.bool false)).frozen? (a2.add (0 : Nat)) = false ∧
           Apart (a2.add (0 : Nat)) w.heap.size [(0 : Nat), (1 : Nat), (2 : Nat)] ∧
            ∃ (i29 : Int),
             (((w.alloc (Obj.cells #[Value.int IntKind.u8 x, Value.int IntKind.i64 y, Value.int IntKind.i64 z] (49 : Nat))).drew.setCell (a1.add (0 : Nat)) (Value.bool false)).setCell (a2.add (0 : Nat))
                  (Value.int IntKind.i64 i27)).cell?
                a2 =
               some (Value.int IntKind.i64 i29) ∧
              ∃ (i30 : Int),
               (((w.alloc (Obj.cells #[Value.int IntKind.u8 x, Value.int IntKind.i64 y, Value.int IntKind.i64 z] (49 : Nat))).drew.setCell (a1.add (0 : Nat)) (Value.bool false)).setCell (a2.add (0 : Nat))
                    (Value.int IntKind.i64 i27)).cell?
                  a4 =
                 some (Value.int IntKind.i64 i30) ∧
                (Known
                  (((w.alloc (Obj.cells #[Value.int IntKind.u8 x, Value.int IntKind.i64 y, Value.int IntKind.i64 z] (49 : Nat))).drew.setCell (a1.add (0 : Nat)) (Value.bool false)).setCell
                   (a2.add (0 : Nat)) (Value.int IntKind.i64 i27))
                  [(w.heap.size, [((0 : Nat), Value.int IntKind.u8 x), ((1 : Nat), Value.int IntKind.i64 y), ((2 : Nat), Value.int IntKind.i64 z)])] →
                 R (Ending.returned (Value.bool (i29 != i30)))
                  (((w.alloc (Obj.cells #[Value.int IntKind.u8 x, Value.int IntKind.i64 y, Value.int IntKind.i64 z] (49 : Nat))).drew.setCell (a1.add (0 : Nat)) (Value.bool false)).setCell
                   (a2.add (0 : Nat)) (Value.int IntKind.i64 i27)))
theorem vcTry36 (x y z : Int) (a1 a2 a3 a4 : Addr) (w : World) (R : Ending → World → Prop) : SX.vcFn Try.prog [] Try.f36 [.v (.agg #[.int .u8 x, .int .i64 y, .int .i64 z]), .v (.pointer (some a1)), .v (.pointer (some a2)), .v (.pointer (some a3)), .v (.pointer (some a4))] [] w R = VCTry36 x y z a1 a2 a3 a4 w R := by kernel_rfl
def VCTry41 (x y z : Int) (a1 a2 a3 a4 : Addr) (w : World) (R : Ending → World → Prop) : Prop :=
∃ (t0 : Bool),
 (w.alloc (Obj.cells #[Value.int IntKind.u8 x, Value.int IntKind.i64 y, Value.int IntKind.i64 z] (49 : Nat))).drew.cell? a1 = some (Value.bool t0) ∧
  bif t0 then
   ∃ (i1 : Int),
    (w.alloc (Obj.cells #[Value.int IntKind.u8 x, Value.int IntKind.i64 y, Value.int IntKind.i64 z] (49 : Nat))).drew.cell? a2 = some (Value.int IntKind.i64 i1) ∧
     ∃ (q2 : Option Addr),
      ∃ (n3 : Nat),
       ∃ (n4 : Nat),
        (w.alloc (Obj.cells #[Value.int IntKind.u8 x, Value.int IntKind.i64 y, Value.int IntKind.i64 z] (49 : Nat))).drew.cell? a3 = some (Value.slice q2 n3 n4) ∧
         bif decide (i1 < (↑n3 : Int)) then
          ∃ (q5 : Option Addr),
           ∃ (n6 : Nat),
            ∃ (n7 : Nat),
             (w.alloc (Obj.cells #[Value.int IntKind.u8 x, Value.int IntKind.i64 y, Value.int IntKind.i64 z] (49 : Nat))).drew.cell? a3 = some (Value.slice q5 n6 n7) ∧
              ∃ (i8 : Int),
               (w.alloc (Obj.cells #[Value.int IntKind.u8 x, Value.int IntKind.i64 y, Value.int IntKind.i64 z] (49 : Nat))).drew.cell? a2 = some (Value.int IntKind.i64 i8) ∧
                ((0 : Int) ≤ i8 ∧ i8 < (↑n6 : Int)) ∧
                 SX.Ptr q5 fun (a9 : Addr) =>
                  ∃ (i10 : Int),
                   ∃ (i11 : Int),
                    ∃ (i12 : Int),
                     ((w.alloc (Obj.cells #[Value.int IntKind.u8 x, Value.int IntKind.i64 y, Value.int IntKind.i64 z] (49 : Nat))).drew.cell? ((a9.add (i8.toNat * (3 : Nat))).add (0 : Nat)) =
                        some (Value.int IntKind.u8 i10) ∧
                       (w.alloc (Obj.cells #[Value.int IntKind.u8 x, Value.int IntKind.i64 y, Value.int IntKind.i64 z] (49 : Nat))).drew.cell? ((a9.add (i8.toNat * (3 : Nat))).add (1 : Nat)) =
                         some (Value.int IntKind.i64 i11) ∧
                        (w.alloc (Obj.cells #[Value.int IntKind.u8 x, Value.int IntKind.i64 y, Value.int IntKind.i64 z] (49 : Nat))).drew.cell? ((a9.add (i8.toNat * (3 : Nat))).add (2 : Nat)) =
                          some (Value.int IntKind.i64 i12) ∧
                         True) ∧
                      true = true ∧
                       (∃ (v13 : Value), (w.alloc (Obj.cells #[Value.int IntKind.u8 x, Value.int IntKind.i64 y, Value.int IntKind.i64 z] (49 : Nat))).drew.cell? (a1.add (0 : Nat)) = some v13) ∧
                        (w.alloc (Obj.cells #[Value.int IntKind.u8 x, Value.int IntKind.i64 y, Value.int IntKind.i64 z] (49 : Nat))).drew.frozen? (a1.add (0 : Nat)) = false ∧
                         Apart (a1.add (0 : Nat)) w.heap.size [(0 : Nat), (1 : Nat), (2 : Nat)] ∧
                          ∃ (i14 : Int),
                           ((w.alloc (Obj.cells #[Value.int IntKind.u8 x, Value.int IntKind.i64 y, Value.int IntKind.i64 z] (49 : Nat))).drew.setCell (a1.add (0 : Nat))
                                (Value.bool (i10 == x && (i11 == y && i12 == z)))).cell?
                              a2 =
                             some (Value.int IntKind.i64 i14) ∧
                            Wr IntKind.i64 (i14 + (1 : Int)) fun (i15 : Int) =>
                             (∃ (v16 : Value),
                               ((w.alloc (Obj.cells #[Value.int IntKind.u8 x, Value.int IntKind.i64 y, Value.int IntKind.i64 z] (49 : Nat))).drew.setCell (a1.add (0 : Nat))
                                   (Value.bool (i10 == x && (i11 == y && i12 == z)))).cell?
                                 (a2.add (0 : Nat)) =
                                some v16) ∧
                              ((w.alloc (Obj.cells #[Value.int IntKind.u8 x, Value.int IntKind.i64 y, Value.int IntKind.i64 z] (49 : Nat))).drew.setCell (a1.add (0 : Nat))
                                   (Value.bool (i10 == x && (i11 == y && i12 == z)))).frozen?
                                 (a2.add (0 : Nat)) =
                                false ∧
                               Apart (a2.add (0 : Nat)) w.heap.size [(0 : Nat), (1 : Nat), (2 : Nat)] ∧
                                ∃ (i17 : Int),
                                 (((w.alloc (Obj.cells #[Value.int IntKind.u8 x, Value.int IntKind.i64 y, Value.int IntKind.i64 z] (49 : Nat))).drew.setCell (a1.add (0 : Nat))
                                        (Value.bool (i10 == x && (i11 == y && i12 == z)))).setCell
                                      (a2.add (0 : Nat)) (Value.int IntKind.i64 i15)).cell?
                                    a2 =
                                   some (Value.int IntKind.i64 i17) ∧
                                  ∃ (i18 : Int),
                                   (((w.alloc (Obj.cells #[Value.int IntKind.u8 x, Value.int IntKind.i64 y, Value.int IntKind.i64 z] (49 : Nat))).drew.setCell (a1.add (0 : Nat))
                                          (Value.bool (i10 == x && (i11 == y && i12 == z)))).setCell
                                        (a2.add (0 : Nat)) (Value.int IntKind.i64 i15)).cell?
                                      a4 =
                                     some (Value.int IntKind.i64 i18) ∧
                                    (Known
                                      (((w.alloc (Obj.cells #[Value.int IntKind.u8 x, Value.int IntKind.i64 y, Value.int IntKind.i64 z] (49 : Nat))).drew.setCell (a1.add (0 : Nat))
                                         (Value.bool (i10 == x && (i11 == y && i12 == z)))).setCell
                                       (a2.add (0 : Nat)) (Value.int IntKind.i64 i15))
                                      [(w.heap.size, [((0 : Nat), Value.int IntKind.u8 x), ((1 : Nat), Value.int IntKind.i64 y), ((2 : Nat), Value.int IntKind.i64 z)])] →
                                     R (Ending.returned (Value.bool (i17 != i18)))
                                      (((w.alloc (Obj.cells #[Value.int IntKind.u8 x, Value.int IntKind.i64 y, Value.int IntKind.i64 z] (49 : Nat))).drew.setCell (a1.add (0 : Nat))
                                         (Value.bool (i10 == x && (i11 == y && i12 == z)))).setCell
                                       (a2.add (0 : Nat)) (Value.int IntKind.i64 i15)))
         else
          (∃ (v19 : Value), (w.alloc (Obj.cells #[Value.int IntKind.u8 x, Value.int IntKind.i64 y, Value.int IntKind.i64 z] (49 : Nat))).drew.cell? (a1.add (0 : Nat)) = some v19) ∧
           (w.alloc (Obj.cells #[Value.int IntKind.u8 x, Value.int IntKind.i64 y, Value.int IntKind.i64 z] (49 : Nat))).drew.frozen? (a1.add (0 : Nat)) = false ∧
            Apart (a1.add (0 : Nat)) w.heap.size [(0 : Nat), (1 : Nat), (2 : Nat)] ∧
             ∃ (i20 : Int),
              ((w.alloc (Obj.cells #[Value.int IntKind.u8 x, Value.int IntKind.i64 y, Value.int IntKind.i64 z] (49 : Nat))).drew.setCell (a1.add (0 : Nat)) (Value.bool false)).cell? a2 =
                some (Value.int IntKind.i64 i20) ∧
               Wr IntKind.i64 (i20 + (1 : Int)) fun (i21 : Int) =>
                (∃ (v22 : Value),
                  ((w.alloc (Obj.cells #[Value.int IntKind.u8 x, Value.int IntKind.i64 y, Value.int IntKind.i64 z] (49 : Nat))).drew.setCell (a1.add (0 : Nat)) (Value.bool false)).cell?
                    (a2.add (0 : Nat)) =
                   some v22) ∧
                 ((w.alloc (Obj.cells #[Value.int IntKind.u8 x, Value.int IntKind.i64 y, Value.int IntKind.i64 z] (49 : Nat))).drew.setCell (a1.add (0 : Nat)) (Value.bool false)).frozen?
                    (a2.add (0 : Nat)) =
                   false ∧
                  Apart (a2.add (0 : Nat)) w.heap.size [(0 : Nat), (1 : Nat), (2 : Nat)] ∧
                   ∃ (i23 : Int),
                    (((w.alloc (Obj.cells #[Value.int IntKind.u8 x, Value.int IntKind.i64 y, Value.int IntKind.i64 z] (49 : Nat))).drew.setCell (a1.add (0 : Nat)) (Value.bool false)).setCell
                         (a2.add (0 : Nat)) (Value.int IntKind.i64 i21)).cell?
                       a2 =
                      some (Value.int IntKind.i64 i23) ∧
                     ∃ (i24 : Int),
                      (((w.alloc (Obj.cells #[Value.int IntKind.u8 x, Value.int IntKind.i64 y, Value.int IntKind.i64 z] (49 : Nat))).drew.setCell (a1.add (0 : Nat)) (Value.bool false)).setCell
                           (a2.add (0 : Nat)) (Value.int IntKind.i64 i21)).cell?
                         a4 =
                        some (Value.int IntKind.i64 i24) ∧
                       (Known
                         (((w.alloc (Obj.cells #[Value.int IntKind.u8 x, Value.int IntKind.i64 y, Value.int IntKind.i64 z] (49 : Nat))).drew.setCell (a1.add (0 : Nat)) (Value.bool false)).setCell
                          (a2.add (0 : Nat)) (Value.int IntKind.i64 i21))
                         [(w.heap.size, [((0 : Nat), Value.int IntKind.u8 x), ((1 : Nat), Value.int IntKind.i64 y), ((2 : Nat), Value.int IntKind.i64 z)])] →
                        R (Ending.returned (Value.bool (i23 != i24)))
                         (((w.alloc (Obj.cells #[Value.int IntKind.u8 x, Value.int IntKind.i64 y, Value.int IntKind.i64 z] (49 : Nat))).drew.setCell (a1.add (0 : Nat)) (Value.bool false)).setCell
                          (a2.add (0 : Nat)) (Value.int IntKind.i64 i21)))
  else
   (∃ (v25 : Value), (w.alloc (Obj.cells #[Value.int IntKind.u8 x, Value.int IntKind.i64 y, Value.int IntKind.i64 z] (49 : Nat))).drew.cell? (a1.add (0 : Nat)) = some v25) ∧
    (w.alloc (Obj.cells #[Value.int IntKind.u8 x, Value.int IntKind.i64 y, Value.int IntKind.i64 z] (49 : Nat))).drew.frozen? (a1.add (0 : Nat)) = false ∧
     Apart (a1.add (0 : Nat)) w.heap.size [(0 : Nat), (1 : Nat), (2 : Nat)] ∧
      ∃ (i26 : Int),
       ((w.alloc (Obj.cells #[Value.int IntKind.u8 x, Value.int IntKind.i64 y, Value.int IntKind.i64 z] (49 : Nat))).drew.setCell (a1.add (0 : Nat)) (Value.bool false)).cell? a2 =
         some (Value.int IntKind.i64 i26) ∧
        Wr IntKind.i64 (i26 + (1 : Int)) fun (i27 : Int) =>
         (∃ (v28 : Value),
           ((w.alloc (Obj.cells #[Value.int IntKind.u8 x, Value.int IntKind.i64 y, Value.int IntKind.i64 z] (49 : Nat))).drew.setCell (a1.add (0 : Nat)) (Value.bool false)).cell? (a2.add (0 : Nat)) =
            some v28) ∧
          ((w.alloc (Obj.cells #[Value.int IntKind.u8 x, Value.int IntKind.i64 y, Value.int IntKind.i64 z] (49 : Nat))).drew.setCell (a1.add (0 : Nat)) (Value.bool false)).frozen? (a2.add (0 : Nat)) = false ∧
           Apart (a2.add (0 : Nat)) w.heap.size [(0 : Nat), (1 : Nat), (2 : Nat)] ∧
            ∃ (i29 : Int),
             (((w.alloc (Obj.cells #[Value.int IntKind.u8 x, Value.int IntKind.i64 y, Value.int IntKind.i64 z] (49 : Nat))).drew.setCell (a1.add (0 : Nat)) (Value.bool false)).setCell (a2.add (0 : Nat))
                  (Value.int IntKind.i64 i27)).cell?
                a2 =
               some (Value.int IntKind.i64 i29) ∧
              ∃ (i30 : Int),
               (((w.alloc (Obj.cells #[Value.int IntKind.u8 x, Value.int IntKind.i64 y, Value.int IntKind.i64 z] (49 : Nat))).drew.setCell (a1.add (0 : Nat)) (Value.bool false)).setCell (a2.add (0 : Nat))
                    (Value.int IntKind.i64 i27)).cell?
                  a4 =
                 some (Value.int IntKind.i64 i30) ∧
                (Known
                  (((w.alloc (Obj.cells #[Value.int IntKind.u8 x, Value.int IntKind.i64 y, Value.int IntKind.i64 z] (49 : Nat))).drew.setCell (a1.add (0 : Nat)) (Value.bool false)).setCell
                   (a2.add (0 : Nat)) (Value.int IntKind.i64 i27))
                  [(w.heap.size, [((0 : Nat), Value.int IntKind.u8 x), ((1 : Nat), Value.int IntKind.i64 y), ((2 : Nat), Value.int IntKind.i64 z)])] →
                 R (Ending.returned (Value.bool (i29 != i30)))
                  (((w.alloc (Obj.cells #[Value.int IntKind.u8 x, Value.int IntKind.i64 y, Value.int IntKind.i64 z] (49 : Nat))).drew.setCell (a1.add (0 : Nat)) (Value.bool false)).setCell
                   (a2.add (0 : Nat)) (Value.int IntKind.i64 i27)))
theorem vcTry41 (x y z : Int) (a1 a2 a3 a4 : Addr) (w : World) (R : Ending → World → Prop) : SX.vcFn Try.prog [] Try.f41 [.v (.agg #[.int .u8 x, .int .i64 y, .int .i64 z]), .v (.pointer (some a1)), .v (.pointer (some a2)), .v (.pointer (some a3)), .v (.pointer (some a4))] [] w R = VCTry41 x y z a1 a2 a3 a4 w R := by kernel_rfl
def VCTry39 (p0 : Option Addr) (p1 : Int) (w : World) (R : Ending → World → Prop) : Prop :=
Known (w.alloc (Obj.cells #[Value.slice none (0 : Nat) (0 : Nat)] (42 : Nat))) [(w.heap.size, [((0 : Nat), Value.slice none (0 : Nat) (0 : Nat))])] →
 Rets Try.prog (40 : Nat) #[Value.pointer p0, Value.int IntKind.i64 p1] (w.alloc (Obj.cells #[Value.slice none (0 : Nat) (0 : Nat)] (42 : Nat))) fun (v0 : Value) (w1 : World) =>
  ∃ (v2 : Value),
   v0 = v2 ∧
    Keeps (w.alloc (Obj.cells #[Value.slice none (0 : Nat) (0 : Nat)] (42 : Nat))) w1 [w.heap.size] ∧
     (Known w1 [(w.heap.size, [((0 : Nat), Value.slice none (0 : Nat) (0 : Nat))])] →
      ∀ (I3 : LoopState → Option Code → Obj),
       (∀ (x4 : LoopState) (q5 : Option Code), (I3 x4 q5).isCells = false) →
        (∀ (i6 i7 i8 : Int) (q9 : Option Addr) (n10 n11 : Nat) (w12 : World) (I13 : Value → World → Prop),
          w12.heap[w1.heap.size + (1 : Nat)]? = some (I3 LoopState.ready none) →
           Known w12 [(w.heap.size, [((0 : Nat), Value.slice q9 n10 n11)])] →
            (((((w12.alloc (Obj.cells #[Value.int IntKind.u8 (0 : Int), Value.int IntKind.i64 (0 : Int), Value.int IntKind.i64 (0 : Int)] (49 : Nat))).setCell { block := w12.heap.size, off := (0 : Nat) }
                      (Value.int IntKind.u8 i6)).setCell
                    {block := w12.heap.size, off := (1 : Nat) } (Value.int IntKind.i64 i7)).setCell
                  {block := w12.heap.size, off := (2 : Nat) } (Value.int IntKind.i64 i8)).heap[w1.heap.size + (1 : Nat)]? =
               some (I3 LoopState.ready none) ∧
              Runs Try.prog
               (Builtin.append_ #[(42 : Nat), (42 : Nat)] (42 : Nat)
                #[Value.slice q9 n10 n11,
                 Value.slice
                  (some
                   {
                    block :=
                     (((((w12.alloc (Obj.cells #[Value.int IntKind.u8 (0 : Int), Value.int IntKind.i64 (0 : Int), Value.int IntKind.i64 (0 : Int)] (49 : Nat))).setCell
                           {block := w12.heap.size, off := (0 : Nat) } (Value.int IntKind.u8 i6)).setCell
                          {block := w12.heap.size, off := (1 : Nat) } (Value.int IntKind.i64 i7)).setCell
                         {block := w12.heap.size, off := (2 : Nat) } (Value.int IntKind.i64 i8)).putObj
                        (w1.heap.size + (1 : Nat)) (I3 LoopState.busy none)).heap.size,
                    off := (0 : Nat) })
                  (1 : Nat) (1 : Nat)])
               ((((((w12.alloc (Obj.cells #[Value.int IntKind.u8 (0 : Int), Value.int IntKind.i64 (0 : Int), Value.int IntKind.i64 (0 : Int)] (49 : Nat))).setCell
                        {block := w12.heap.size, off := (0 : Nat) } (Value.int IntKind.u8 i6)).setCell
                      {block := w12.heap.size, off := (1 : Nat) } (Value.int IntKind.i64 i7)).setCell
                    {block := w12.heap.size, off := (2 : Nat) } (Value.int IntKind.i64 i8)).putObj
                  (w1.heap.size + (1 : Nat)) (I3 LoopState.busy none)).alloc
                (Obj.cells #[Value.int IntKind.u8 i6, Value.int IntKind.i64 i7, Value.int IntKind.i64 i8] (49 : Nat)))
               fun (v18 : Value) (w19 : World) =>
               ∃ (q20 : Option Addr),
                ∃ (n21 : Nat),
                 ∃ (n22 : Nat),
                  v18 = Value.slice q20 n21 n22 ∧
                   Keeps
                     ((((((w12.alloc (Obj.cells #[Value.int IntKind.u8 (0 : Int), Value.int IntKind.i64 (0 : Int), Value.int IntKind.i64 (0 : Int)] (49 : Nat))).setCell
                           {block := w12.heap.size, off := (0 : Nat) } (Value.int IntKind.u8 i6)).setCell
                          {block := w12.heap.size, off := (1 : Nat) } (Value.int IntKind.i64 i7)).setCell
                         {block := w12.heap.size, off := (2 : Nat) } (Value.int IntKind.i64 i8)).putObj
                        (w1.heap.size + (1 : Nat)) (I3 LoopState.busy none)).alloc
                      (Obj.cells #[Value.int IntKind.u8 i6, Value.int IntKind.i64 i7, Value.int IntKind.i64 i8] (49 : Nat)))
                     w19 [w.heap.size, w12.heap.size] ∧
                    (Known (w19.setCell { block := w.heap.size, off := (0 : Nat) } (Value.slice q20 n21 n22))
                      [(w.heap.size, [((0 : Nat), Value.slice q20 n21 n22)]),
                       (w12.heap.size, [((0 : Nat), Value.int IntKind.u8 i6), ((1 : Nat), Value.int IntKind.i64 i7), ((2 : Nat), Value.int IntKind.i64 i8)])] →
                     (w19.setCell { block := w.heap.size, off := (0 : Nat) } (Value.slice q20 n21 n22)).heap[w1.heap.size + (1 : Nat)]? = some (I3 LoopState.busy none) ∧
                      I13 (Value.bool true) ((w19.setCell { block := w.heap.size, off := (0 : Nat) } (Value.slice q20 n21 n22)).putObj (w1.heap.size + (1 : Nat)) (I3 LoopState.ready none)))) →
             CallsVal Try.prog (Value.func (Fn.yield (w1.heap.size + (1 : Nat))) #[] #[]) #[Value.agg #[Value.int IntKind.u8 i6, Value.int IntKind.i64 i7, Value.int IntKind.i64 i8]] w12 I13) →
         RangeVal Try.prog v2 (Value.func (Fn.yield (w1.heap.size + (1 : Nat))) #[] #[]) ((w1.alloc (Obj.deferred (some []))).alloc (I3 LoopState.ready none)) fun (w25 : World) =>
          ∃ (q26 : Option Addr),
           ∃ (n27 : Nat),
            ∃ (n28 : Nat),
             Known w25 [(w.heap.size, [((0 : Nat), Value.slice q26 n27 n28)])] ∧
              w25.heap[w1.heap.size + (1 : Nat)]? = some (I3 LoopState.ready none) ∧
               (Known (w25.putObj (w1.heap.size + (1 : Nat)) (I3 LoopState.exhausted none)) [(w.heap.size, [((0 : Nat), Value.slice q26 n27 n28)])] →
                (w25.putObj (w1.heap.size + (1 : Nat)) (I3 LoopState.exhausted none)).heap[w1.heap.size]? = some (Obj.deferred (some [])) ∧
                 R (Ending.returned (Value.slice q26 n27 n28)) ((w25.putObj (w1.heap.size + (1 : Nat)) (I3 LoopState.exhausted none)).putObj w1.heap.size (Obj.deferred none))))
theorem vcTry39 (p0 : Option Addr) (p1 : Int) (w : World) (R : Ending → World → Prop) : SX.vcFn Try.prog [(4, ⟨[(10, .agg [.u8, .i64, .i64])], [], [(0, 0, .slice)]⟩)] Try.f39 [.v (.pointer p0), .v (.int .i64 p1)] [] w R = VCTry39 p0 p1 w R := by kernel_rfl
def VCTry40 (p0 : Option Addr) (p1 : Int) (w : World) (R : Ending → World → Prop) : Prop :=
Known ((w.alloc (Obj.cells #[Value.pointer p0] (27 : Nat))).alloc (Obj.cells #[Value.int IntKind.i64 p1] (3 : Nat)))
  [(w.heap.size, [((0 : Nat), Value.pointer p0)]), ((w.alloc (Obj.cells #[Value.pointer p0] (27 : Nat))).heap.size, [((0 : Nat), Value.int IntKind.i64 p1)])] →
 R
  (Ending.returned
   (Value.func (Fn.func (56 : Nat)) #[]
    #[Value.pointer (some { block := w.heap.size, off := (0 : Nat) }), Value.pointer (some { block := (w.alloc (Obj.cells #[Value.pointer p0] (27 : Nat))).heap.size, off := (0 : Nat) })]))
  ((w.alloc (Obj.cells #[Value.pointer p0] (27 : Nat))).alloc (Obj.cells #[Value.int IntKind.i64 p1] (3 : Nat)))
theorem vcTry40 (p0 : Option Addr) (p1 : Int) (w : World) (R : Ending → World → Prop) : SX.vcFn Try.prog [] Try.f40 [.v (.pointer p0), .v (.int .i64 p1)] [] w R = VCTry40 p0 p1 w R := by kernel_rfl
def VCTry56 (y : Value) (a b : Addr) (w : World) (R : Ending → World → Prop) : Prop :=
∃ (q0 : Option Addr),
 w.cell? a = some (Value.pointer q0) ∧
  bif q0.isNone then R (Ending.returned (Value.tuple #[])) w
  else
   ∃ (I1 : Int → World → Prop),
    ∃ (I2 : Int → World → Nat),
     I1 (0 : Int) w ∧
      ∀ (i3 : Int) (w4 : World),
       I1 i3 w4 →
        ∃ (q5 : Option Addr),
         w4.cell? a = some (Value.pointer q5) ∧
          SX.Ptr q5 fun (a6 : Addr) =>
           ∃ (q7 : Option Addr),
            ∃ (n8 : Nat),
             ∃ (n9 : Nat),
              w4.cell? (a6.add (0 : Nat)) = some (Value.slice q7 n8 n9) ∧
               bif decide (i3 < (↑n8 : Int)) then
                ∃ (q10 : Option Addr),
                 w4.cell? a = some (Value.pointer q10) ∧
                  ∃ (i11 : Int),
                   w4.cell? b = some (Value.int IntKind.i64 i11) ∧
                    Rets Try.prog (57 : Nat) #[Value.pointer q10, Value.int IntKind.i64 i3, Value.int IntKind.i64 i11] w4 fun (v12 : Value) (w13 : World) =>
                     ∃ (i14 : Int),
                      ∃ (i15 : Int),
                       ∃ (i16 : Int),
                        v12 = Value.agg #[Value.int IntKind.u8 i14, Value.int IntKind.i64 i15, Value.int IntKind.i64 i16] ∧
                         Keeps w4 w13 [] ∧
                          (Known
                            ((((w13.alloc (Obj.cells #[Value.int IntKind.u8 (0 : Int), Value.int IntKind.i64 (0 : Int), Value.int IntKind.i64 (0 : Int)] (49 : Nat))).setCell
                                 {block := w13.heap.size, off := (0 : Nat) } (Value.int IntKind.u8 i14)).setCell
                               {block := w13.heap.size, off := (1 : Nat) } (Value.int IntKind.i64 i15)).setCell
                             {block := w13.heap.size, off := (2 : Nat) } (Value.int IntKind.i64 i16))
                            [(w13.heap.size, [((0 : Nat), Value.int IntKind.u8 i14), ((1 : Nat), Value.int IntKind.i64 i15), ((2 : Nat), Value.int IntKind.i64 i16)])] →
                           CallsVal Try.prog y #[Value.agg #[Value.int IntKind.u8 i14, Value.int IntKind.i64 i15, Value.int IntKind.i64 i16]]
                            ((((w13.alloc (Obj.cells #[Value.int IntKind.u8 (0 : Int), Value.int IntKind.i64 (0 : Int), Value.int IntKind.i64 (0 : Int)] (49 : Nat))).setCell
                                 {block := w13.heap.size, off := (0 : Nat) } (Value.int IntKind.u8 i14)).setCell
                               {block := w13.heap.size, off := (1 : Nat) } (Value.int IntKind.i64 i15)).setCell
                             {block := w13.heap.size, off := (2 : Nat) } (Value.int IntKind.i64 i16))
                            fun (v17 : Value) (w18 : World) =>
                            ∃ (t19 : Bool),
                             v17 = Value.bool t19 ∧
                              Keeps
                                ((((w13.alloc (Obj.cells #[Value.int IntKind.u8 (0 : Int), Value.int IntKind.i64 (0 : Int), Value.int IntKind.i64 (0 : Int)] (49 : Nat))).setCell
                                   {block := w13.heap.size, off := (0 : Nat) } (Value.int IntKind.u8 i14)).setCell
                                  {block := w13.heap.size, off := (1 : Nat) } (Value.int IntKind.i64 i15)).setCell
                                 {block := w13.heap.size, off := (2 : Nat) } (Value.int IntKind.i64 i16))
                                w18 [w13.heap.size] ∧
                               bif !t19 then
                                Known w18 [(w13.heap.size, [((0 : Nat), Value.int IntKind.u8 i14), ((1 : Nat), Value.int IntKind.i64 i15), ((2 : Nat), Value.int IntKind.i64 i16)])] →
                                 R (Ending.returned (Value.tuple #[])) w18
                               else Wr IntKind.i64 (i3 + maxI (1 : Int) i15) fun (i20 : Int) => I1 i20 w18 ∧ I2 i20 w18 < I2 i3 w4)
               else R (Ending.returned (Value.tuple #[])) w4
theorem vcTry56 (y : Value) (a b : Addr) (w : World) (R : Ending → World → Prop) : SX.vcFn Try.prog [(2, ⟨[(4, .int .i64)], [0, 2, 1], []⟩)] Try.f56 [.v y, .v (.pointer (some a)), .v (.pointer (some b))] [] w R = VCTry56 y a b w R := by kernel_rfl
def VCTry57 (p0 : Option Addr) (p1 : Int) (p2 : Int) (w : World) (R : Ending → World → Prop) : Prop :=
Known (w.alloc (Obj.cells #[Value.int IntKind.u8 (0 : Int), Value.int IntKind.i64 (0 : Int), Value.int IntKind.i64 (0 : Int)] (49 : Nat)))
  [(w.heap.size, [((0 : Nat), Value.int IntKind.u8 (0 : Int)), ((1 : Nat), Value.int IntKind.i64 (0 : Int)), ((2 : Nat), Value.int IntKind.i64 (0 : Int))])] →
 Rets Try.prog (33 : Nat) #[Value.int IntKind.i64 p2] (w.alloc (Obj.cells #[Value.int IntKind.u8 (0 : Int), Value.int IntKind.i64 (0 : Int), Value.int IntKind.i64 (0 : Int)] (49 : Nat))) fun (v0 : Value) (w1 : World) =>
  ∃ (i2 : Int),
   v0 = Value.int IntKind.i64 i2 ∧
    Keeps (w.alloc (Obj.cells #[Value.int IntKind.u8 (0 : Int), Value.int IntKind.i64 (0 : Int), Value.int IntKind.i64 (0 : Int)] (49 : Nat))) w1 [w.heap.size] ∧
     (Known w1 [(w.heap.size, [((0 : Nat), Value.int IntKind.u8 (0 : Int)), ((1 : Nat), Value.int IntKind.i64 (0 : Int)), ((2 : Nat), Value.int IntKind.i64 (0 : Int))])] →
      Rets Try.prog (20 : Nat) #[Value.pointer p0, Value.int IntKind.i64 p1, Value.int IntKind.i64 i2] w1 fun (v3 : Value) (w4 : World) =>
       ∃ (i5 : Int),
        ∃ (i6 : Int),
         v3 = Value.tuple #[Value.int IntKind.i64 i5, Value.int IntKind.i64 i6] ∧
          Keeps w1 w4 [w.heap.size] ∧
           bif decide (i5 > (0 : Int)) then
            bif decide (p2 ≥ (2 : Int)) then
             bif decide (i5 < (258 : Int)) then
              Wr IntKind.i64 (p1 + (1 : Int)) fun (i7 : Int) =>
               Known w4 [(w.heap.size, [((0 : Nat), Value.int IntKind.u8 (0 : Int)), ((1 : Nat), Value.int IntKind.i64 (0 : Int)), ((2 : Nat), Value.int IntKind.i64 (0 : Int))])] →
                Rets Try.prog (20 : Nat) #[Value.pointer p0, Value.int IntKind.i64 i7, Value.int IntKind.i64 i2] w4 fun (v8 : Value) (w9 : World) =>
                 ∃ (i10 : Int),
                  ∃ (i11 : Int),
                   v8 = Value.tuple #[Value.int IntKind.i64 i10, Value.int IntKind.i64 i11] ∧
                    Keeps w4 w9 [w.heap.size] ∧
                     bif decide (i10 > i5) then
                      SX.Ptr p0 fun (a12 : Addr) =>
                       ∃ (q13 : Option Addr),
                        ∃ (n14 : Nat),
                         ∃ (n15 : Nat),
                          w9.cell? (a12.add (0 : Nat)) = some (Value.slice q13 n14 n15) ∧
                           ((0 : Int) ≤ p1 ∧ p1 < (↑n14 : Int)) ∧
                            SX.Ptr q13 fun (a16 : Addr) =>
                             ∃ (i17 : Int),
                              w9.cell? (a16.add (p1.toNat * (1 : Nat))) = some (Value.int IntKind.u8 i17) ∧
                               (Known
                                 (((w9.setCell { block := w.heap.size, off := (0 : Nat) } (Value.int IntKind.u8 i17)).setCell { block := w.heap.size, off := (1 : Nat) }
                                    (Value.int IntKind.i64 (0 : Int))).setCell
                                  {block := w.heap.size, off := (2 : Nat) } (Value.int IntKind.i64 (0 : Int)))
                                 [(w.heap.size, [((0 : Nat), Value.int IntKind.u8 i17), ((1 : Nat), Value.int IntKind.i64 (0 : Int)), ((2 : Nat), Value.int IntKind.i64 (0 : Int))])] →
                                R (Ending.returned (Value.agg #[Value.int IntKind.u8 i17, Value.int IntKind.i64 (0 : Int), Value.int IntKind.i64 (0 : Int)]))
                                 (((w9.setCell { block := w.heap.size, off := (0 : Nat) } (Value.int IntKind.u8 i17)).setCell { block := w.heap.size, off := (1 : Nat) }
                                    (Value.int IntKind.i64 (0 : Int))).setCell
                                  {block := w.heap.size, off := (2 : Nat) } (Value.int IntKind.i64 (0 : Int))))
                     else
                      bif i5 == (0 : Int) then
                       SX.Ptr p0 fun (a18 : Addr) =>
                        ∃ (q19 : Option Addr),
                         ∃ (n20 : Nat),
                          ∃ (n21 : Nat),
                           w9.cell? (a18.add (0 : Nat)) = some (Value.slice q19 n20 n21) ∧
                            ((0 : Int) ≤ p1 ∧ p1 < (↑n20 : Int)) ∧
                             SX.Ptr q19 fun (a22 : Addr) =>
                              ∃ (i23 : Int),
                               w9.cell? (a22.add (p1.toNat * (1 : Nat))) = some (Value.int IntKind.u8 i23) ∧
                                (Known
                                  (((w9.setCell { block := w.heap.size, off := (0 : Nat) } (Value.int IntKind.u8 i23)).setCell { block := w.heap.size, off := (1 : Nat) }
                                     (Value.int IntKind.i64 (0 : Int))).setCell
                                   {block := w.heap.size, off := (2 : Nat) } (Value.int IntKind.i64 (0 : Int)))
                                  [(w.heap.size, [((0 : Nat), Value.int IntKind.u8 i23), ((1 : Nat), Value.int IntKind.i64 (0 : Int)), ((2 : Nat), Value.int IntKind.i64 (0 : Int))])] →
                                 R (Ending.returned (Value.agg #[Value.int IntKind.u8 i23, Value.int IntKind.i64 (0 : Int), Value.int IntKind.i64 (0 : Int)]))
                                  (((w9.setCell { block := w.heap.size, off := (0 : Nat) } (Value.int IntKind.u8 i23)).setCell { block := w.heap.size, off := (1 : Nat) }
                                     (Value.int IntKind.i64 (0 : Int))).setCell
                                   {block := w.heap.size, off := (2 : Nat) } (Value.int IntKind.i64 (0 : Int))))
                      else
                       Known
                         (((w9.setCell { block := w.heap.size, off := (0 : Nat) } (Value.int IntKind.u8 (0 : Int))).setCell { block := w.heap.size, off := (1 : Nat) }
                            (Value.int IntKind.i64 i5)).setCell
                          {block := w.heap.size, off := (2 : Nat) } (Value.int IntKind.i64 i6))
                         [(w.heap.size, [((0 : Nat), Value.int IntKind.u8 (0 : Int)), ((1 : Nat), Value.int IntKind.i64 i5), ((2 : Nat), Value.int IntKind.i64 i6)])] →
                        R (Ending.returned (Value.agg #[Value.int IntKind.u8 (0 : Int), Value.int IntKind.i64 i5, Value.int IntKind.i64 i6]))
                         (((w9.setCell { block := w.heap.size, off := (0 : Nat) } (Value.int IntKind.u8 (0 : Int))).setCell { block := w.heap.size, off := (1 : Nat) }
                            (Value.int IntKind.i64 i5)).setCell
                          {block := w.heap.size, off := (2 : Nat) } (Value.int IntKind.i64 i6))
             else
              bif i5 == (0 : Int) then
               SX.Ptr p0 fun (a24 : Addr) =>
                ∃ (q25 : Option Addr),
                 ∃ (n26 : Nat),
                  ∃ (n27 : Nat),
                   w4.cell? (a24.add (0 : Nat)) = some (Value.slice q25 n26 n27) ∧
                    ((0 : Int) ≤ p1 ∧ p1 < (↑n26 : Int)) ∧
                     SX.Ptr q25 fun (a28 : Addr) =>
                      ∃ (i29 : Int),
                       w4.cell? (a28.add (p1.toNat * (1 : Nat))) = some (Value.int IntKind.u8 i29) ∧
                        (Known
                          (((w4.setCell { block := w.heap.size, off := (0 : Nat) } (Value.int IntKind.u8 i29)).setCell { block := w.heap.size, off := (1 : Nat) }
                             (Value.int IntKind.i64 (0 : Int))).setCell
                           {block := w.heap.size, off := (2 : Nat) } (Value.int IntKind.i64 (0 : Int)))
                          [(w.heap.size, [((0 : Nat), Value.int IntKind.u8 i29), ((1 : Nat), Value.int IntKind.i64 (0 : Int)), ((2 : Nat), Value.int IntKind.i64 (0 : Int))])] →
                         R (Ending.returned (Value.agg #[Value.int IntKind.u8 i29, Value.int IntKind.i64 (0 : Int), Value.int IntKind.i64 (0 : Int)]))
                          (((w4.setCell { block := w.heap.size, off := (0 : Nat) } (Value.int IntKind.u8 i29)).setCell { block := w.heap.size, off := (1 : Nat) }
                             (Value.int IntKind.i64 (0 : Int))).setCell
                           {block := w.heap.size, off := (2 : Nat) } (Value.int IntKind.i64 (0 : Int))))
              else
               Known
                 (((w4.setCell { block := w.heap.size, off := (0 : Nat) } (Value.int IntKind.u8 (0 : Int))).setCell { block := w.heap.size, off := (1 : Nat) } (Value.int IntKind.i64 i5)).setCell
                  {block := w.heap.size, off := (2 : Nat) } (Value.int IntKind.i64 i6))
                 [(w.heap.size, [((0 : Nat), Value.int IntKind.u8 (0 : Int)), ((1 : Nat), Value.int IntKind.i64 i5), ((2 : Nat), Value.int IntKind.i64 i6)])] →
                R (Ending.returned (Value.agg #[Value.int IntKind.u8 (0 : Int), Value.int IntKind.i64 i5, Value.int IntKind.i64 i6]))
                 (((w4.setCell { block := w.heap.size, off := (0 : Nat) } (Value.int IntKind.u8 (0 : Int))).setCell { block := w.heap.size, off := (1 : Nat) } (Value.int IntKind.i64 i5)).setCell
                  {block := w.heap.size, off := (2 : Nat) } (Value.int IntKind.i64 i6))
            else
             bif i5 == (0 : Int) then
              SX.Ptr p0 fun (a30 : Addr) =>
               ∃ (q31 : Option Addr),
                ∃ (n32 : Nat),
                 ∃ (n33 : Nat),
                  w4.cell? (a30.add (0 : Nat)) = some (Value.slice q31 n32 n33) ∧
                   ((0 : Int) ≤ p1 ∧ p1 < (↑n32 : Int)) ∧
                    SX.Ptr q31 fun (a34 : Addr) =>
                     ∃ (i35 : Int),
                      w4.cell? (a34.add (p1.toNat * (1 : Nat))) = some (Value.int IntKind.u8 i35) ∧
                       (Known
                         (((w4.setCell { block := w.heap.size, off := (0 : Nat) } (Value.int IntKind.u8 i35)).setCell { block := w.heap.size, off := (1 : Nat) }
                            (Value.int IntKind.i64 (0 : Int))).setCell
                          {block := w.heap.size, off := (2 : Nat) } (Value.int IntKind.i64 (0 : Int)))
                         [(w.heap.size, [((0 : Nat), Value.int IntKind.u8 i35), ((1 : Nat), Value.int IntKind.i64 (0 : Int)), ((2 : Nat), Value.int IntKind.i64 (0 : Int))])] →
                        R (Ending.returned (Value.agg #[Value.int IntKind.u8 i35, Value.int IntKind.i64 (0 : Int), Value.int IntKind.i64 (0 : Int)]))
                         (((w4.setCell { block := w.heap.size, off := (0 : Nat) } (Value.int IntKind.u8 i35)).setCell { block := w.heap.size, off := (1 : Nat) }
                            (Value.int IntKind.i64 (0 : Int))).setCell
                          {block := w.heap.size, off := (2 : Nat) } (Value.int IntKind.i64 (0 : Int))))
             else
              Known
                (((w4.setCell { block := w.heap.size, off := (0 : Nat) } (Value.int IntKind.u8 (0 : Int))).setCell { block := w.heap.size, off := (1 : Nat) } (Value.int IntKind.i64 i5)).setCell
                 {block := w.heap.size, off := (2 : Nat) } (Value.int IntKind.i64 i6))
                [(w.heap.size, [((0 : Nat), Value.int IntKind.u8 (0 : Int)), ((1 : Nat), Value.int IntKind.i64 i5), ((2 : Nat), Value.int IntKind.i64 i6)])] →
               R (Ending.returned (Value.agg #[Value.int IntKind.u8 (0 : Int), Value.int IntKind.i64 i5, Value.int IntKind.i64 i6]))
                (((w4.setCell { block := w.heap.size, off := (0 : Nat) } (Value.int IntKind.u8 (0 : Int))).setCell { block := w.heap.size, off := (1 : Nat) } (Value.int IntKind.i64 i5)).setCell
                 {block := w.heap.size, off := (2 : Nat) } (Value.int IntKind.i64 i6))
           else
            bif i5 == (0 : Int) then
             SX.Ptr p0 fun (a36 : Addr) =>
              ∃ (q37 : Option Addr),
               ∃ (n38 : Nat),
                ∃ (n39 : Nat),
                 w4.cell? (a36.add (0 : Nat)) = some (Value.slice q37 n38 n39) ∧
                  ((0 : Int) ≤ p1 ∧ p1 < (↑n38 : Int)) ∧
                   SX.Ptr q37 fun (a40 : Addr) =>
                    ∃ (i41 : Int),
                     w4.cell? (a40.add (p1.toNat * (1 : Nat))) = some (Value.int IntKind.u8 i41) ∧
                      (Known
                        (((w4.setCell { block := w.heap.size, off := (0 : Nat) } (Value.int IntKind.u8 i41)).setCell { block := w.heap.size, off := (1 : Nat) }
                           (Value.int IntKind.i64 (0 : Int))).setCell
                         {block := w.heap.size, off := (2 : Nat) } (Value.int IntKind.i64 (0 : Int)))
                        [(w.heap.size, [((0 : Nat), Value.int IntKind.u8 i41), ((1 : Nat), Value.int IntKind.i64 (0 : Int)), ((2 : Nat), Value.int IntKind.i64 (0 : Int))])] →
                       R (Ending.returned (Value.agg #[Value.int IntKind.u8 i41, Value.int IntKind.i64 (0 : Int), Value.int IntKind.i64 (0 : Int)]))
                        (((w4.setCell { block := w.heap.size, off := (0 : Nat) } (Value.int IntKind.u8 i41)).setCell { block := w.heap.size, off := (1 : Nat) }
                           (Value.int IntKind.i64 (0 : Int))).setCell
                         {block := w.heap.size, off := (2 : Nat) } (Value.int IntKind.i64 (0 : Int))))
            else
             Known
               (((w4.setCell { block := w.heap.size, off := (0 : Nat) } (Value.int IntKind.u8 (0 : Int))).setCell { block := w.heap.size, off := (1 : Nat) } (Value.int IntKind.i64 i5)).setCell
                {block := w.heap.size, off := (2 : Nat) } (Value.int IntKind.i64 i6))
               [(w.heap.size, [((0 : Nat), Value.int IntKind.u8 (0 : Int)), ((1 : Nat), Value.int IntKind.i64 i5), ((2 : Nat), Value.int IntKind.i64 i6)])] →
              R (Ending.returned (Value.agg #[Value.int IntKind.u8 (0 : Int), Value.int IntKind.i64 i5, Value.int IntKind.i64 i6]))
               (((w4.setCell { block := w.heap.size, off := (0 : Nat) } (Value.int IntKind.u8 (0 : Int))).setCell { block := w.heap.size, off := (1 : Nat) } (Value.int IntKind.i64 i5)).setCell
                {block := w.heap.size, off := (2 : Nat) } (Value.int IntKind.i64 i6)))
theorem vcTry57 (p0 : Option Addr) (p1 : Int) (p2 : Int) (w : World) (R : Ending → World → Prop) : SX.vcFn Try.prog [] Try.f57 [.v (.pointer p0), .v (.int .i64 p1), .v (.int .i64 p2)] [] w R = VCTry57 p0 p1 p2 w R := by kernel_rfl
def VCTry11 (p0 : Option Addr) (n0 c0 : Nat) (p1 : Option Addr) (n1 c1 : Nat) (w : World) (R : Ending → World → Prop) : Prop :=
bif decide ((↑n0 : Int) > (500 : Int)) then Rets Try.prog (18 : Nat) #[] w fun (v0 : Value) (w1 : World) => ∃ (t2 : Bool), v0 = Value.bool t2 ∧ Keeps w w1 [] ∧ R (Ending.returned (Value.bool t2)) w1
else
 bif decide ((↑n1 : Int) > (50 : Int)) then Rets Try.prog (18 : Nat) #[] w fun (v3 : Value) (w4 : World) => ∃ (t5 : Bool), v3 = Value.bool t5 ∧ Keeps w w4 [] ∧ R (Ending.returned (Value.bool t5)) w4
 else
  Rets Try.prog (19 : Nat) #[Value.slice p0 n0 c0] w fun (v6 : Value) (w7 : World) =>
   ∃ (q8 : Option Addr),
    v6 = Value.pointer q8 ∧
     Keeps w w7 [] ∧
      ∃ (I9 : Int → World → Prop),
       ∃ (I10 : Int → World → Nat),
        I9 (0 : Int) w7 ∧
         ∀ (i11 : Int) (w12 : World),
          I9 i11 w12 →
           bif decide (i11 < (↑n1 : Int)) then
            ((0 : Int) ≤ i11 ∧ i11 < (↑n1 : Int)) ∧
             SX.Ptr p1 fun (a13 : Addr) =>
              ∃ (i14 : Int),
               w12.cell? (a13.add (i11.toNat * (1 : Nat))) = some (Value.int IntKind.i64 i14) ∧
                Rets Try.prog (37 : Nat) #[Value.pointer q8, Value.int IntKind.i64 i14] w12 fun (v15 : Value) (w16 : World) =>
                 ∃ (i17 : Int),
                  ∃ (t18 : Bool),
                   v15 = Value.tuple #[Value.int IntKind.i64 i17, Value.bool t18] ∧
                    Keeps w12 w16 [] ∧
                     ((0 : Int) ≤ i11 ∧ i11 < (↑n1 : Int)) ∧
                      SX.Ptr p1 fun (a19 : Addr) =>
                       ∃ (i20 : Int),
                        w16.cell? (a19.add (i11.toNat * (1 : Nat))) = some (Value.int IntKind.i64 i20) ∧
                         Rets Try.prog (38 : Nat) #[Value.slice p0 n0 c0, Value.int IntKind.i64 i20] w16 fun (v21 : Value) (w22 : World) =>
                          ∃ (i23 : Int),
                           v21 = Value.int IntKind.i64 i23 ∧
                            Keeps w16 w22 [] ∧
                             bif !t18 == decide (i23 ≥ (0 : Int)) then R (Ending.returned (Value.bool false)) w22
                             else
                              bif t18 then
                               bif i17 != i23 then R (Ending.returned (Value.bool false)) w22
                               else
                                bif !t18 then
                                 bif i17 != (0 : Int) then R (Ending.returned (Value.bool false)) w22
                                 else
                                  ((0 : Int) ≤ i11 ∧ i11 < (↑n1 : Int)) ∧
                                   SX.Ptr p1 fun (a24 : Addr) =>
                                    ∃ (i25 : Int),
                                     w22.cell? (a24.add (i11.toNat * (1 : Nat))) = some (Value.int IntKind.i64 i25) ∧
                                      Rets Try.prog (37 : Nat) #[Value.pointer none, Value.int IntKind.i64 i25] w22 fun (v26 : Value) (w27 : World) =>
                                       ∃ (i28 : Int),
                                        ∃ (t29 : Bool),
                                         v26 = Value.tuple #[Value.int IntKind.i64 i28, Value.bool t29] ∧
                                          Keeps w22 w27 [] ∧
                                           ((0 : Int) ≤ i11 ∧ i11 < (↑n1 : Int)) ∧
                                            SX.Ptr p1 fun (a30 : Addr) =>
                                             ∃ (i31 : Int),
                                              w27.cell? (a30.add (i11.toNat * (1 : Nat))) = some (Value.int IntKind.i64 i31) ∧
                                               Rets Try.prog (20 : Nat) #[Value.pointer none, Value.int IntKind.i64 i31, Value.int IntKind.i64 (1 : Int)] w27
                                                fun (v32 : Value) (w33 : World) =>
                                                ∃ (i34 : Int),
                                                 ∃ (i35 : Int),
                                                  v32 = Value.tuple #[Value.int IntKind.i64 i34, Value.int IntKind.i64 i35] ∧
                                                   Keeps w27 w33 [] ∧
                                                    bif i28 != (0 : Int) then R (Ending.returned (Value.bool false)) w33
                                                    else
                                                     bif t29 then R (Ending.returned (Value.bool false)) w33
                                                     else
                                                      bif i34 != (0 : Int) then R (Ending.returned (Value.bool false)) w33
                                                      else
                                                       bif i35 != (0 : Int) then R (Ending.returned (Value.bool false)) w33
                                                       else
                                                        Rets Try.prog (39 : Nat) #[Value.pointer none, Value.int IntKind.i64 (1 : Int)] w33
                                                         fun (v36 : Value) (w37 : World) =>
                                                         ∃ (q38 : Option Addr),
                                                          ∃ (n39 : Nat),
                                                           ∃ (n40 : Nat),
                                                            v36 = Value.slice q38 n39 n40 ∧
                                                             Keeps w33 w37 [] ∧
                                                              bif (↑n39 : Int) != (0 : Int) then R (Ending.returned (Value.bool false)) w37
                                                              else Wr IntKind.i64 (i11 + (1 : Int)) fun (i41 : Int) => I9 i41 w37 ∧ I10 i41 w37 < I10 i11 w12
                                else
                                 ((0 : Int) ≤ i11 ∧ i11 < (↑n1 : Int)) ∧
                                  SX.Ptr p1 fun (a42 : Addr) =>
                                   ∃ (i43 : Int),
                                    w22.cell? (a42.add (i11.toNat * (1 : Nat))) = some (Value.int IntKind.i64 i43) ∧
                                     Rets Try.prog (37 : Nat) #[Value.pointer none, Value.int IntKind.i64 i43] w22 fun (v44 : Value) (w45 : World) =>
                                      ∃ (i46 : Int),
                                       ∃ (t47 : Bool),
                                        v44 = Value.tuple #[Value.int IntKind.i64 i46, Value.bool t47] ∧
                                         Keeps w22 w45 [] ∧
                                          ((0 : Int) ≤ i11 ∧ i11 < (↑n1 : Int)) ∧
                                           SX.Ptr p1 fun (a48 : Addr) =>
                                            ∃ (i49 : Int),
                                             w45.cell? (a48.add (i11.toNat * (1 : Nat))) = some (Value.int IntKind.i64 i49) ∧
                                              Rets Try.prog (20 : Nat) #[Value.pointer none, Value.int IntKind.i64 i49, Value.int IntKind.i64 (1 : Int)] w45
                                               fun (v50 : Value) (w51 : World) =>
                                               ∃ (i52 : Int),
                                                ∃ (i53 : Int),
                                                 v50 = Value.tuple #[Value.int IntKind.i64 i52, Value.int IntKind.i64 i53] ∧
                                                  Keeps w45 w51 [] ∧
                                                   bif i46 != (0 : Int) then R (Ending.returned (Value.bool false)) w51
                                                   else
                                                    bif t47 then R (Ending.returned (Value.bool false)) w51
                                                    else
                                                     bif i52 != (0 : Int) then R (Ending.returned (Value.bool false)) w51
                                                     else
                                                      bif i53 != (0 : Int) then R (Ending.returned (Value.bool false)) w51
                                                      else
                                                       Rets Try.prog (39 : Nat) #[Value.pointer none, Value.int IntKind.i64 (1 : Int)] w51
                                                        fun (v54 : Value) (w55 : World) =>
                                                        ∃ (q56 : Option Addr),
                                                         ∃ (n57 : Nat),
                                                          ∃ (n58 : Nat),
                                                           v54 = Value.slice q56 n57 n58 ∧
                                                            Keeps w51 w55 [] ∧
                                                             bif (↑n57 : Int) != (0 : Int) then R (Ending.returned (Value.bool false)) w55
                                                             else Wr IntKind.i64 (i11 + (1 : Int)) fun (i59 : Int) => I9 i59 w55 ∧ I10 i59 w55 < I10 i11 w12
                              else
                               bif !t18 then
                                bif i17 != (0 : Int) then R (Ending.returned (Value.bool false)) w22
                                else
                                 ((0 : Int) ≤ i11 ∧ i11 < (↑n1 : Int)) ∧
                                  SX.Ptr p1 fun (a60 : Addr) =>
                                   ∃ (i61 : Int),
                                    w22.cell? (a60.add (i11.toNat * (1 : Nat))) = some (Value.int IntKind.i64 i61) ∧
                                     Rets Try.prog (37 : Nat) #[Value.pointer none, Value.int IntKind.i64 i61] w22 fun (v62 : Value) (w63 : World) =>
                                      ∃ (i64 : Int),
                                       ∃ (t65 : Bool),
                                        v62 = Value.tuple #[Value.int IntKind.i64 i64, Value.bool t65] ∧
                                         Keeps w22 w63 [] ∧
                                          ((0 : Int) ≤ i11 ∧ i11 < (↑n1 : Int)) ∧
                                           SX.Ptr p1 fun (a66 : Addr) =>
                                            ∃ (i67 : Int),
                                             w63.cell? (a66.add (i11.toNat * (1 : Nat))) = some (Value.int IntKind.i64 i67) ∧
                                              Rets Try.prog (20 : Nat) #[Value.pointer none, Value.int IntKind.i64 i67, Value.int IntKind.i64 (1 : Int)] w63
                                               fun (v68 : Value) (w69 : World) =>
                                               ∃ (i70 : Int),
                                                ∃ (i71 : Int),
                                                 v68 = Value.tuple #[Value.int IntKind.i64 i70, Value.int IntKind.i64 i71] ∧
                                                  Keeps w63 w69 [] ∧
                                                   bif i64 != (0 : Int) then R (Ending.returned (Value.bool false)) w69
                                                   else
                                                    bif t65 then R (Ending.returned (Value.bool false)) w69
                                                    else
                                                     bif i70 != (0 : Int) then R (Ending.returned (Value.bool false)) w69
                                                     else
                                                      bif i71 != (0 : Int) then R (Ending.returned (Value.bool false)) w69
                                                      else
                                                       Rets Try.prog (39 : Nat) #[Value.pointer none, Value.int IntKind.i64 (1 : Int)] w69
                                                        fun (v72 : Value) (w73 : World) =>
                                                        ∃ (q74 : Option Addr),
                                                         ∃ (n75 : Nat),
                                                          ∃ (n76 : Nat),
                                                           v72 = Value.slice q74 n75 n76 ∧
                                                            Keeps w69 w73 [] ∧
                                                             bif (↑n75 : Int) != (0 : Int) then R (Ending.returned (Value.bool false)) w73
                                                             else Wr IntKind.i64 (i11 + (1 : Int)) fun (i77 : Int) => I9 i77 w73 ∧ I10 i77 w73 < I10 i11 w12
                               else
                                ((0 : Int) ≤ i11 ∧ i11 < (↑n1 : Int)) ∧
                                 SX.Ptr p1 fun (a78 : Addr) =>
                                  ∃ (i79 : Int),
                                   w22.cell? (a78.add (i11.toNat * (1 : Nat))) = some (Value.int IntKind.i64 i79) ∧
                                    Rets Try.prog (37 : Nat) #[Value.pointer none, Value.int IntKind.i64 i79] w22 fun (v80 : Value) (w81 : World) =>
                                     ∃ (i82 : Int),
                                      ∃ (t83 : Bool),
                                       v80 = Value.tuple #[Value.int IntKind.i64 i82, Value.bool t83] ∧
                                        Keeps w22 w81 [] ∧
                                         ((0 : Int) ≤ i11 ∧ i11 < (↑n1 : Int)) ∧
                                          SX.Ptr p1 fun (a84 : Addr) =>
                                           ∃ (i85 : Int),
                                            w81.cell? (a84.add (i11.toNat * (1 : Nat))) = some (Value.int IntKind.i64 i85) ∧
                                             Rets Try.prog (20 : Nat) #[Value.pointer none, Value.int IntKind.i64 i85, Value.int IntKind.i64 (1 : Int)] w81
                                              fun (v86 : Value) (w87 : World) =>
                                              ∃ (i88 : Int),
                                               ∃ (i89 : Int),
                                                v86 = Value.tuple #[Value.int IntKind.i64 i88, Value.int IntKind.i64 i89] ∧
                                                 Keeps w81 w87 [] ∧
                                                  bif i82 != (0 : Int) then R (Ending.returned (Value.bool false)) w87
                                                  else
                                                   bif t83 then R (Ending.returned (Value.bool false)) w87
                                                   else
                                                    bif i88 != (0 : Int) then R (Ending.returned (Value.bool false)) w87
                                                    else
                                                     bif i89 != (0 : Int) then R (Ending.returned (Value.bool false)) w87
                                                     else
                                                      Rets Try.prog (39 : Nat) #[Value.pointer none, Value.int IntKind.i64 (1 : Int)] w87
                                                       fun (v90 : Value) (w91 : World) =>
                                                       ∃ (q92 : Option Addr),
                                                        ∃ (n93 : Nat),
                                                         ∃ (n94 : Nat),
                                                          v90 = Value.slice q92 n93 n94 ∧
                                                           Keeps w87 w91 [] ∧
                                                            bif (↑n93 : Int) != (0 : Int) then R (Ending.returned (Value.bool false)) w91
                                                            else Wr IntKind.i64 (i11 + (1 : Int)) fun (i95 : Int) => I9 i95 w91 ∧ I10 i95 w91 < I10 i11 w12
           else Rets Try.prog (18 : Nat) #[] w12 fun (v96 : Value) (w97 : World) => ∃ (t98 : Bool), v96 = Value.bool t98 ∧ Keeps w12 w97 [] ∧ R (Ending.returned (Value.bool t98)) w97
theorem vcTry11 (p0 : Option Addr) (n0 c0 : Nat) (p1 : Option Addr) (n1 c1 : Nat) (w : World) (R : Ending → World → Prop) : SX.vcFn Try.prog [(6, ⟨[(7, .int .i64)], [1, 6, 0, 5], []⟩)] Try.f11 [.v (.slice p0 n0 c0), .v (.slice p1 n1 c1)] [] w R = VCTry11 p0 n0 c0 p1 n1 c1 w R := by kernel_rfl
def VCTry12 (p0 : Option Addr) (n0 c0 : Nat) (p1 : Int) (p2 : Int) (w : World) (R : Ending → World → Prop) : Prop :=
bif decide ((↑n0 : Int) > (400 : Int)) then
 Known (w.alloc (Obj.cells #[Value.int IntKind.i64 p2] (3 : Nat))) [(w.heap.size, [((0 : Nat), Value.int IntKind.i64 p2)])] →
  Rets Try.prog (18 : Nat) #[] (w.alloc (Obj.cells #[Value.int IntKind.i64 p2] (3 : Nat))) fun (v0 : Value) (w1 : World) =>
   ∃ (t2 : Bool),
    v0 = Value.bool t2 ∧
     Keeps (w.alloc (Obj.cells #[Value.int IntKind.i64 p2] (3 : Nat))) w1 [w.heap.size] ∧ (Known w1 [(w.heap.size, [((0 : Nat), Value.int IntKind.i64 p2)])] → R (Ending.returned (Value.bool t2)) w1)
else
 Known (w.alloc (Obj.cells #[Value.int IntKind.i64 p2] (3 : Nat))) [(w.heap.size, [((0 : Nat), Value.int IntKind.i64 p2)])] →
  Rets Try.prog (32 : Nat) #[Value.slice p0 n0 c0, Value.int IntKind.i64 p1] (w.alloc (Obj.cells #[Value.int IntKind.i64 p2] (3 : Nat))) fun (v3 : Value) (w4 : World) =>
   ∃ (q5 : Option Addr),
    ∃ (n6 : Nat),
     ∃ (n7 : Nat),
      v3 = Value.slice q5 n6 n7 ∧
       Keeps (w.alloc (Obj.cells #[Value.int IntKind.i64 p2] (3 : Nat))) w4 [w.heap.size] ∧
        (Known ((w4.alloc (Obj.cells #[Value.slice none (0 : Nat) (0 : Nat)] (42 : Nat))).setCell { block := w4.heap.size, off := (0 : Nat) } (Value.slice q5 n6 n7))
          [(w.heap.size, [((0 : Nat), Value.int IntKind.i64 p2)]), (w4.heap.size, [((0 : Nat), Value.slice q5 n6 n7)])] →
         Rets Try.prog (19 : Nat) #[Value.slice p0 n0 c0] ((w4.alloc (Obj.cells #[Value.slice none (0 : Nat) (0 : Nat)] (42 : Nat))).setCell { block := w4.heap.size, off := (0 : Nat) } (Value.slice q5 n6 n7))
          fun (v8 : Value) (w9 : World) =>
          ∃ (q10 : Option Addr),
           v8 = Value.pointer q10 ∧
            Keeps ((w4.alloc (Obj.cells #[Value.slice none (0 : Nat) (0 : Nat)] (42 : Nat))).setCell { block := w4.heap.size, off := (0 : Nat) } (Value.slice q5 n6 n7)) w9 [w.heap.size, w4.heap.size] ∧
             (Known w9 [(w.heap.size, [((0 : Nat), Value.int IntKind.i64 p2)]), (w4.heap.size, [((0 : Nat), Value.slice q5 n6 n7)])] →
              Rets Try.prog (40 : Nat) #[Value.pointer q10, Value.int IntKind.i64 p1] w9 fun (v11 : Value) (w12 : World) =>
               ∃ (v13 : Value),
                v11 = v13 ∧
                 Keeps w9 w12 [w.heap.size, w4.heap.size] ∧
                  FnVal v13 fun (t14 : Bool) =>
                   bif t14 then Known w12 [(w.heap.size, [((0 : Nat), Value.int IntKind.i64 p2)]), (w4.heap.size, [((0 : Nat), Value.slice q5 n6 n7)])] → R (Ending.returned (Value.bool false)) w12
                   else
                    Known
                      ((((w12.alloc (Obj.cells #[Value.int IntKind.i64 (0 : Int)] (3 : Nat))).setCell { block := w12.heap.size, off := (0 : Nat) } (Value.int IntKind.i64 (0 : Int))).alloc
                         (Obj.cells #[Value.bool false] (4 : Nat))).setCell
                       {
                        block :=
                         ((w12.alloc (Obj.cells #[Value.int IntKind.i64 (0 : Int)] (3 : Nat))).setCell { block := w12.heap.size, off := (0 : Nat) } (Value.int IntKind.i64 (0 : Int))).heap.size,
                        off := (0 : Nat) }
                       (Value.bool true))
                      [(w.heap.size, [((0 : Nat), Value.int IntKind.i64 p2)]), (w4.heap.size, [((0 : Nat), Value.slice q5 n6 n7)]), (w12.heap.size, [((0 : Nat), Value.int IntKind.i64 (0 : Int))]),
                       (((w12.alloc (Obj.cells #[Value.int IntKind.i64 (0 : Int)] (3 : Nat))).setCell { block := w12.heap.size, off := (0 : Nat) } (Value.int IntKind.i64 (0 : Int))).heap.size,
                        [((0 : Nat), Value.bool true)])] →
                     CallsVal Try.prog v13
                      #[Value.func (Fn.func (41 : Nat)) #[]
                        #[Value.pointer
                          (some
                           {
                            block :=
                             ((w12.alloc (Obj.cells #[Value.int IntKind.i64 (0 : Int)] (3 : Nat))).setCell { block := w12.heap.size, off := (0 : Nat) }
                                (Value.int IntKind.i64 (0 : Int))).heap.size,
                            off := (0 : Nat) }),
                         Value.pointer (some { block := w12.heap.size, off := (0 : Nat) }), Value.pointer (some { block := w4.heap.size, off := (0 : Nat) }),
                         Value.pointer (some { block := w.heap.size, off := (0 : Nat) })]]
                      ((((w12.alloc (Obj.cells #[Value.int IntKind.i64 (0 : Int)] (3 : Nat))).setCell { block := w12.heap.size, off := (0 : Nat) } (Value.int IntKind.i64 (0 : Int))).alloc
                         (Obj.cells #[Value.bool false] (4 : Nat))).setCell
                       {
                        block :=
                         ((w12.alloc (Obj.cells #[Value.int IntKind.i64 (0 : Int)] (3 : Nat))).setCell { block := w12.heap.size, off := (0 : Nat) } (Value.int IntKind.i64 (0 : Int))).heap.size,
                        off := (0 : Nat) }
                       (Value.bool true))
                      fun (v15 : Value) (w16 : World) =>
                      v15 = Value.tuple #[] ∧
                       Keeps
                         ((((w12.alloc (Obj.cells #[Value.int IntKind.i64 (0 : Int)] (3 : Nat))).setCell { block := w12.heap.size, off := (0 : Nat) } (Value.int IntKind.i64 (0 : Int))).alloc
                            (Obj.cells #[Value.bool false] (4 : Nat))).setCell
                          {
                           block :=
                            ((w12.alloc (Obj.cells #[Value.int IntKind.i64 (0 : Int)] (3 : Nat))).setCell { block := w12.heap.size, off := (0 : Nat) }
                               (Value.int IntKind.i64 (0 : Int))).heap.size,
                           off := (0 : Nat) }
                          (Value.bool true))
                         w16 [] ∧
                        ∃ (i17 : Int),
                         w16.cell? { block := w.heap.size, off := (0 : Nat) } = some (Value.int IntKind.i64 i17) ∧
                          w16.frozen? { block := w.heap.size, off := (0 : Nat) } = false ∧
                           ∃ (q18 : Option Addr),
                            ∃ (n19 : Nat),
                             ∃ (n20 : Nat),
                              w16.cell? { block := w4.heap.size, off := (0 : Nat) } = some (Value.slice q18 n19 n20) ∧
                               w16.frozen? { block := w4.heap.size, off := (0 : Nat) } = false ∧
                                ∃ (i21 : Int),
                                 w16.cell? { block := w12.heap.size, off := (0 : Nat) } = some (Value.int IntKind.i64 i21) ∧
                                  w16.frozen? { block := w12.heap.size, off := (0 : Nat) } = false ∧
                                   ∃ (t22 : Bool),
                                    w16.cell?
                                       {
                                        block :=
                                         ((w12.alloc (Obj.cells #[Value.int IntKind.i64 (0 : Int)] (3 : Nat))).setCell { block := w12.heap.size, off := (0 : Nat) }
                                            (Value.int IntKind.i64 (0 : Int))).heap.size,
                                        off := (0 : Nat) } =
                                      some (Value.bool t22) ∧
                                     w16.frozen?
                                        {
                                         block :=
                                          ((w12.alloc (Obj.cells #[Value.int IntKind.i64 (0 : Int)] (3 : Nat))).setCell { block := w12.heap.size, off := (0 : Nat) }
                                             (Value.int IntKind.i64 (0 : Int))).heap.size,
                                         off := (0 : Nat) } =
                                       false ∧
                                      bif decide (i17 > (0 : Int)) then
                                       bif decide (i17 < (↑n19 : Int)) then
                                        bif t22 then
                                         bif i21 == i17 then
                                          Known w16.drew
                                            [(w.heap.size, [((0 : Nat), Value.int IntKind.i64 i17)]), (w4.heap.size, [((0 : Nat), Value.slice q18 n19 n20)]),
                                             (w12.heap.size, [((0 : Nat), Value.int IntKind.i64 i21)]),
                                             (((w12.alloc (Obj.cells #[Value.int IntKind.i64 (0 : Int)] (3 : Nat))).setCell { block := w12.heap.size, off := (0 : Nat) }
                                                 (Value.int IntKind.i64 (0 : Int))).heap.size,
                                              [((0 : Nat), Value.bool t22)])] →
                                           Rets Try.prog (39 : Nat) #[Value.pointer q10, Value.int IntKind.i64 p1] w16.drew fun (v23 : Value) (w24 : World) =>
                                            ∃ (q25 : Option Addr),
                                             ∃ (n26 : Nat),
                                              ∃ (n27 : Nat),
                                               v23 = Value.slice q25 n26 n27 ∧
                                                Keeps w16.drew w24 [] ∧
                                                 ∃ (i28 : Int),
                                                  w24.cell? { block := w.heap.size, off := (0 : Nat) } = some (Value.int IntKind.i64 i28) ∧
                                                   w24.frozen? { block := w.heap.size, off := (0 : Nat) } = false ∧
                                                    ∃ (q29 : Option Addr),
                                                     ∃ (n30 : Nat),
                                                      ∃ (n31 : Nat),
                                                       w24.cell? { block := w4.heap.size, off := (0 : Nat) } = some (Value.slice q29 n30 n31) ∧
                                                        w24.frozen? { block := w4.heap.size, off := (0 : Nat) } = false ∧
                                                         ∃ (i32 : Int),
                                                          w24.cell? { block := w12.heap.size, off := (0 : Nat) } = some (Value.int IntKind.i64 i32) ∧
                                                           w24.frozen? { block := w12.heap.size, off := (0 : Nat) } = false ∧
                                                            ∃ (t33 : Bool),
                                                             w24.cell?
                                                                {
                                                                 block :=
                                                                  ((w12.alloc (Obj.cells #[Value.int IntKind.i64 (0 : Int)] (3 : Nat))).setCell
                                                                     {block := w12.heap.size, off := (0 : Nat) }
                                                                     (Value.int IntKind.i64 (0 : Int))).heap.size,
                                                                 off := (0 : Nat) } =
                                                               some (Value.bool t33) ∧
                                                              w24.frozen?
                                                                 {
                                                                  block :=
                                                                   ((w12.alloc (Obj.cells #[Value.int IntKind.i64 (0 : Int)] (3 : Nat))).setCell
                                                                      {block := w12.heap.size, off := (0 : Nat) }
                                                                      (Value.int IntKind.i64 (0 : Int))).heap.size,
                                                                  off := (0 : Nat) } =
                                                                false ∧
                                                               w24.cell? { block := w4.heap.size, off := (0 : Nat) } = some (Value.slice q18 n19 n20) ∧
                                                                (Known w24
                                                                  [(w.heap.size, [((0 : Nat), Value.int IntKind.i64 i28)]),
                                                                   (w4.heap.size, [((0 : Nat), Value.slice q29 n30 n31)]),
                                                                   (w12.heap.size, [((0 : Nat), Value.int IntKind.i64 i32)]),
                                                                   (((w12.alloc (Obj.cells #[Value.int IntKind.i64 (0 : Int)] (3 : Nat))).setCell
                                                                       {block := w12.heap.size, off := (0 : Nat) }
                                                                       (Value.int IntKind.i64 (0 : Int))).heap.size,
                                                                    [((0 : Nat), Value.bool t33)])] →
                                                                 Rets Try.prog (30 : Nat) #[Value.slice q25 n26 n27, Value.slice q18 n19 n20] w24
                                                                  fun (v34 : Value) (w35 : World) =>
                                                                  ∃ (t36 : Bool),
                                                                   v34 = Value.bool t36 ∧
                                                                    Keeps w24 w35 [] ∧
                                                                     ∃ (i37 : Int),
                                                                      w35.cell? { block := w.heap.size, off := (0 : Nat) } =
                                                                        some (Value.int IntKind.i64 i37) ∧
                                                                       w35.frozen? { block := w.heap.size, off := (0 : Nat) } = false ∧
                                                                        ∃ (q38 : Option Addr),
                                                                         ∃ (n39 : Nat),
                                                                          ∃ (n40 : Nat),
                                                                           w35.cell? { block := w4.heap.size, off := (0 : Nat) } =
                                                                             some (Value.slice q38 n39 n40) ∧
                                                                            w35.frozen? { block := w4.heap.size, off := (0 : Nat) } = false ∧
                                                                             ∃ (i41 : Int),
                                                                              w35.cell? { block := w12.heap.size, off := (0 : Nat) } =
                                                                                some (Value.int IntKind.i64 i41) ∧
                                                                               w35.frozen? { block := w12.heap.size, off := (0 : Nat) } =
                                                                                 false ∧
                                                                                ∃ (t42 : Bool),
                                                                                 w35.cell?
                                                                                    {
                                                                                     block :=
                                                                                      ((w12.alloc
                                                                                           (Obj.cells
                                                                                            #[Value.int IntKind.i64 (0 : Int)]
                                                                                            (3 : Nat))).setCell
                                                                                         {block := w12.heap.size,
                                                                                          off := (0 : Nat) }
                                                                                         (Value.int IntKind.i64
                                                                                          (0 : Int))).heap.size,
                                                                                     off := (0 : Nat) } =
                                                                                   some (Value.bool t42) ∧
                                                                                  w35.frozen?
                                                                                     {
                                                                                      block :=
                                                                                       ((w12.alloc
                                                                                            (Obj.cells
                                                                                             #[Value.int IntKind.i64 (0 : Int)]
                                                                                             (3 : Nat))).setCell
                                                                                          {block := w12.heap.size,
                                                                                           off := (0 : Nat) }
                                                                                          (Value.int IntKind.i64
                                                                                           (0 : Int))).heap.size,
                                                                                      off := (0 : Nat) } =
                                                                                    false ∧
                                                                                   bif t36 then
                                                                                    Known w35
                                                                                      [(w.heap.size,
                                                                                        [((0 : Nat), Value.int IntKind.i64 i37)]),
                                                                                       (w4.heap.size,
                                                                                        [((0 : Nat), Value.slice q38 n39 n40)]),
                                                                                       (w12.heap.size,
                                                                                        [((0 : Nat), Value.int IntKind.i64 i41)]),
                                                                                       (((w12.alloc
                                                                                             (Obj.cells
                                                                                              #[Value.int IntKind.i64
                                                                                                (0 : Int)]
                                                                                              (3 : Nat))).setCell
                                                                                           {block := w12.heap.size,
                                                                                            off := (0 : Nat) }
                                                                                           (Value.int IntKind.i64
                                                                                            (0 : Int))).heap.size,
                                                                                        [((0 : Nat), Value.bool t42)])] →
                                                                                     Rets Try.prog (18 : Nat) #[] w35
                                                                                      fun (v43 : Value) (w44 : World) =>
                                                                                      ∃ (t45 : Bool),
                                                                                       v43 = Value.bool t45 ∧
                                                                                        Keeps w35 w44 [] ∧
                                                                                         ∃ (i46 : Int),
                                                                                          w44.cell?
                                                                                             {block := w.heap.size,
                                                                                              off := (0 : Nat) } =
                                                                                            some (Value.int IntKind.i64 i46) ∧
                                                                                           w44.frozen?
                                                                                              {block := w.heap.size,
                                                                                               off := (0 : Nat) } =
                                                                                             false ∧
                                                                                            ∃ (q47 : Option Addr),
                                                                                             ∃ (n48 : Nat),
                                                                                              ∃ (n49 : Nat),
                                                                                               w44.cell?
                                                                                                  {block := w4.heap.size,
                                                                                                   off := (0 : Nat) } =
                                                                                                 some
                                                                                                  (Value.slice q47 n48
                                                                                                   n49) ∧
                                                                                                w44.frozen?
                                                                                                   {
                                                                                                    block :=
                                                                                                     w4.heap.size,
                                                                                                    off := (0 : Nat) } =
                                                                                                  false ∧
                                                                                                 ∃ (i50 : Int),
                                                                                                  w44.cell?
                                                                                                     {
                                                                                                      block :=
                                                                                                       w12.heap.size,
                                                                                                      off :=
                                                                                                       (0 : Nat) } =
                                                                                                    some
                                                                                                     (Value.int
                                                                                                      IntKind.i64
                                                                                                      i50) ∧
                                                                                                   w44.frozen?
                                                                                                      {
                                                                                                       block :=
                                                                                                        w12.heap.size,
                                                                                                       off :=
                                                                                                        (0 :
                                                                                                         Nat) } =
                                                                                                     false ∧
                                                                                                    ∃ (t51 : Bool),
                                                                                                     w44.cell?
                                                                                                        {
                                                                                                         block :=
                                                                                                          ((w12.alloc
                                                                                                               (Obj.cells
                                                                                                                #[Value.int
                                                                                                                  IntKind.i64
                                                                                                                  (0 :
                                                                                                                   Int)]
                                                                                                                (3 :
                                                                                                                 Nat))).setCell
                                                                                                             {
                                                                                                              block :=
                                                                                                               w12.heap.size,
                                                                                                              off :=
                                                                                                               (0 :
                                                                                                                Nat) }
                                                                                                             (Value.int
                                                                                                              IntKind.i64
                                                                                                              (0 :
                                                                                                               Int))).heap.size,
                                                                                                         off :=
                                                                                                          (0 :
                                                                                                           Nat) } =
                                                                                                       some
                                                                                                        (Value.bool
                                                                                                         t51) ∧
                                                                                                      w44.frozen?
                                                                                                         {
                                                                                                          block :=
                                                                                                           ((w12.alloc
                                                                                                                (Obj.cells
                                                                                                                 #[Value.int
                                                                                                                   IntKind.i64
                                                                                                                   (0 :
                                                                                                                    Int)]
                                                                                                                 (3 :
                                                                                                                  Nat))).setCell
                                                                                                              {
                                                                                                               block :=
                                                                                                                w12.heap.size,
                                                                                                               off :=
                                                                                                                (0 :
                                                                                                                 Nat) }
                                                                                                              (Value.int
                                                                                                               IntKind.i64
                                                                                                               (0 :
                                                                                                                Int))).heap.size,
                                                                                                          off :=
                                                                                                           (0 :
                                                                                                            Nat) } =
                                                                                                        false ∧
                                                                                                       (Known w44
                                                                                                         [(w.heap.size,
                                                                                                           [((0 :
                                                                                                              Nat),
                                                                                                             Value.int
                                                                                                              IntKind.i64
                                                                                                              i46)]),
                                                                                                          (w4.heap.size,
                                                                                                           [((0 :
                                                                                                              Nat),
                                                                                                             Value.slice
                                                                                                              q47
                                                                                                              n48
                                                                                                              n49)]),
                                                                                                          (w12.heap.size,
                                                                                                           [((0 :
                                                                                                              Nat),
                                                                                                             Value.int
                                                                                                              IntKind.i64
                                                                                                              i50)]),
                                                                                                          (((w12.alloc
                                                                                                                (Obj.cells
                                                                                                                 #[Value.int
                                                                                                                   IntKind.i64
                                                                                                                   (0 :
                                                                                                                    Int)]
                                                                                                                 (3 :
                                                                                                                  Nat))).setCell
                                                                                                              {
                                                                                                               block :=
                                                                                                                w12.heap.size,
                                                                                                               off :=
                                                                                                                (0 :
                                                                                                                 Nat) }
                                                                                                              (Value.int
                                                                                                               IntKind.i64
                                                                                                               (0 :
                                                                                                                Int))).heap.size,
                                                                                                           [((0 :
                                                                                                              Nat),
                                                                                                             Value.bool
                                                                                                              t51)])] →
                                                                                                        R
                                                                                                         (Ending.returned
                                                                                                          (Value.bool
                                                                                                           t45))
                                                                                                         w44)
                                                                                   else
                                                                                    Known w35
                                                                                      [(w.heap.size,
                                                                                        [((0 : Nat), Value.int IntKind.i64 i37)]),
                                                                                       (w4.heap.size,
                                                                                        [((0 : Nat), Value.slice q38 n39 n40)]),
                                                                                       (w12.heap.size,
                                                                                        [((0 : Nat), Value.int IntKind.i64 i41)]),
                                                                                       (((w12.alloc
                                                                                             (Obj.cells
                                                                                              #[Value.int IntKind.i64
                                                                                                (0 : Int)]
                                                                                              (3 : Nat))).setCell
                                                                                           {block := w12.heap.size,
                                                                                            off := (0 : Nat) }
                                                                                           (Value.int IntKind.i64
                                                                                            (0 : Int))).heap.size,
                                                                                        [((0 : Nat), Value.bool t42)])] →
                                                                                     R (Ending.returned (Value.bool false)) w35)
                                         else
                                          Known w16.drew
                                            [(w.heap.size, [((0 : Nat), Value.int IntKind.i64 i17)]), (w4.heap.size, [((0 : Nat), Value.slice q18 n19 n20)]),
                                             (w12.heap.size, [((0 : Nat), Value.int IntKind.i64 i21)]),
                                             (((w12.alloc (Obj.cells #[Value.int IntKind.i64 (0 : Int)] (3 : Nat))).setCell { block := w12.heap.size, off := (0 : Nat) }
                                                 (Value.int IntKind.i64 (0 : Int))).heap.size,
                                              [((0 : Nat), Value.bool t22)])] →
                                           R (Ending.returned (Value.bool false)) w16.drew
                                        else
                                         Known w16.drew
                                           [(w.heap.size, [((0 : Nat), Value.int IntKind.i64 i17)]), (w4.heap.size, [((0 : Nat), Value.slice q18 n19 n20)]),
                                            (w12.heap.size, [((0 : Nat), Value.int IntKind.i64 i21)]),
                                            (((w12.alloc (Obj.cells #[Value.int IntKind.i64 (0 : Int)] (3 : Nat))).setCell { block := w12.heap.size, off := (0 : Nat) }
                                                (Value.int IntKind.i64 (0 : Int))).heap.size,
                                             [((0 : Nat), Value.bool t22)])] →
                                          R (Ending.returned (Value.bool false)) w16.drew
                                       else
                                        bif t22 then
                                         bif i21 == (↑n19 : Int) then
                                          Known w16.drew
                                            [(w.heap.size, [((0 : Nat), Value.int IntKind.i64 i17)]), (w4.heap.size, [((0 : Nat), Value.slice q18 n19 n20)]),
                                             (w12.heap.size, [((0 : Nat), Value.int IntKind.i64 i21)]),
                                             (((w12.alloc (Obj.cells #[Value.int IntKind.i64 (0 : Int)] (3 : Nat))).setCell { block := w12.heap.size, off := (0 : Nat) }
                                                 (Value.int IntKind.i64 (0 : Int))).heap.size,
                                              [((0 : Nat), Value.bool t22)])] →
                                           Rets Try.prog (39 : Nat) #[Value.pointer q10, Value.int IntKind.i64 p1] w16.drew fun (v52 : Value) (w53 : World) =>
                                            ∃ (q54 : Option Addr),
                                             ∃ (n55 : Nat),
                                              ∃ (n56 : Nat),
                                               v52 = Value.slice q54 n55 n56 ∧
                                                Keeps w16.drew w53 [] ∧
                                                 ∃ (i57 : Int),
                                                  w53.cell? { block := w.heap.size, off := (0 : Nat) } = some (Value.int IntKind.i64 i57) ∧
                                                   w53.frozen? { block := w.heap.size, off := (0 : Nat) } = false ∧
                                                    ∃ (q58 : Option Addr),
                                                     ∃ (n59 : Nat),
                                                      ∃ (n60 : Nat),
                                                       w53.cell? { block := w4.heap.size, off := (0 : Nat) } = some (Value.slice q58 n59 n60) ∧
                                                        w53.frozen? { block := w4.heap.size, off := (0 : Nat) } = false ∧
                                                         ∃ (i61 : Int),
                                                          w53.cell? { block := w12.heap.size, off := (0 : Nat) } = some (Value.int IntKind.i64 i61) ∧
                                                           w53.frozen? { block := w12.heap.size, off := (0 : Nat) } = false ∧
                                                            ∃ (t62 : Bool),
                                                             w53.cell?
                                                                {
                                                                 block :=
                                                                  ((w12.alloc (Obj.cells #[Value.int IntKind.i64 (0 : Int)] (3 : Nat))).setCell
                                                                     {block := w12.heap.size, off := (0 : Nat) }
                                                                     (Value.int IntKind.i64 (0 : Int))).heap.size,
                                                                 off := (0 : Nat) } =
                                                               some (Value.bool t62) ∧
                                                              w53.frozen?
                                                                 {
                                                                  block :=
                                                                   ((w12.alloc (Obj.cells #[Value.int IntKind.i64 (0 : Int)] (3 : Nat))).setCell
                                                                      {block := w12.heap.size, off := (0 : Nat) }
                                                                      (Value.int IntKind.i64 (0 : Int))).heap.size,
                                                                  off := (0 : Nat) } =
                                                                false ∧
                                                               w53.cell? { block := w4.heap.size, off := (0 : Nat) } = some (Value.slice q18 n19 n20) ∧
                                                                (Known w53
                                                                  [(w.heap.size, [((0 : Nat), Value.int IntKind.i64 i57)]),
                                                                   (w4.heap.size, [((0 : Nat), Value.slice q58 n59 n60)]),
                                                                   (w12.heap.size, [((0 : Nat), Value.int IntKind.i64 i61)]),
                                                                   (((w12.alloc (Obj.cells #[Value.int IntKind.i64 (0 : Int)] (3 : Nat))).setCell
                                                                       {block := w12.heap.size, off := (0 : Nat) }
                                                                       (Value.int IntKind.i64 (0 : Int))).heap.size,
                                                                    [((0 : Nat), Value.bool t62)])] →
                                                                 Rets Try.prog (30 : Nat) #[Value.slice q54 n55 n56, Value.slice q18 n19 n20] w53
                                                                  fun (v63 : Value) (w64 : World) =>
                                                                  ∃ (t65 : Bool),
                                                                   v63 = Value.bool t65 ∧
                                                                    Keeps w53 w64 [] ∧
                                                                     ∃ (i66 : Int),
                                                                      w64.cell? { block := w.heap.size, off := (0 : Nat) } =
                                                                        some (Value.int IntKind.i64 i66) ∧
                                                                       w64.frozen? { block := w.heap.size, off := (0 : Nat) } = false ∧
                                                                        ∃ (q67 : Option Addr),
                                                                         ∃ (n68 : Nat),
                                                                          ∃ (n69 : Nat),
                                                                           w64.cell? { block := w4.heap.size, off := (0 : Nat) } =
                                                                             some (Value.slice q67 n68 n69) ∧
                                                                            w64.frozen? { block := w4.heap.size, off := (0 : Nat) } = false ∧
                                                                             ∃ (i70 : Int),
                                                                              w64.cell? { block := w12.heap.size, off := (0 : Nat) } =
                                                                                some (Value.int IntKind.i64 i70) ∧
                                                                               w64.frozen? { block := w12.heap.size, off := (0 : Nat) } =
                                                                                 false ∧
                                                                                ∃ (t71 : Bool),
                                                                                 w64.cell?
                                                                                    {
                                                                                     block :=
                                                                                      ((w12.alloc
                                                                                           (Obj.cells
                                                                                            #[Value.int IntKind.i64 (0 : Int)]
                                                                                            (3 : Nat))).setCell
                                                                                         {block := w12.heap.size,
                                                                                          off := (0 : Nat) }
                                                                                         (Value.int IntKind.i64
                                                                                          (0 : Int))).heap.size,
                                                                                     off := (0 : Nat) } =
                                                                                   some (Value.bool t71) ∧
                                                                                  w64.frozen?
                                                                                     {
                                                                                      block :=
                                                                                       ((w12.alloc
                                                                                            (Obj.cells
                                                                                             #[Value.int IntKind.i64 (0 : Int)]
                                                                                             (3 : Nat))).setCell
                                                                                          {block := w12.heap.size,
                                                                                           off := (0 : Nat) }
                                                                                          (Value.int IntKind.i64
                                                                                           (0 : Int))).heap.size,
                                                                                      off := (0 : Nat) } =
                                                                                    false ∧
                                                                                   bif t65 then
                                                                                    Known w64
                                                                                      [(w.heap.size,
                                                                                        [((0 : Nat), Value.int IntKind.i64 i66)]),
                                                                                       (w4.heap.size,
                                                                                        [((0 : Nat), Value.slice q67 n68 n69)]),
                                                                                       (w12.heap.size,
                                                                                        [((0 : Nat), Value.int IntKind.i64 i70)]),
                                                                                       (((w12.alloc
                                                                                             (Obj.cells
                                                                                              #[Value.int IntKind.i64
                                                                                                (0 : Int)]
                                                                                              (3 : Nat))).setCell
                                                                                           {block := w12.heap.size,
                                                                                            off := (0 : Nat) }
                                                                                           (Value.int IntKind.i64
                                                                                            (0 : Int))).heap.size,
                                                                                        [((0 : Nat), Value.bool t71)])] →
                                                                                     Rets Try.prog (18 : Nat) #[] w64
                                                                                      fun (v72 : Value) (w73 : World) =>
                                                                                      ∃ (t74 : Bool),
                                                                                       v72 = Value.bool t74 ∧
                                                                                        Keeps w64 w73 [] ∧
                                                                                         ∃ (i75 : Int),
                                                                                          w73.cell?
                                                                                             {block := w.heap.size,
                                                                                              off := (0 : Nat) } =
                                                                                            some (Value.int IntKind.i64 i75) ∧
                                                                                           w73.frozen?
                                                                                              {block := w.heap.size,
                                                                                               off := (0 : Nat) } =
                                                                                             false ∧
                                                                                            ∃ (q76 : Option Addr),
                                                                                             ∃ (n77 : Nat),
                                                                                              ∃ (n78 : Nat),
                                                                                               w73.cell?
                                                                                                  {block := w4.heap.size,
                                                                                                   off := (0 : Nat) } =
                                                                                                 some
                                                                                                  (Value.slice q76 n77
                                                                                                   n78) ∧
                                                                                                w73.frozen?
                                                                                                   {
                                                                                                    block :=
                                                                                                     w4.heap.size,
                                                                                                    off := (0 : Nat) } =
                                                                                                  false ∧
                                                                                                 ∃ (i79 : Int),
                                                                                                  w73.cell?
                                                                                                     {
                                                                                                      block :=
                                                                                                       w12.heap.size,
                                                                                                      off :=
                                                                                                       (0 : Nat) } =
                                                                                                    some
                                                                                                     (Value.int
                                                                                                      IntKind.i64
                                                                                                      i79) ∧
                                                                                                   w73.frozen?
                                                                                                      {
                                                                                                       block :=
                                                                                                        w12.heap.size,
                                                                                                       off :=
                                                                                                        (0 :
                                                                                                         Nat) } =
                                                                                                     false ∧
                                                                                                    ∃ (t80 : Bool),
                                                                                                     w73.cell?
                                                                                                        {
                                                                                                         block :=
                                                                                                          ((w12.alloc
                                                                                                               (Obj.cells
                                                                                                                #[Value.int
                                                                                                                  IntKind.i64
                                                                                                                  (0 :
                                                                                                                   Int)]
                                                                                                                (3 :
                                                                                                                 Nat))).setCell
                                                                                                             {
                                                                                                              block :=
                                                                                                               w12.heap.size,
                                                                                                              off :=
                                                                                                               (0 :
                                                                                                                Nat) }
                                                                                                             (Value.int
                                                                                                              IntKind.i64
                                                                                                              (0 :
                                                                                                               Int))).heap.size,
                                                                                                         off :=
                                                                                                          (0 :
                                                                                                           Nat) } =
                                                                                                       some
                                                                                                        (Value.bool
                                                                                                         t80) ∧
                                                                                                      w73.frozen?
                                                                                                         {
                                                                                                          block :=
                                                                                                           ((w12.alloc
                                                                                                                (Obj.cells
                                                                                                                 #[Value.int
                                                                                                                   IntKind.i64
                                                                                                                   (0 :
                                                                                                                    Int)]
                                                                                                                 (3 :
                                                                                                                  Nat))).setCell
                                                                                                              {
                                                                                                               block :=
                                                                                                                w12.heap.size,
                                                                                                               off :=
                                                                                                                (0 :
                                                                                                                 Nat) }
                                                                                                              (Value.int
                                                                                                               IntKind.i64
                                                                                                               (0 :
                                                                                                                Int))).heap.size,
                                                                                                          off :=
                                                                                                           (0 :
                                                                                                            Nat) } =
                                                                                                        false ∧
                                                                                                       (Known w73
                                                                                                         [(w.heap.size,
                                                                                                           [((0 :
                                                                                                              Nat),
                                                                                                             Value.int
                                                                                                              IntKind.i64
                                                                                                              i75)]),
                                                                                                          (w4.heap.size,
                                                                                                           [((0 :
                                                                                                              Nat),
                                                                                                             Value.slice
                                                                                                              q76
                                                                                                              n77
                                                                                                              n78)]),
                                                                                                          (w12.heap.size,
                                                                                                           [((0 :
                                                                                                              Nat),
                                                                                                             Value.int
                                                                                                              IntKind.i64
                                                                                                              i79)]),
                                                                                                          (((w12.alloc
                                                                                                                (Obj.cells
                                                                                                                 #[Value.int
                                                                                                                   IntKind.i64
                                                                                                                   (0 :
                                                                                                                    Int)]
                                                                                                                 (3 :
                                                                                                                  Nat))).setCell
                                                                                                              {
                                                                                                               block :=
                                                                                                                w12.heap.size,
                                                                                                               off :=
                                                                                                                (0 :
                                                                                                                 Nat) }
                                                                                                              (Value.int
                                                                                                               IntKind.i64
                                                                                                               (0 :
                                                                                                                Int))).heap.size,
                                                                                                           [((0 :
                                                                                                              Nat),
                                                                                                             Value.bool
                                                                                                              t80)])] →
                                                                                                        R
                                                                                                         (Ending.returned
                                                                                                          (Value.bool
                                                                                                           t74))
                                                                                                         w73)
                                                                                   else
                                                                                    Known w64
                                                                                      [(w.heap.size,
                                                                                        [((0 : Nat), Value.int IntKind.i64 i66)]),
                                                                                       (w4.heap.size,
                                                                                        [((0 : Nat), Value.slice q67 n68 n69)]),
                                                                                       (w12.heap.size,
                                                                                        [((0 : Nat), Value.int IntKind.i64 i70)]),
                                                                                       (((w12.alloc
                                                                                             (Obj.cells
                                                                                              #[Value.int IntKind.i64
                                                                                                (0 : Int)]
                                                                                              (3 : Nat))).setCell
                                                                                           {block := w12.heap.size,
                                                                                            off := (0 : Nat) }
                                                                                           (Value.int IntKind.i64
                                                                                            (0 : Int))).heap.size,
                                                                                        [((0 : Nat), Value.bool t71)])] →
                                                                                     R (Ending.returned (Value.bool false)) w64)
                                         else
                                          Known w16.drew
                                            [(w.heap.size, [((0 : Nat), Value.int IntKind.i64 i17)]), (w4.heap.size, [((0 : Nat), Value.slice q18 n19 n20)]),
                                             (w12.heap.size, [((0 : Nat), Value.int IntKind.i64 i21)]),
                                             (((w12.alloc (Obj.cells #[Value.int IntKind.i64 (0 : Int)] (3 : Nat))).setCell { block := w12.heap.size, off := (0 : Nat) }
                                                 (Value.int IntKind.i64 (0 : Int))).heap.size,
                                              [((0 : Nat), Value.bool t22)])] →
                                           R (Ending.returned (Value.bool false)) w16.drew
                                        else
                                         Known w16.drew
                                           [(w.heap.size, [((0 : Nat), Value.int IntKind.i64 i17)]), (w4.heap.size, [((0 : Nat), Value.slice q18 n19 n20)]),
                                            (w12.heap.size, [((0 : Nat), Value.int IntKind.i64 i21)]),
                                            (((w12.alloc (Obj.cells #[Value.int IntKind.i64 (0 : Int)] (3 : Nat))).setCell { block := w12.heap.size, off := (0 : Nat) }
                                                (Value.int IntKind.i64 (0 : Int))).heap.size,
                                             [((0 : Nat), Value.bool t22)])] →
                                          R (Ending.returned (Value.bool false)) w16.drew
                                      else
                                       bif t22 then
                                        bif i21 == (↑n19 : Int) then
                                         Known w16.drew
                                           [(w.heap.size, [((0 : Nat), Value.int IntKind.i64 i17)]), (w4.heap.size, [((0 : Nat), Value.slice q18 n19 n20)]),
                                            (w12.heap.size, [((0 : Nat), Value.int IntKind.i64 i21)]),
                                            (((w12.alloc (Obj.cells #[Value.int IntKind.i64 (0 : Int)] (3 : Nat))).setCell { block := w12.heap.size, off := (0 : Nat) }
                                                (Value.int IntKind.i64 (0 : Int))).heap.size,
                                             [((0 : Nat), Value.bool t22)])] →
                                          Rets Try.prog (39 : Nat) #[Value.pointer q10, Value.int IntKind.i64 p1] w16.drew fun (v81 : Value) (w82 : World) =>
                                           ∃ (q83 : Option Addr),
                                            ∃ (n84 : Nat),
                                             ∃ (n85 : Nat),
                                              v81 = Value.slice q83 n84 n85 ∧
                                               Keeps w16.drew w82 [] ∧
                                                ∃ (i86 : Int),
                                                 w82.cell? { block := w.heap.size, off := (0 : Nat) } = some (Value.int IntKind.i64 i86) ∧
                                                  w82.frozen? { block := w.heap.size, off := (0 : Nat) } = false ∧
                                                   ∃ (q87 : Option Addr),
                                                    ∃ (n88 : Nat),
                                                     ∃ (n89 : Nat),
                                                      w82.cell? { block := w4.heap.size, off := (0 : Nat) } = some (Value.slice q87 n88 n89) ∧
                                                       w82.frozen? { block := w4.heap.size, off := (0 : Nat) } = false ∧
                                                        ∃ (i90 : Int),
                                                         w82.cell? { block := w12.heap.size, off := (0 : Nat) } = some (Value.int IntKind.i64 i90) ∧
                                                          w82.frozen? { block := w12.heap.size, off := (0 : Nat) } = false ∧
                                                           ∃ (t91 : Bool),
                                                            w82.cell?
                                                               {
                                                                block :=
                                                                 ((w12.alloc (Obj.cells #[Value.int IntKind.i64 (0 : Int)] (3 : Nat))).setCell
                                                                    {block := w12.heap.size, off := (0 : Nat) }
                                                                    (Value.int IntKind.i64 (0 : Int))).heap.size,
                                                                off := (0 : Nat) } =
                                                              some (Value.bool t91) ∧
                                                             w82.frozen?
                                                                {
                                                                 block :=
                                                                  ((w12.alloc (Obj.cells #[Value.int IntKind.i64 (0 : Int)] (3 : Nat))).setCell
                                                                     {block := w12.heap.size, off := (0 : Nat) }
                                                                     (Value.int IntKind.i64 (0 : Int))).heap.size,
                                                                 off := (0 : Nat) } =
                                                               false ∧
                                                              w82.cell? { block := w4.heap.size, off := (0 : Nat) } = some (Value.slice q18 n19 n20) ∧
                                                               (Known w82
                                                                 [(w.heap.size, [((0 : Nat), Value.int IntKind.i64 i86)]),
                                                                  (w4.heap.size, [((0 : Nat), Value.slice q87 n88 n89)]),
                                                                  (w12.heap.size, [((0 : Nat), Value.int IntKind.i64 i90)]),
                                                                  (((w12.alloc (Obj.cells #[Value.int IntKind.i64 (0 : Int)] (3 : Nat))).setCell
                                                                      {block := w12.heap.size, off := (0 : Nat) }
                                                                      (Value.int IntKind.i64 (0 : Int))).heap.size,
                                                                   [((0 : Nat), Value.bool t91)])] →
                                                                Rets Try.prog (30 : Nat) #[Value.slice q83 n84 n85, Value.slice q18 n19 n20] w82
                                                                 fun (v92 : Value) (w93 : World) =>
                                                                 ∃ (t94 : Bool),
                                                                  v92 = Value.bool t94 ∧
                                                                   Keeps w82 w93 [] ∧
                                                                    ∃ (i95 : Int),
                                                                     w93.cell? { block := w.heap.size, off := (0 : Nat) } =
                                                                       some (Value.int IntKind.i64 i95) ∧
                                                                      w93.frozen? { block := w.heap.size, off := (0 : Nat) } = false ∧
                                                                       ∃ (q96 : Option Addr),
                                                                        ∃ (n97 : Nat),
                                                                         ∃ (n98 : Nat),
                                                                          w93.cell? { block := w4.heap.size, off := (0 : Nat) } =
                                                                            some (Value.slice q96 n97 n98) ∧
                                                                           w93.frozen? { block := w4.heap.size, off := (0 : Nat) } = false ∧
                                                                            ∃ (i99 : Int),
                                                                             w93.cell? { block := w12.heap.size, off := (0 : Nat) } =
                                                                               some (Value.int IntKind.i64 i99) ∧
                                                                              w93.frozen? { block := w12.heap.size, off := (0 : Nat) } =
                                                                                false ∧
                                                                               ∃ (t100 : Bool),
                                                                                w93.cell?
                                                                                   {
                                                                                    block :=
                                                                                     ((w12.alloc
                                                                                          (Obj.cells
                                                                                           #[Value.int IntKind.i64 (0 : Int)]
                                                                                           (3 : Nat))).setCell
                                                                                        {block := w12.heap.size, off := (0 : Nat) }
                                                                                        (Value.int IntKind.i64
                                                                                         (0 : Int))).heap.size,
                                                                                    off := (0 : Nat) } =
                                                                                  some (Value.bool t100) ∧
                                                                                 w93.frozen?
                                                                                    {
                                                                                     block :=
                                                                                      ((w12.alloc
                                                                                           (Obj.cells
                                                                                            #[Value.int IntKind.i64 (0 : Int)]
                                                                                            (3 : Nat))).setCell
                                                                                         {block := w12.heap.size,
                                                                                          off := (0 : Nat) }
                                                                                         (Value.int IntKind.i64
                                                                                          (0 : Int))).heap.size,
                                                                                     off := (0 : Nat) } =
                                                                                   false ∧
                                                                                  bif t94 then
                                                                                   Known w93
                                                                                     [(w.heap.size,
                                                                                       [((0 : Nat), Value.int IntKind.i64 i95)]),
                                                                                      (w4.heap.size,
                                                                                       [((0 : Nat), Value.slice q96 n97 n98)]),
                                                                                      (w12.heap.size,
                                                                                       [((0 : Nat), Value.int IntKind.i64 i99)]),
                                                                                      (((w12.alloc
                                                                                            (Obj.cells
                                                                                             #[Value.int IntKind.i64 (0 : Int)]
                                                                                             (3 : Nat))).setCell
                                                                                          {block := w12.heap.size,
                                                                                           off := (0 : Nat) }
                                                                                          (Value.int IntKind.i64
                                                                                           (0 : Int))).heap.size,
                                                                                       [((0 : Nat), Value.bool t100)])] →
                                                                                    Rets Try.prog (18 : Nat) #[] w93
                                                                                     fun (v101 : Value) (w102 : World) =>
                                                                                     ∃ (t103 : Bool),
                                                                                      v101 = Value.bool t103 ∧
                                                                                       Keeps w93 w102 [] ∧
                                                                                        ∃ (i104 : Int),
                                                                                         w102.cell?
                                                                                            {block := w.heap.size,
                                                                                             off := (0 : Nat) } =
                                                                                           some (Value.int IntKind.i64 i104) ∧
                                                                                          w102.frozen?
                                                                                             {block := w.heap.size,
                                                                                              off := (0 : Nat) } =
                                                                                            false ∧
                                                                                           ∃ (q105 : Option Addr),
                                                                                            ∃ (n106 : Nat),
                                                                                             ∃ (n107 : Nat),
                                                                                              w102.cell?
                                                                                                 {block := w4.heap.size,
                                                                                                  off := (0 : Nat) } =
                                                                                                some
                                                                                                 (Value.slice q105 n106
                                                                                                  n107) ∧
                                                                                               w102.frozen?
                                                                                                  {block := w4.heap.size,
                                                                                                   off := (0 : Nat) } =
                                                                                                 false ∧
                                                                                                ∃ (i108 : Int),
                                                                                                 w102.cell?
                                                                                                    {
                                                                                                     block :=
                                                                                                      w12.heap.size,
                                                                                                     off :=
                                                                                                      (0 : Nat) } =
                                                                                                   some
                                                                                                    (Value.int
                                                                                                     IntKind.i64
                                                                                                     i108) ∧
                                                                                                  w102.frozen?
                                                                                                     {
                                                                                                      block :=
                                                                                                       w12.heap.size,
                                                                                                      off :=
                                                                                                       (0 : Nat) } =
                                                                                                    false ∧
                                                                                                   ∃ (t109 : Bool),
                                                                                                    w102.cell?
                                                                                                       {
                                                                                                        block :=
                                                                                                         ((w12.alloc
                                                                                                              (Obj.cells
                                                                                                               #[Value.int
                                                                                                                 IntKind.i64
                                                                                                                 (0 :
                                                                                                                  Int)]
                                                                                                               (3 :
                                                                                                                Nat))).setCell
                                                                                                            {
                                                                                                             block :=
                                                                                                              w12.heap.size,
                                                                                                             off :=
                                                                                                              (0 :
                                                                                                               Nat) }
                                                                                                            (Value.int
                                                                                                             IntKind.i64
                                                                                                             (0 :
                                                                                                              Int))).heap.size,
                                                                                                        off :=
                                                                                                         (0 :
                                                                                                          Nat) } =
                                                                                                      some
                                                                                                       (Value.bool
                                                                                                        t109) ∧
                                                                                                     w102.frozen?
                                                                                                        {
                                                                                                         block :=
                                                                                                          ((w12.alloc
                                                                                                               (Obj.cells
                                                                                                                #[Value.int
                                                                                                                  IntKind.i64
                                                                                                                  (0 :
                                                                                                                   Int)]
                                                                                                                (3 :
                                                                                                                 Nat))).setCell
                                                                                                             {
                                                                                                              block :=
                                                                                                               w12.heap.size,
                                                                                                              off :=
                                                                                                               (0 :
                                                                                                                Nat) }
                                                                                                             (Value.int
                                                                                                              IntKind.i64
                                                                                                              (0 :
                                                                                                               Int))).heap.size,
                                                                                                         off :=
                                                                                                          (0 :
                                                                                                           Nat) } =
                                                                                                       false ∧
                                                                                                      (Known w102
                                                                                                        [(w.heap.size,
                                                                                                          [((0 :
                                                                                                             Nat),
                                                                                                            Value.int
                                                                                                             IntKind.i64
                                                                                                             i104)]),
                                                                                                         (w4.heap.size,
                                                                                                          [((0 :
                                                                                                             Nat),
                                                                                                            Value.slice
                                                                                                             q105
                                                                                                             n106
                                                                                                             n107)]),
                                                                                                         (w12.heap.size,
                                                                                                          [((0 :
                                                                                                             Nat),
                                                                                                            Value.int
                                                                                                             IntKind.i64
                                                                                                             i108)]),
                                                                                                         (((w12.alloc
                                                                                                               (Obj.cells
                                                                                                                #[Value.int
                                                                                                                  IntKind.i64
                                                                                                                  (0 :
                                                                                                                   Int)]
                                                                                                                (3 :
                                                                                                                 Nat))).setCell
                                                                                                             {
                                                                                                              block :=
                                                                                                               w12.heap.size,
                                                                                                              off :=
                                                                                                               (0 :
                                                                                                                Nat) }
                                                                                                             (Value.int
                                                                                                              IntKind.i64
                                                                                                              (0 :
                                                                                                               Int))).heap.size,
                                                                                                          [((0 :
                                                                                                             Nat),
                                                                                                            Value.bool
                                                                                                             t109)])] →
                                                                                                       R
                                                                                                        (Ending.returned
                                                                                                         (Value.bool
                                                                                                          t103))
                                                                                                        w102)
                                                                                  else
                                                                                   Known w93
                                                                                     [(w.heap.size,
                                                                                       [((0 : Nat), Value.int IntKind.i64 i95)]),
                                                                                      (w4.heap.size,
                                                                                       [((0 : Nat), Value.slice q96 n97 n98)]),
                                                                                      (w12.heap.size,
                                                                                       [((0 : Nat), Value.int IntKind.i64 i99)]),
                                                                                      (((w12.alloc
                                                                                            (Obj.cells
                                                                                             #[Value.int IntKind.i64 (0 : Int)]
                                                                                             (3 : Nat))).setCell
                                                                                          {block := w12.heap.size,
                                                                                           off := (0 : Nat) }
                                                                                          (Value.int IntKind.i64
                                                                                           (0 : Int))).heap.size,
                                                                                       [((0 : Nat), Value.bool t100)])] →
                                                                                    R (Ending.returned (Value.bool false)) w93)
                                        else
                                         Known w16.drew
                                           [(w.heap.size, [((0 : Nat), Value.int IntKind.i64 i17)]), (w4.heap.size, [((0 : Nat), Value.slice q18 n19 n20)]),
                                            (w12.heap.size, [((0 : Nat), Value.int IntKind.i64 i21)]),
                                            (((w12.alloc (Obj.cells #[Value.int IntKind.i64 (0 : Int)] (3 : Nat))).setCell { block := w12.heap.size, off := (0 : Nat) }
                                                (Value.int IntKind.i64 (0 : Int))).heap.size,
                                             [((0 : Nat), Value.bool t22)])] →
                                          R (Ending.returned (Value.bool false)) w16.drew
                                       else
                                        Known w16.drew
                                          [(w.heap.size, [((0 : Nat), Value.int IntKind.i64 i17)]), (w4.heap.size, [((0 : Nat), Value.slice q18 n19 n20)]),
                                           (w12.heap.size, [((0 : Nat), Value.int IntKind.i64 i21)]),
                                           (((w12.alloc (Obj.cells #[Value.int IntKind.i64 (0 : Int)] (3 : Nat))).setCell { block := w12.heap.size, off := (0 : Nat) }
                                               (Value.int IntKind.i64 (0 : Int))).heap.size,
                                            [((0 : Nat), Value.bool t22)])] →
                                         R (Ending.returned (Value.bool false)) w16.drew))
theorem vcTry12 (p0 : Option Addr) (n0 c0 : Nat) (p1 : Int) (p2 : Int) (w : World) (R : Ending → World → Prop) : SX.vcFn Try.prog [] Try.f12 [.v (.slice p0 n0 c0), .v (.int .i64 p1), .v (.int .i64 p2)] [] w R = VCTry12 p0 n0 c0 p1 p2 w R := by kernel_rfl
end Go.Proofs.Ytodgnegbaigdbaa
