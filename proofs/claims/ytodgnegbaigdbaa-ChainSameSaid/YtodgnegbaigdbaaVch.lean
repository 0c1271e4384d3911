/- The conditions of functions, as the executor computes them: each is equal to what 'vcFn' says. -/
import Derived.Test.YtodgnegbaigdbaaSxLib
import Derived.Test.YtodgnegbaigdbaaProg
namespace Go.Proofs.Ytodgnegbaigdbaa
open Go Go.SX Go.Proofs
set_option maxRecDepth 100000
set_option linter.unusedVariables false
def VCTry15 (q : Option Addr) (n c : Nat) (x y level : Int) (w : World) (R : Ending → World → Prop) : Prop :=
bif decide ((↑n : Int) > (2000 : Int)) then
 Known (w.alloc (Obj.cells #[Value.int IntKind.i64 x, Value.int IntKind.i64 y] (35 : Nat))) [(w.heap.size, [((0 : Nat), Value.int IntKind.i64 x), ((1 : Nat), Value.int IntKind.i64 y)])] →
  Rets Try.prog (18 : Nat) #[] (w.alloc (Obj.cells #[Value.int IntKind.i64 x, Value.int IntKind.i64 y] (35 : Nat))) fun (v0 : Value) (w1 : World) =>
   ∃ (t2 : Bool),
    v0 = Value.bool t2 ∧
     Keeps (w.alloc (Obj.cells #[Value.int IntKind.i64 x, Value.int IntKind.i64 y] (35 : Nat))) w1 [w.heap.size] ∧
      (Known w1 [(w.heap.size, [((0 : Nat), Value.int IntKind.i64 x), ((1 : Nat), Value.int IntKind.i64 y)])] → R (Ending.returned (Value.bool t2)) w1)
else
 (0 : Int) = (↑(0 : Nat) : Int) ∧
  (1 : Int) = (↑(1 : Nat) : Int) ∧
   (Known (w.alloc (Obj.cells #[Value.int IntKind.i64 x, Value.int IntKind.i64 y] (35 : Nat))).drew [(w.heap.size, [((0 : Nat), Value.int IntKind.i64 x), ((1 : Nat), Value.int IntKind.i64 y)])] →
    Rets Try.prog (19 : Nat) #[Value.slice q n c] (w.alloc (Obj.cells #[Value.int IntKind.i64 x, Value.int IntKind.i64 y] (35 : Nat))).drew fun (v3 : Value) (w4 : World) =>
     ∃ (q5 : Option Addr),
      v3 = Value.pointer q5 ∧
       Keeps (w.alloc (Obj.cells #[Value.int IntKind.i64 x, Value.int IntKind.i64 y] (35 : Nat))).drew w4 [] ∧
        ∃ (i6 : Int),
         w4.cell? { block := w.heap.size, off := (0 : Nat) } = some (Value.int IntKind.i64 i6) ∧
          w4.frozen? { block := w.heap.size, off := (0 : Nat) } = false ∧
           ∃ (i7 : Int),
            w4.cell? { block := w.heap.size, off := (1 : Nat) } = some (Value.int IntKind.i64 i7) ∧
             w4.frozen? { block := w.heap.size, off := (1 : Nat) } = false ∧
              (Known w4 [(w.heap.size, [((0 : Nat), Value.int IntKind.i64 i6), ((1 : Nat), Value.int IntKind.i64 i7)])] →
               Rets Try.prog (19 : Nat) #[Value.slice q n c] w4 fun (v8 : Value) (w9 : World) =>
                ∃ (q10 : Option Addr),
                 v8 = Value.pointer q10 ∧
                  Keeps w4 w9 [] ∧
                   ∃ (i11 : Int),
                    w9.cell? { block := w.heap.size, off := (0 : Nat) } = some (Value.int IntKind.i64 i11) ∧
                     w9.frozen? { block := w.heap.size, off := (0 : Nat) } = false ∧
                      ∃ (i12 : Int),
                       w9.cell? { block := w.heap.size, off := (1 : Nat) } = some (Value.int IntKind.i64 i12) ∧
                        w9.frozen? { block := w.heap.size, off := (1 : Nat) } = false ∧
                         (Known w9 [(w.heap.size, [((0 : Nat), Value.int IntKind.i64 i11), ((1 : Nat), Value.int IntKind.i64 i12)])] →
                          Rets Try.prog (33 : Nat) #[Value.int IntKind.i64 level] w9 fun (v13 : Value) (w14 : World) =>
                           ∃ (i15 : Int),
                            v13 = Value.int IntKind.i64 i15 ∧
                             Keeps w9 w14 [] ∧
                              ∃ (i16 : Int),
                               w14.cell? { block := w.heap.size, off := (0 : Nat) } = some (Value.int IntKind.i64 i16) ∧
                                w14.frozen? { block := w.heap.size, off := (0 : Nat) } = false ∧
                                 ∃ (i17 : Int),
                                  w14.cell? { block := w.heap.size, off := (1 : Nat) } = some (Value.int IntKind.i64 i17) ∧
                                   w14.frozen? { block := w.heap.size, off := (1 : Nat) } = false ∧
                                    (Known w14 [(w.heap.size, [((0 : Nat), Value.int IntKind.i64 i16), ((1 : Nat), Value.int IntKind.i64 i17)])] →
                                     Rets Try.prog (25 : Nat) #[Value.slice q n c, Value.int IntKind.i64 x, Value.int IntKind.i64 i15] w14 fun (v18 : Value) (w19 : World) =>
                                      ∃ (i20 : Int),
                                       ∃ (i21 : Int),
                                        v18 = Value.tuple #[Value.int IntKind.i64 i20, Value.int IntKind.i64 i21] ∧
                                         Keeps w14 w19 [] ∧
                                          ∃ (i22 : Int),
                                           w19.cell? { block := w.heap.size, off := (0 : Nat) } = some (Value.int IntKind.i64 i22) ∧
                                            w19.frozen? { block := w.heap.size, off := (0 : Nat) } = false ∧
                                             ∃ (i23 : Int),
                                              w19.cell? { block := w.heap.size, off := (1 : Nat) } = some (Value.int IntKind.i64 i23) ∧
                                               w19.frozen? { block := w.heap.size, off := (1 : Nat) } = false ∧
                                                (Known w19 [(w.heap.size, [((0 : Nat), Value.int IntKind.i64 i22), ((1 : Nat), Value.int IntKind.i64 i23)])] →
                                                 Rets Try.prog (25 : Nat) #[Value.slice q n c, Value.int IntKind.i64 y, Value.int IntKind.i64 i15] w19
                                                  fun (v24 : Value) (w25 : World) =>
                                                  ∃ (i26 : Int),
                                                   ∃ (i27 : Int),
                                                    v24 = Value.tuple #[Value.int IntKind.i64 i26, Value.int IntKind.i64 i27] ∧
                                                     Keeps w19 w25 [] ∧
                                                      ∃ (i28 : Int),
                                                       w25.cell? { block := w.heap.size, off := (0 : Nat) } = some (Value.int IntKind.i64 i28) ∧
                                                        w25.frozen? { block := w.heap.size, off := (0 : Nat) } = false ∧
                                                         ∃ (i29 : Int),
                                                          w25.cell? { block := w.heap.size, off := (1 : Nat) } = some (Value.int IntKind.i64 i29) ∧
                                                           w25.frozen? { block := w.heap.size, off := (1 : Nat) } = false ∧
                                                            (Known w25
                                                              [(w.heap.size,
                                                                [((0 : Nat), Value.int IntKind.i64 i28), ((1 : Nat), Value.int IntKind.i64 i29)])] →
                                                             Rets Try.prog (20 : Nat) #[Value.pointer q5, Value.int IntKind.i64 x, Value.int IntKind.i64 i15]
                                                              w25 fun (v30 : Value) (w31 : World) =>
                                                              ∃ (i32 : Int),
                                                               ∃ (i33 : Int),
                                                                v30 = Value.tuple #[Value.int IntKind.i64 i32, Value.int IntKind.i64 i33] ∧
                                                                 Keeps w25 w31 [] ∧
                                                                  ∃ (i34 : Int),
                                                                   w31.cell? { block := w.heap.size, off := (0 : Nat) } =
                                                                     some (Value.int IntKind.i64 i34) ∧
                                                                    w31.frozen? { block := w.heap.size, off := (0 : Nat) } = false ∧
                                                                     ∃ (i35 : Int),
                                                                      w31.cell? { block := w.heap.size, off := (1 : Nat) } =
                                                                        some (Value.int IntKind.i64 i35) ∧
                                                                       w31.frozen? { block := w.heap.size, off := (1 : Nat) } = false ∧
                                                                        (Known w31
                                                                          [(w.heap.size,
                                                                            [((0 : Nat), Value.int IntKind.i64 i34),
                                                                             ((1 : Nat), Value.int IntKind.i64 i35)])] →
                                                                         Rets Try.prog (20 : Nat)
                                                                          #[Value.pointer q5, Value.int IntKind.i64 y, Value.int IntKind.i64 i15]
                                                                          w31 fun (v36 : Value) (w37 : World) =>
                                                                          ∃ (i38 : Int),
                                                                           ∃ (i39 : Int),
                                                                            v36 =
                                                                              Value.tuple
                                                                               #[Value.int IntKind.i64 i38, Value.int IntKind.i64 i39] ∧
                                                                             Keeps w31 w37 [] ∧
                                                                              ∃ (i40 : Int),
                                                                               w37.cell? { block := w.heap.size, off := (0 : Nat) } =
                                                                                 some (Value.int IntKind.i64 i40) ∧
                                                                                w37.frozen? { block := w.heap.size, off := (0 : Nat) } =
                                                                                  false ∧
                                                                                 ∃ (i41 : Int),
                                                                                  w37.cell? { block := w.heap.size, off := (1 : Nat) } =
                                                                                    some (Value.int IntKind.i64 i41) ∧
                                                                                   w37.frozen?
                                                                                      {block := w.heap.size, off := (1 : Nat) } =
                                                                                     false ∧
                                                                                    bif i20 != i32 then
                                                                                     Known w37
                                                                                       [(w.heap.size,
                                                                                         [((0 : Nat), Value.int IntKind.i64 i40),
                                                                                          ((1 : Nat),
                                                                                           Value.int IntKind.i64 i41)])] →
                                                                                      R (Ending.returned (Value.bool false)) w37
                                                                                    else
                                                                                     bif i21 != i33 then
                                                                                      Known w37
                                                                                        [(w.heap.size,
                                                                                          [((0 : Nat), Value.int IntKind.i64 i40),
                                                                                           ((1 : Nat),
                                                                                            Value.int IntKind.i64 i41)])] →
                                                                                       R (Ending.returned (Value.bool false)) w37
                                                                                     else
                                                                                      bif i26 != i38 then
                                                                                       Known w37
                                                                                         [(w.heap.size,
                                                                                           [((0 : Nat),
                                                                                             Value.int IntKind.i64 i40),
                                                                                            ((1 : Nat),
                                                                                             Value.int IntKind.i64 i41)])] →
                                                                                        R (Ending.returned (Value.bool false)) w37
                                                                                      else
                                                                                       bif i27 != i39 then
                                                                                        Known w37
                                                                                          [(w.heap.size,
                                                                                            [((0 : Nat),
                                                                                              Value.int IntKind.i64 i40),
                                                                                             ((1 : Nat),
                                                                                              Value.int IntKind.i64 i41)])] →
                                                                                         R (Ending.returned (Value.bool false)) w37
                                                                                       else
                                                                                        Known w37
                                                                                          [(w.heap.size,
                                                                                            [((0 : Nat),
                                                                                              Value.int IntKind.i64 i40),
                                                                                             ((1 : Nat),
                                                                                              Value.int IntKind.i64 i41)])] →
                                                                                         Rets Try.prog (20 : Nat)
                                                                                          #[Value.pointer q10,
                                                                                           Value.int IntKind.i64 y,
                                                                                           Value.int IntKind.i64 i15]
                                                                                          w37 fun (v42 : Value) (w43 : World) =>
                                                                                          ∃ (i44 : Int),
                                                                                           ∃ (i45 : Int),
                                                                                            v42 =
                                                                                              Value.tuple
                                                                                               #[Value.int IntKind.i64 i44,
                                                                                                Value.int IntKind.i64 i45] ∧
                                                                                             Keeps w37 w43 [] ∧
                                                                                              ∃ (i46 : Int),
                                                                                               w43.cell?
                                                                                                  {block := w.heap.size,
                                                                                                   off := (0 : Nat) } =
                                                                                                 some
                                                                                                  (Value.int IntKind.i64
                                                                                                   i46) ∧
                                                                                                w43.frozen?
                                                                                                   {
                                                                                                    block :=
                                                                                                     w.heap.size,
                                                                                                    off := (0 : Nat) } =
                                                                                                  false ∧
                                                                                                 ∃ (i47 : Int),
                                                                                                  w43.cell?
                                                                                                     {
                                                                                                      block :=
                                                                                                       w.heap.size,
                                                                                                      off :=
                                                                                                       (1 : Nat) } =
                                                                                                    some
                                                                                                     (Value.int
                                                                                                      IntKind.i64
                                                                                                      i47) ∧
                                                                                                   w43.frozen?
                                                                                                      {
                                                                                                       block :=
                                                                                                        w.heap.size,
                                                                                                       off :=
                                                                                                        (1 :
                                                                                                         Nat) } =
                                                                                                     false ∧
                                                                                                    (Known w43
                                                                                                      [(w.heap.size,
                                                                                                        [((0 : Nat),
                                                                                                          Value.int
                                                                                                           IntKind.i64
                                                                                                           i46),
                                                                                                         ((1 :
                                                                                                           Nat),
                                                                                                          Value.int
                                                                                                           IntKind.i64
                                                                                                           i47)])] →
                                                                                                     Rets Try.prog
                                                                                                      (20 : Nat)
                                                                                                      #[Value.pointer
                                                                                                        q10,
                                                                                                       Value.int
                                                                                                        IntKind.i64
                                                                                                        x,
                                                                                                       Value.int
                                                                                                        IntKind.i64
                                                                                                        i15]
                                                                                                      w43
                                                                                                      fun
                                                                                                       (v48 : Value)
                                                                                                       (w49 :
                                                                                                        World) =>
                                                                                                      ∃ (i50 : Int),
                                                                                                       ∃ (i51 : Int),
                                                                                                        v48 =
                                                                                                          Value.tuple
                                                                                                           #[Value.int
                                                                                                             IntKind.i64
                                                                                                             i50,
                                                                                                            Value.int
                                                                                                             IntKind.i64
                                                                                                             i51] ∧
                                                                                                         Keeps w43
                                                                                                           w49
                                                                                                           [] ∧
                                                                                                          ∃ (i52 :
                                                                                                           Int),
                                                                                                           w49.cell?
                                                                                                              {
                                                                                                               block :=
                                                                                                                w.heap.size,
                                                                                                               off :=
                                                                                                                (0 :
                                                                                                                 Nat) } =
                                                                                                             some
                                                                                                              (Value.int
                                                                                                               IntKind.i64
                                                                                                               i52) ∧
                                                                                                            w49.frozen?
                                                                                                               {
                                                                                                                block :=
                                                                                                                 w.heap.size,
                                                                                                                off :=
                                                                                                                 (0 :
                                                                                                                  Nat) } =
                                                                                                              false ∧
                                                                                                             ∃
                                                                                                              (i53
                                                                                                              :
                                                                                                              Int),
                                                                                                              w49.cell?
                                                                                                                 {
                                                                                                                  block :=
                                                                                                                   w.heap.size,
                                                                                                                  off :=
                                                                                                                   (1 :
                                                                                                                    Nat) } =
                                                                                                                some
                                                                                                                 (Value.int
                                                                                                                  IntKind.i64
                                                                                                                  i53) ∧
                                                                                                               w49.frozen?
                                                                                                                  {
                                                                                                                   block :=
                                                                                                                    w.heap.size,
                                                                                                                   off :=
                                                                                                                    (1 :
                                                                                                                     Nat) } =
                                                                                                                 false ∧
                                                                                                                bif
                                                                                                                  i20 !=
                                                                                                                   i50 then
                                                                                                                 Known
                                                                                                                   w49
                                                                                                                   [(w.heap.size,
                                                                                                                     [((0 :
                                                                                                                        Nat),
                                                                                                                       Value.int
                                                                                                                        IntKind.i64
                                                                                                                        i52),
                                                                                                                      ((1 :
                                                                                                                        Nat),
                                                                                                                       Value.int
                                                                                                                        IntKind.i64
                                                                                                                        i53)])] →
                                                                                                                  R
                                                                                                                   (Ending.returned
                                                                                                                    (Value.bool
                                                                                                                     false))
                                                                                                                   w49
                                                                                                                else
                                                                                                                 bif
                                                                                                                   i21 !=
                                                                                                                    i51 then
                                                                                                                  Known
                                                                                                                    w49
                                                                                                                    [(w.heap.size,
                                                                                                                      [((0 :
                                                                                                                         Nat),
                                                                                                                        Value.int
                                                                                                                         IntKind.i64
                                                                                                                         i52),
                                                                                                                       ((1 :
                                                                                                                         Nat),
                                                                                                                        Value.int
                                                                                                                         IntKind.i64
                                                                                                                         i53)])] →
                                                                                                                   R
                                                                                                                    (Ending.returned
                                                                                                                     (Value.bool
                                                                                                                      false))
                                                                                                                    w49
                                                                                                                 else
                                                                                                                  bif
                                                                                                                    i26 !=
                                                                                                                     i44 then
                                                                                                                   Known
                                                                                                                     w49
                                                                                                                     [(w.heap.size,
                                                                                                                       [((0 :
                                                                                                                          Nat),
                                                                                                                         Value.int
                                                                                                                          IntKind.i64
                                                                                                                          i52),
                                                                                                                        ((1 :
                                                                                                                          Nat),
                                                                                                                         Value.int
                                                                                                                          IntKind.i64
                                                                                                                          i53)])] →
                                                                                                                    R
                                                                                                                     (Ending.returned
                                                                                                                      (Value.bool
                                                                                                                       false))
                                                                                                                     w49
                                                                                                                  else
                                                                                                                   bif
                                                                                                                     i27 !=
                                                                                                                      i45 then
                                                                                                                    Known
                                                                                                                      w49
                                                                                                                      [(w.heap.size,
                                                                                                                        [((0 :
                                                                                                                           Nat),
                                                                                                                          Value.int
                                                                                                                           IntKind.i64
                                                                                                                           i52),
                                                                                                                         ((1 :
                                                                                                                           Nat),
                                                                                                                          Value.int
                                                                                                                           IntKind.i64
                                                                                                                           i53)])] →
                                                                                                                     R
                                                                                                                      (Ending.returned
                                                                                                                       (Value.bool
                                                                                                                        false))
                                                                                                                      w49
                                                                                                                   else
                                                                                                                    Known
                                                                                                                      w49
                                                                                                                      [(w.heap.size,
                                                                                                                        [((0 :
                                                                                                                           Nat),
                                                                                                                          Value.int
                                                                                                                           IntKind.i64
                                                                                                                           i52),
                                                                                                                         ((1 :
                                                                                                                           Nat),
                                                                                                                          Value.int
                                                                                                                           IntKind.i64
                                                                                                                           i53)])] →
                                                                                                                     Rets
                                                                                                                      Try.prog
                                                                                                                      (39 :
                                                                                                                       Nat)
                                                                                                                      #[Value.pointer
                                                                                                                        q10,
                                                                                                                       Value.int
                                                                                                                        IntKind.i64
                                                                                                                        level]
                                                                                                                      w49
                                                                                                                      fun
                                                                                                                       (v54 :
                                                                                                                        Value)
                                                                                                                       (w55 :
                                                                                                                        World) =>
                                                                                                                      ∃
                                                                                                                       (q56
                                                                                                                       :
                                                                                                                       Option
                                                                                                                        Addr),
                                                                                                                       ∃
                                                                                                                        (n57
                                                                                                                        :
                                                                                                                        Nat),
                                                                                                                        ∃
                                                                                                                         (n58
                                                                                                                         :
                                                                                                                         Nat),
                                                                                                                         v54 =
                                                                                                                           Value.slice
                                                                                                                            q56
                                                                                                                            n57
                                                                                                                            n58 ∧
                                                                                                                          Keeps
                                                                                                                            w49
                                                                                                                            w55
                                                                                                                            [] ∧
                                                                                                                           ∃
                                                                                                                            (i59
                                                                                                                            :
                                                                                                                            Int),
                                                                                                                            w55.cell?
                                                                                                                               {
                                                                                                                                block :=
                                                                                                                                 w.heap.size,
                                                                                                                                off :=
                                                                                                                                 (0 :
                                                                                                                                  Nat) } =
                                                                                                                              some
                                                                                                                               (Value.int
                                                                                                                                IntKind.i64
                                                                                                                                i59) ∧
                                                                                                                             w55.frozen?
                                                                                                                                {
                                                                                                                                 block :=
                                                                                                                                  w.heap.size,
                                                                                                                                 off :=
                                                                                                                                  (0 :
                                                                                                                                   Nat) } =
                                                                                                                               false ∧
                                                                                                                              ∃
                                                                                                                               (i60
                                                                                                                               :
                                                                                                                               Int),
                                                                                                                               w55.cell?
                                                                                                                                  {
                                                                                                                                   block :=
                                                                                                                                    w.heap.size,
                                                                                                                                   off :=
                                                                                                                                    (1 :
                                                                                                                                     Nat) } =
                                                                                                                                 some
                                                                                                                                  (Value.int
                                                                                                                                   IntKind.i64
                                                                                                                                   i60) ∧
                                                                                                                                w55.frozen?
                                                                                                                                   {
                                                                                                                                    block :=
                                                                                                                                     w.heap.size,
                                                                                                                                    off :=
                                                                                                                                     (1 :
                                                                                                                                      Nat) } =
                                                                                                                                  false ∧
                                                                                                                                 (Known
                                                                                                                                   w55
                                                                                                                                   [(w.heap.size,
                                                                                                                                     [((0 :
                                                                                                                                        Nat),
                                                                                                                                       Value.int
                                                                                                                                        IntKind.i64
                                                                                                                                        i59),
                                                                                                                                      ((1 :
                                                                                                                                        Nat),
                                                                                                                                       Value.int
                                                                                                                                        IntKind.i64
                                                                                                                                        i60)])] →
                                                                                                                                  Rets
                                                                                                                                   Try.prog
                                                                                                                                   (42 :
                                                                                                                                    Nat)
                                                                                                                                   #[Value.slice
                                                                                                                                     q56
                                                                                                                                     n57
                                                                                                                                     n58,
                                                                                                                                    Value.int
                                                                                                                                     IntKind.i64
                                                                                                                                     (↑n :
                                                                                                                                      Int)]
                                                                                                                                   w55
                                                                                                                                   fun
                                                                                                                                    (v61 :
                                                                                                                                     Value)
                                                                                                                                    (w62 :
                                                                                                                                     World) =>
                                                                                                                                   ∃
                                                                                                                                    (q63
                                                                                                                                    :
                                                                                                                                    Option
                                                                                                                                     Addr),
                                                                                                                                    ∃
                                                                                                                                     (n64
                                                                                                                                     :
                                                                                                                                     Nat),
                                                                                                                                     ∃
                                                                                                                                      (n65
                                                                                                                                      :
                                                                                                                                      Nat),
                                                                                                                                      ∃
                                                                                                                                       (i66
                                                                                                                                       :
                                                                                                                                       Int),
                                                                                                                                       v61 =
                                                                                                                                         Value.tuple
                                                                                                                                          #[Value.slice
                                                                                                                                            q63
                                                                                                                                            n64
                                                                                                                                            n65,
                                                                                                                                           Value.int
                                                                                                                                            IntKind.i64
                                                                                                                                            i66] ∧
                                                                                                                                        Keeps
                                                                                                                                          w55
                                                                                                                                          w62
                                                                                                                                          [] ∧
                                                                                                                                         ∃
                                                                                                                                          (i67
                                                                                                                                          :
                                                                                                                                          Int),
                                                                                                                                          w62.cell?
                                                                                                                                             {
                                                                                                                                              block :=
                                                                                                                                               w.heap.size,
                                                                                                                                              off :=
                                                                                                                                               (0 :
                                                                                                                                                Nat) } =
                                                                                                                                            some
                                                                                                                                             (Value.int
                                                                                                                                              IntKind.i64
                                                                                                                                              i67) ∧
                                                                                                                                           w62.frozen?
                                                                                                                                              {
                                                                                                                                               block :=
                                                                                                                                                w.heap.size,
                                                                                                                                               off :=
                                                                                                                                                (0 :
                                                                                                                                                 Nat) } =
                                                                                                                                             false ∧
                                                                                                                                            ∃
                                                                                                                                             (i68
                                                                                                                                             :
                                                                                                                                             Int),
                                                                                                                                             w62.cell?
                                                                                                                                                {
                                                                                                                                                 block :=
                                                                                                                                                  w.heap.size,
                                                                                                                                                 off :=
                                                                                                                                                  (1 :
                                                                                                                                                   Nat) } =
                                                                                                                                               some
                                                                                                                                                (Value.int
                                                                                                                                                 IntKind.i64
                                                                                                                                                 i68) ∧
                                                                                                                                              w62.frozen?
                                                                                                                                                 {
                                                                                                                                                  block :=
                                                                                                                                                   w.heap.size,
                                                                                                                                                  off :=
                                                                                                                                                   (1 :
                                                                                                                                                    Nat) } =
                                                                                                                                                false ∧
                                                                                                                                               (Known
                                                                                                                                                 w62
                                                                                                                                                 [(w.heap.size,
                                                                                                                                                   [((0 :
                                                                                                                                                      Nat),
                                                                                                                                                     Value.int
                                                                                                                                                      IntKind.i64
                                                                                                                                                      i67),
                                                                                                                                                    ((1 :
                                                                                                                                                      Nat),
                                                                                                                                                     Value.int
                                                                                                                                                      IntKind.i64
                                                                                                                                                      i68)])] →
                                                                                                                                                Rets
                                                                                                                                                 Try.prog
                                                                                                                                                 (31 :
                                                                                                                                                  Nat)
                                                                                                                                                 #[Value.slice
                                                                                                                                                   q
                                                                                                                                                   n
                                                                                                                                                   c,
                                                                                                                                                  Value.int
                                                                                                                                                   IntKind.i64
                                                                                                                                                   level]
                                                                                                                                                 w62
                                                                                                                                                 fun
                                                                                                                                                  (v69 :
                                                                                                                                                   Value)
                                                                                                                                                  (w70 :
                                                                                                                                                   World) =>
                                                                                                                                                 ∃
                                                                                                                                                  (q71
                                                                                                                                                  :
                                                                                                                                                  Option
                                                                                                                                                   Addr),
                                                                                                                                                  ∃
                                                                                                                                                   (n72
                                                                                                                                                   :
                                                                                                                                                   Nat),
                                                                                                                                                   ∃
                                                                                                                                                    (n73
                                                                                                                                                    :
                                                                                                                                                    Nat),
                                                                                                                                                    v69 =
                                                                                                                                                      Value.slice
                                                                                                                                                       q71
                                                                                                                                                       n72
                                                                                                                                                       n73 ∧
                                                                                                                                                     Keeps
                                                                                                                                                       w62
                                                                                                                                                       w70
                                                                                                                                                       [] ∧
                                                                                                                                                      ∃
                                                                                                                                                       (i74
                                                                                                                                                       :
                                                                                                                                                       Int),
                                                                                                                                                       w70.cell?
                                                                                                                                                          {
                                                                                                                                                           block :=
                                                                                                                                                            w.heap.size,
                                                                                                                                                           off :=
                                                                                                                                                            (0 :
                                                                                                                                                             Nat) } =
                                                                                                                                                         some
                                                                                                                                                          (Value.int
                                                                                                                                                           IntKind.i64
                                                                                                                                                           i74) ∧
                                                                                                                                                        w70.frozen?
                                                                                                                                                           {
                                                                                                                                                            block :=
                                                                                                                                                             w.heap.size,
                                                                                                                                                            off :=
                                                                                                                                                             (0 :
                                                                                                                                                              Nat) } =
                                                                                                                                                          false ∧
                                                                                                                                                         ∃
                                                                                                                                                          (i75
                                                                                                                                                          :
                                                                                                                                                          Int),
                                                                                                                                                          w70.cell?
                                                                                                                                                             {
                                                                                                                                                              block :=
                                                                                                                                                               w.heap.size,
                                                                                                                                                              off :=
                                                                                                                                                               (1 :
                                                                                                                                                                Nat) } =
                                                                                                                                                            some
                                                                                                                                                             (Value.int
                                                                                                                                                              IntKind.i64
                                                                                                                                                              i75) ∧
                                                                                                                                                           w70.frozen?
                                                                                                                                                              {
                                                                                                                                                               block :=
                                                                                                                                                                w.heap.size,
                                                                                                                                                               off :=
                                                                                                                                                                (1 :
                                                                                                                                                                 Nat) } =
                                                                                                                                                             false ∧
                                                                                                                                                            (Known
                                                                                                                                                              w70
                                                                                                                                                              [(w.heap.size,
                                                                                                                                                                [((0 :
                                                                                                                                                                   Nat),
                                                                                                                                                                  Value.int
                                                                                                                                                                   IntKind.i64
                                                                                                                                                                   i74),
                                                                                                                                                                 ((1 :
                                                                                                                                                                   Nat),
                                                                                                                                                                  Value.int
                                                                                                                                                                   IntKind.i64
                                                                                                                                                                   i75)])] →
                                                                                                                                                             Rets
                                                                                                                                                              Try.prog
                                                                                                                                                              (30 :
                                                                                                                                                               Nat)
                                                                                                                                                              #[Value.slice
                                                                                                                                                                q56
                                                                                                                                                                n57
                                                                                                                                                                n58,
                                                                                                                                                               Value.slice
                                                                                                                                                                q71
                                                                                                                                                                n72
                                                                                                                                                                n73]
                                                                                                                                                              w70
                                                                                                                                                              fun
                                                                                                                                                               (v76 :
                                                                                                                                                                Value)
                                                                                                                                                               (w77 :
                                                                                                                                                                World) =>
                                                                                                                                                              ∃
                                                                                                                                                               (t78
                                                                                                                                                               :
                                                                                                                                                               Bool),
                                                                                                                                                               v76 =
                                                                                                                                                                 Value.bool
                                                                                                                                                                  t78 ∧
                                                                                                                                                                Keeps
                                                                                                                                                                  w70
                                                                                                                                                                  w77
                                                                                                                                                                  [] ∧
                                                                                                                                                                 ∃
                                                                                                                                                                  (i79
                                                                                                                                                                  :
                                                                                                                                                                  Int),
                                                                                                                                                                  w77.cell?
                                                                                                                                                                     {
                                                                                                                                                                      block :=
                                                                                                                                                                       w.heap.size,
                                                                                                                                                                      off :=
                                                                                                                                                                       (0 :
                                                                                                                                                                        Nat) } =
                                                                                                                                                                    some
                                                                                                                                                                     (Value.int
                                                                                                                                                                      IntKind.i64
                                                                                                                                                                      i79) ∧
                                                                                                                                                                   w77.frozen?
                                                                                                                                                                      {
                                                                                                                                                                       block :=
                                                                                                                                                                        w.heap.size,
                                                                                                                                                                       off :=
                                                                                                                                                                        (0 :
                                                                                                                                                                         Nat) } =
                                                                                                                                                                     false ∧
                                                                                                                                                                    ∃
                                                                                                                                                                     (i80
                                                                                                                                                                     :
                                                                                                                                                                     Int),
                                                                                                                                                                     w77.cell?
                                                                                                                                                                        {
                                                                                                                                                                         block :=
                                                                                                                                                                          w.heap.size,
                                                                                                                                                                         off :=
                                                                                                                                                                          (1 :
                                                                                                                                                                           Nat) } =
                                                                                                                                                                       some
                                                                                                                                                                        (Value.int
                                                                                                                                                                         IntKind.i64
                                                                                                                                                                         i80) ∧
                                                                                                                                                                      w77.frozen?
                                                                                                                                                                         {
                                                                                                                                                                          block :=
                                                                                                                                                                           w.heap.size,
                                                                                                                                                                          off :=
                                                                                                                                                                           (1 :
                                                                                                                                                                            Nat) } =
                                                                                                                                                                        false ∧
                                                                                                                                                                       bif
                                                                                                                                                                         t78 then
                                                                                                                                                                        bif
                                                                                                                                                                          i66 ==
                                                                                                                                                                           (0 :
                                                                                                                                                                            Int) then
                                                                                                                                                                         ∃
                                                                                                                                                                          (s81
                                                                                                                                                                          :
                                                                                                                                                                          ByteArray),
                                                                                                                                                                          s81.size =
                                                                                                                                                                            n64 ∧
                                                                                                                                                                           BytesAt
                                                                                                                                                                             w77
                                                                                                                                                                             q63
                                                                                                                                                                             s81 ∧
                                                                                                                                                                            ∃
                                                                                                                                                                             (s82
                                                                                                                                                                             :
                                                                                                                                                                             ByteArray),
                                                                                                                                                                             s82.size =
                                                                                                                                                                               n ∧
                                                                                                                                                                              BytesAt
                                                                                                                                                                                w77
                                                                                                                                                                                q
                                                                                                                                                                                s82 ∧
                                                                                                                                                                               bif
                                                                                                                                                                                 s81.toList ==
                                                                                                                                                                                  s82.toList then
                                                                                                                                                                                Known
                                                                                                                                                                                  w77
                                                                                                                                                                                  [(w.heap.size,
                                                                                                                                                                                    [((0 :
                                                                                                                                                                                       Nat),
                                                                                                                                                                                      Value.int
                                                                                                                                                                                       IntKind.i64
                                                                                                                                                                                       i79),
                                                                                                                                                                                     ((1 :
                                                                                                                                                                                       Nat),
                                                                                                                                                                                      Value.int
                                                                                                                                                                                       IntKind.i64
                                                                                                                                                                                       i80)])] →
                                                                                                                                                                                 Rets
                                                                                                                                                                                  Try.prog
                                                                                                                                                                                  (18 :
                                                                                                                                                                                   Nat)
                                                                                                                                                                                  #[]
                                                                                                                                                                                  w77
                                                                                                                                                                                  fun
                                                                                                                                                                                   (v83 :
                                                                                                                                                                                    Value)
                                                                                                                                                                                   (w84 :
                                                                                                                                                                                    World) =>
                                                                                                                                                                                  ∃
                                                                                                                                                                                   (t85
                                                                                                                                                                                   :
                                                                                                                                                                                   Bool),
                                                                                                                                                                                   v83 =
                                                                                                                                                                                     Value.bool
                                                                                                                                                                                      t85 ∧
                                                                                                                                                                                    Keeps
                                                                                                                                                                                      w77
                                                                                                                                                                                      w84
                                                                                                                                                                                      [] ∧
                                                                                                                                                                                     ∃
                                                                                                                                                                                      (i86
                                                                                                                                                                                      :
                                                                                                                                                                                      Int),
                                                                                                                                                                                      w84.cell?
                                                                                                                                                                                         {
                                                                                                                                                                                          block :=
                                                                                                                                                                                           w.heap.size,
                                                                                                                                                                                          off :=
                                                                                                                                                                                           (0 :
                                                                                                                                                                                            Nat) } =
                                                                                                                                                                                        some
                                                                                                                                                                                         (Value.int
                                                                                                                                                                                          IntKind.i64
                                                                                                                                                                                          i86) ∧
                                                                                                                                                                                       w84.frozen?
                                                                                                                                                                                          {
                                                                                                                                                                                           block :=
                                                                                                                                                                                            w.heap.size,
                                                                                                                                                                                           off :=
                                                                                                                                                                                            (0 :
                                                                                                                                                                                             Nat) } =
                                                                                                                                                                                         false ∧
                                                                                                                                                                                        ∃
                                                                                                                                                                                         (i87
                                                                                                                                                                                         :
                                                                                                                                                                                         Int),
                                                                                                                                                                                         w84.cell?
                                                                                                                                                                                            {
                                                                                                                                                                                             block :=
                                                                                                                                                                                              w.heap.size,
                                                                                                                                                                                             off :=
                                                                                                                                                                                              (1 :
                                                                                                                                                                                               Nat) } =
                                                                                                                                                                                           some
                                                                                                                                                                                            (Value.int
                                                                                                                                                                                             IntKind.i64
                                                                                                                                                                                             i87) ∧
                                                                                                                                                                                          w84.frozen?
                                                                                                                                                                                             {
                                                                                                                                                                                              block :=
                                                                                                                                                                                               w.heap.size,
                                                                                                                                                                                              off :=
                                                                                                                                                                                               (1 :
                                                                                                                                                                                                Nat) } =
                                                                                                                                                                                            false ∧
                                                                                                                                                                                           (Known
                                                                                                                                                                                             w84
                                                                                                                                                                                             [(w.heap.size,
                                                                                                                                                                                               [((0 :
                                                                                                                                                                                                  Nat),
                                                                                                                                                                                                 Value.int
                                                                                                                                                                                                  IntKind.i64
                                                                                                                                                                                                  i86),
                                                                                                                                                                                                ((1 :
                                                                                                                                                                                                  Nat),
                                                                                                                                                                                                 Value.int
                                                                                                                                                                                                  IntKind.i64
                                                                                                                                                                                                  i87)])] →
                                                                                                                                                                                            R
                                                                                                                                                                                             (Ending.returned
                                                                                                                                                                                              (Value.bool
                                                                                                                                                                                               t85))
                                                                                                                                                                                             w84)
                                                                                                                                                                               else
                                                                                                                                                                                Known
                                                                                                                                                                                  w77
                                                                                                                                                                                  [(w.heap.size,
                                                                                                                                                                                    [((0 :
                                                                                                                                                                                       Nat),
                                                                                                                                                                                      Value.int
                                                                                                                                                                                       IntKind.i64
                                                                                                                                                                                       i79),
                                                                                                                                                                                     ((1 :
                                                                                                                                                                                       Nat),
                                                                                                                                                                                      Value.int
                                                                                                                                                                                       IntKind.i64
                                                                                                                                                                                       i80)])] →
                                                                                                                                                                                 R
                                                                                                                                                                                  (Ending.returned
                                                                                                                                                                                   (Value.bool
                                                                                                                                                                                    false))
                                                                                                                                                                                  w77
                                                                                                                                                                        else
                                                                                                                                                                         Known
                                                                                                                                                                           w77
                                                                                                                                                                           [(w.heap.size,
                                                                                                                                                                             [((0 :
                                                                                                                                                                                Nat),
                                                                                                                                                                               Value.int
                                                                                                                                                                                IntKind.i64
                                                                                                                                                                                i79),
                                                                                                                                                                              ((1 :
                                                                                                                                                                                Nat),
                                                                                                                                                                               Value.int
                                                                                                                                                                                IntKind.i64
                                                                                                                                                                                i80)])] →
                                                                                                                                                                          R
                                                                                                                                                                           (Ending.returned
                                                                                                                                                                            (Value.bool
                                                                                                                                                                             false))
                                                                                                                                                                           w77
                                                                                                                                                                       else
                                                                                                                                                                        Known
                                                                                                                                                                          w77
                                                                                                                                                                          [(w.heap.size,
                                                                                                                                                                            [((0 :
                                                                                                                                                                               Nat),
                                                                                                                                                                              Value.int
                                                                                                                                                                               IntKind.i64
                                                                                                                                                                               i79),
                                                                                                                                                                             ((1 :
                                                                                                                                                                               Nat),
                                                                                                                                                                              Value.int
                                                                                                                                                                               IntKind.i64
                                                                                                                                                                               i80)])] →
                                                                                                                                                                         R
                                                                                                                                                                          (Ending.returned
                                                                                                                                                                           (Value.bool
                                                                                                                                                                            false))
                                                                                                                                                                          w77)))))))))))
theorem vcTry15 (q : Option Addr) (n c : Nat) (x y level : Int) (w : World) (R : Ending → World → Prop) : SX.vcFn Try.prog [] Try.f15 [.v (.slice q n c), .v (.agg #[.int .i64 x, .int .i64 y]), .v (.int .i64 level)] [] w R = VCTry15 q n c x y level w R := by kernel_rfl
end Go.Proofs.Ytodgnegbaigdbaa
