/- The conditions of functions, as the executor computes them: each is equal to what 'vcFn' says. -/
import Derived.Test.YtlgkcbdpaffigaaSxLib
import Derived.Test.YtlgkcbdpaffigaaProg
namespace Go.Proofs.Ytlgkcbdpaffigaa
open Go Go.SX Go.Proofs
set_option maxRecDepth 100000
set_option linter.unusedVariables false
def VCTry13 (w : World) (R : Ending → World → Prop) : Prop :=
Known ((w.alloc (Obj.cells #[Value.slice none (0 : Nat) (0 : Nat), Value.slice none (0 : Nat) (0 : Nat), Value.slice none (0 : Nat) (0 : Nat)] (29 : Nat))).alloc (Obj.cells #[Value.int IntKind.u8 (1 : Int)] (5 : Nat)))
  [(w.heap.size, [((0 : Nat), Value.slice none (0 : Nat) (0 : Nat)), ((1 : Nat), Value.slice none (0 : Nat) (0 : Nat)), ((2 : Nat), Value.slice none (0 : Nat) (0 : Nat))])] →
 Rets Try.prog (20 : Nat)
  #[Value.pointer (some { block := w.heap.size, off := (0 : Nat) }), Value.int IntKind.i64 (600 : Int),
   Value.slice (some { block := (w.alloc (Obj.cells #[Value.slice none (0 : Nat) (0 : Nat), Value.slice none (0 : Nat) (0 : Nat), Value.slice none (0 : Nat) (0 : Nat)] (29 : Nat))).heap.size, off := (0 : Nat) })
    (1 : Nat) (1 : Nat)]
  ((w.alloc (Obj.cells #[Value.slice none (0 : Nat) (0 : Nat), Value.slice none (0 : Nat) (0 : Nat), Value.slice none (0 : Nat) (0 : Nat)] (29 : Nat))).alloc (Obj.cells #[Value.int IntKind.u8 (1 : Int)] (5 : Nat)))
  fun (v0 : Value) (w1 : World) =>
  ∃ (i2 : Int),
   v0 = Value.int IntKind.i64 i2 ∧
    Keeps
      ((w.alloc (Obj.cells #[Value.slice none (0 : Nat) (0 : Nat), Value.slice none (0 : Nat) (0 : Nat), Value.slice none (0 : Nat) (0 : Nat)] (29 : Nat))).alloc
       (Obj.cells #[Value.int IntKind.u8 (1 : Int)] (5 : Nat)))
      w1 [] ∧
     ∃ (q3 : Option Addr),
      ∃ (n4 : Nat),
       ∃ (n5 : Nat),
        w1.cell? { block := w.heap.size, off := (0 : Nat) } = some (Value.slice q3 n4 n5) ∧
         w1.frozen? { block := w.heap.size, off := (0 : Nat) } = false ∧
          ∃ (q6 : Option Addr),
           ∃ (n7 : Nat),
            ∃ (n8 : Nat),
             w1.cell? { block := w.heap.size, off := (1 : Nat) } = some (Value.slice q6 n7 n8) ∧
              w1.frozen? { block := w.heap.size, off := (1 : Nat) } = false ∧
               ∃ (q9 : Option Addr),
                ∃ (n10 : Nat),
                 ∃ (n11 : Nat),
                  w1.cell? { block := w.heap.size, off := (2 : Nat) } = some (Value.slice q9 n10 n11) ∧
                   w1.frozen? { block := w.heap.size, off := (2 : Nat) } = false ∧
                    bif i2 == (0 : Int) then
                     Known w1 [(w.heap.size, [((0 : Nat), Value.slice q3 n4 n5), ((1 : Nat), Value.slice q6 n7 n8), ((2 : Nat), Value.slice q9 n10 n11)])] →
                      Rets Try.prog (18 : Nat) #[Value.pointer (some { block := w.heap.size, off := (0 : Nat) })] w1 fun (v12 : Value) (w13 : World) =>
                       ∃ (i14 : Int),
                        v12 = Value.int IntKind.i64 i14 ∧
                         Keeps w1 w13 [] ∧
                          ∃ (q15 : Option Addr),
                           ∃ (n16 : Nat),
                            ∃ (n17 : Nat),
                             w13.cell? { block := w.heap.size, off := (0 : Nat) } = some (Value.slice q15 n16 n17) ∧
                              w13.frozen? { block := w.heap.size, off := (0 : Nat) } = false ∧
                               ∃ (q18 : Option Addr),
                                ∃ (n19 : Nat),
                                 ∃ (n20 : Nat),
                                  w13.cell? { block := w.heap.size, off := (1 : Nat) } = some (Value.slice q18 n19 n20) ∧
                                   w13.frozen? { block := w.heap.size, off := (1 : Nat) } = false ∧
                                    ∃ (q21 : Option Addr),
                                     ∃ (n22 : Nat),
                                      ∃ (n23 : Nat),
                                       w13.cell? { block := w.heap.size, off := (2 : Nat) } = some (Value.slice q21 n22 n23) ∧
                                        w13.frozen? { block := w.heap.size, off := (2 : Nat) } = false ∧
                                         bif i14 == (2 : Int) then
                                          Known w13
                                            [(w.heap.size,
                                              [((0 : Nat), Value.slice q15 n16 n17), ((1 : Nat), Value.slice q18 n19 n20), ((2 : Nat), Value.slice q21 n22 n23)])] →
                                           Rets Try.prog (21 : Nat) #[Value.pointer (some { block := w.heap.size, off := (0 : Nat) })] w13 fun (v24 : Value) (w25 : World) =>
                                            ∃ (i26 : Int),
                                             v24 = Value.int IntKind.i64 i26 ∧
                                              Keeps w13 w25 [] ∧
                                               ∃ (q27 : Option Addr),
                                                ∃ (n28 : Nat),
                                                 ∃ (n29 : Nat),
                                                  w25.cell? { block := w.heap.size, off := (0 : Nat) } = some (Value.slice q27 n28 n29) ∧
                                                   w25.frozen? { block := w.heap.size, off := (0 : Nat) } = false ∧
                                                    ∃ (q30 : Option Addr),
                                                     ∃ (n31 : Nat),
                                                      ∃ (n32 : Nat),
                                                       w25.cell? { block := w.heap.size, off := (1 : Nat) } = some (Value.slice q30 n31 n32) ∧
                                                        w25.frozen? { block := w.heap.size, off := (1 : Nat) } = false ∧
                                                         ∃ (q33 : Option Addr),
                                                          ∃ (n34 : Nat),
                                                           ∃ (n35 : Nat),
                                                            w25.cell? { block := w.heap.size, off := (2 : Nat) } = some (Value.slice q33 n34 n35) ∧
                                                             w25.frozen? { block := w.heap.size, off := (2 : Nat) } = false ∧
                                                              (Known w25
                                                                [(w.heap.size,
                                                                 [((0 : Nat), Value.slice q27 n28 n29), ((1 : Nat), Value.slice q30 n31 n32),
                                                                  ((2 : Nat), Value.slice q33 n34 n35)])] →
                                                               R (Ending.returned (Value.bool (i26 == (1 : Int)))) w25)
                                         else
                                          Known w13
                                            [(w.heap.size,
                                              [((0 : Nat), Value.slice q15 n16 n17), ((1 : Nat), Value.slice q18 n19 n20), ((2 : Nat), Value.slice q21 n22 n23)])] →
                                           R (Ending.returned (Value.bool false)) w13
                    else
                     Known w1 [(w.heap.size, [((0 : Nat), Value.slice q3 n4 n5), ((1 : Nat), Value.slice q6 n7 n8), ((2 : Nat), Value.slice q9 n10 n11)])] → R (Ending.returned (Value.bool false)) w1
theorem vcTry13 (w : World) (R : Ending → World → Prop) : SX.vcFn Try.prog [] Try.f13 [] [] w R = VCTry13  w R := by kernel_rfl
def VCTry14 (d m : Value) (k x : Int) (qb : Option Addr) (nb cb : Nat) (qk : Option Addr) (nk ck : Nat) (fill : Int) (w : World) (R : Ending → World → Prop) : Prop :=
bif k == (0 : Int) then
 Known (w.alloc (Obj.cells #[Value.int IntKind.i64 k, Value.int IntKind.i64 x, Value.slice qb nb cb, Value.slice qk nk ck, Value.int IntKind.u8 fill] (39 : Nat))).drew
   [(w.heap.size, [((0 : Nat), Value.int IntKind.i64 k), ((1 : Nat), Value.int IntKind.i64 x), ((2 : Nat), Value.slice qb nb cb), ((3 : Nat), Value.slice qk nk ck), ((4 : Nat), Value.int IntKind.u8 fill)])] →
  Rets Try.prog (20 : Nat) #[d, Value.int IntKind.i64 x, Value.slice qb nb cb]
   (w.alloc (Obj.cells #[Value.int IntKind.i64 k, Value.int IntKind.i64 x, Value.slice qb nb cb, Value.slice qk nk ck, Value.int IntKind.u8 fill] (39 : Nat))).drew fun (v0 : Value) (w1 : World) =>
   ∃ (i2 : Int),
    v0 = Value.int IntKind.i64 i2 ∧
     Keeps (w.alloc (Obj.cells #[Value.int IntKind.i64 k, Value.int IntKind.i64 x, Value.slice qb nb cb, Value.slice qk nk ck, Value.int IntKind.u8 fill] (39 : Nat))).drew w1 [w.heap.size] ∧
      w1.cell? { block := w.heap.size, off := (2 : Nat) } = some (Value.slice qb nb cb) ∧
       w1.cell? { block := w.heap.size, off := (1 : Nat) } = some (Value.int IntKind.i64 x) ∧
        (Known w1
          [(w.heap.size,
            [((0 : Nat), Value.int IntKind.i64 k), ((1 : Nat), Value.int IntKind.i64 x), ((2 : Nat), Value.slice qb nb cb), ((3 : Nat), Value.slice qk nk ck), ((4 : Nat), Value.int IntKind.u8 fill)])] →
         Rets Try.prog (58 : Nat) #[m, Value.int IntKind.i64 x, Value.slice qb nb cb] w1 fun (v3 : Value) (w4 : World) =>
          ∃ (i5 : Int),
           v3 = Value.int IntKind.i64 i5 ∧
            Keeps w1 w4 [w.heap.size] ∧
             (Known w4
               [(w.heap.size,
                [((0 : Nat), Value.int IntKind.i64 k), ((1 : Nat), Value.int IntKind.i64 x), ((2 : Nat), Value.slice qb nb cb), ((3 : Nat), Value.slice qk nk ck),
                 ((4 : Nat), Value.int IntKind.u8 fill)])] →
              R (Ending.returned (Value.bool (i2 == i5))) w4))
else
 bif k == (1 : Int) then
  Known (w.alloc (Obj.cells #[Value.int IntKind.i64 k, Value.int IntKind.i64 x, Value.slice qb nb cb, Value.slice qk nk ck, Value.int IntKind.u8 fill] (39 : Nat)))
    [(w.heap.size, [((0 : Nat), Value.int IntKind.i64 k), ((1 : Nat), Value.int IntKind.i64 x), ((2 : Nat), Value.slice qb nb cb), ((3 : Nat), Value.slice qk nk ck), ((4 : Nat), Value.int IntKind.u8 fill)])] →
   Rets Try.prog (16 : Nat) #[d] (w.alloc (Obj.cells #[Value.int IntKind.i64 k, Value.int IntKind.i64 x, Value.slice qb nb cb, Value.slice qk nk ck, Value.int IntKind.u8 fill] (39 : Nat)))
    fun (v6 : Value) (w7 : World) =>
    v6 = Value.tuple #[] ∧
     Keeps (w.alloc (Obj.cells #[Value.int IntKind.i64 k, Value.int IntKind.i64 x, Value.slice qb nb cb, Value.slice qk nk ck, Value.int IntKind.u8 fill] (39 : Nat))) w7 [w.heap.size] ∧
      (Known w7
        [(w.heap.size,
          [((0 : Nat), Value.int IntKind.i64 k), ((1 : Nat), Value.int IntKind.i64 x), ((2 : Nat), Value.slice qb nb cb), ((3 : Nat), Value.slice qk nk ck), ((4 : Nat), Value.int IntKind.u8 fill)])] →
       Rets Try.prog (59 : Nat) #[m] w7 fun (v8 : Value) (w9 : World) =>
        v8 = Value.tuple #[] ∧
         Keeps w7 w9 [w.heap.size] ∧
          (Known w9
            [(w.heap.size,
              [((0 : Nat), Value.int IntKind.i64 k), ((1 : Nat), Value.int IntKind.i64 x), ((2 : Nat), Value.slice qb nb cb), ((3 : Nat), Value.slice qk nk ck), ((4 : Nat), Value.int IntKind.u8 fill)])] →
           R (Ending.returned (Value.bool true)) w9))
 else
  Known (w.alloc (Obj.cells #[Value.int IntKind.i64 k, Value.int IntKind.i64 x, Value.slice qb nb cb, Value.slice qk nk ck, Value.int IntKind.u8 fill] (39 : Nat)))
    [(w.heap.size, [((0 : Nat), Value.int IntKind.i64 k), ((1 : Nat), Value.int IntKind.i64 x), ((2 : Nat), Value.slice qb nb cb), ((3 : Nat), Value.slice qk nk ck), ((4 : Nat), Value.int IntKind.u8 fill)])] →
   Rets Try.prog (19 : Nat) #[d, Value.slice qk nk ck, Value.int IntKind.u8 fill]
    (w.alloc (Obj.cells #[Value.int IntKind.i64 k, Value.int IntKind.i64 x, Value.slice qb nb cb, Value.slice qk nk ck, Value.int IntKind.u8 fill] (39 : Nat))) fun (v10 : Value) (w11 : World) =>
    v10 = Value.tuple #[] ∧
     Keeps (w.alloc (Obj.cells #[Value.int IntKind.i64 k, Value.int IntKind.i64 x, Value.slice qb nb cb, Value.slice qk nk ck, Value.int IntKind.u8 fill] (39 : Nat))) w11 [w.heap.size] ∧
      (Known w11
        [(w.heap.size,
          [((0 : Nat), Value.int IntKind.i64 k), ((1 : Nat), Value.int IntKind.i64 x), ((2 : Nat), Value.slice qb nb cb), ((3 : Nat), Value.slice qk nk ck), ((4 : Nat), Value.int IntKind.u8 fill)])] →
       Rets Try.prog (60 : Nat) #[m, Value.slice qk nk ck, Value.int IntKind.u8 fill] w11 fun (v12 : Value) (w13 : World) =>
        v12 = Value.tuple #[] ∧
         Keeps w11 w13 [w.heap.size] ∧
          (Known w13
            [(w.heap.size,
              [((0 : Nat), Value.int IntKind.i64 k), ((1 : Nat), Value.int IntKind.i64 x), ((2 : Nat), Value.slice qb nb cb), ((3 : Nat), Value.slice qk nk ck), ((4 : Nat), Value.int IntKind.u8 fill)])] →
           R (Ending.returned (Value.bool true)) w13))
theorem vcTry14 (d m : Value) (k x : Int) (qb : Option Addr) (nb cb : Nat) (qk : Option Addr) (nk ck : Nat) (fill : Int) (w : World) (R : Ending → World → Prop) : SX.vcFn Try.prog [] Try.f14 [.v d, .v m, .v (.agg #[.int .i64 k, .int .i64 x, .slice qb nb cb, .slice qk nk ck, .int .u8 fill])] [] w R = VCTry14 d m k x qb nb cb qk nk ck fill w R := by kernel_rfl
def VCTry3 (p0 : Option Addr) (n0 c0 : Nat) (w : World) (R : Ending → World → Prop) : Prop :=
Rets Try.prog (12 : Nat) #[Value.slice p0 n0 c0] w fun (v0 : Value) (w1 : World) =>
 ∃ (t2 : Bool),
  v0 = Value.bool t2 ∧
   Keeps w w1 [] ∧
    bif !t2 then Rets Try.prog (13 : Nat) #[] w1 fun (v3 : Value) (w4 : World) => ∃ (t5 : Bool), v3 = Value.bool t5 ∧ Keeps w1 w4 [] ∧ R (Ending.returned (Value.bool t5)) w4
    else
     ∃ (I6 : Int → Option Addr → Nat → Nat → Option Addr → Nat → Nat → Option Addr → Nat → Nat → Option Addr → Nat → Nat → Option Addr → Nat → Nat → Option Addr → Nat → Nat → Option Addr → Nat → Nat → World → Prop),
      ∃ (I7 :
       Int → Option Addr → Nat → Nat → Option Addr → Nat → Nat → Option Addr → Nat → Nat → Option Addr → Nat → Nat → Option Addr → Nat → Nat → Option Addr → Nat → Nat → Option Addr → Nat → Nat → World → Nat),
       I6 (0 : Int) none (0 : Nat) (0 : Nat) none (0 : Nat) (0 : Nat) none (0 : Nat) (0 : Nat) none (0 : Nat) (0 : Nat) none (0 : Nat) (0 : Nat) none (0 : Nat) (0 : Nat) none (0 : Nat) (0 : Nat)
         ((w1.alloc (Obj.cells #[Value.slice none (0 : Nat) (0 : Nat), Value.slice none (0 : Nat) (0 : Nat), Value.slice none (0 : Nat) (0 : Nat)] (29 : Nat))).alloc
          (Obj.cells #[Value.slice none (0 : Nat) (0 : Nat), Value.slice none (0 : Nat) (0 : Nat), Value.slice none (0 : Nat) (0 : Nat), Value.slice none (0 : Nat) (0 : Nat)] (34 : Nat))) ∧
        ∀ (i8 : Int) (q9 : Option Addr) (n10 n11 : Nat) (q12 : Option Addr) (n13 n14 : Nat) (q15 : Option Addr) (n16 n17 : Nat) (q18 : Option Addr) (n19 n20 : Nat) (q21 : Option Addr) (n22 n23 : Nat)
         (q24 : Option Addr) (n25 n26 : Nat) (q27 : Option Addr) (n28 n29 : Nat) (w30 : World),
         I6 i8 q9 n10 n11 q12 n13 n14 q15 n16 n17 q18 n19 n20 q21 n22 n23 q24 n25 n26 q27 n28 n29 w30 →
          Known w30
            [(w1.heap.size, [((0 : Nat), Value.slice q9 n10 n11), ((1 : Nat), Value.slice q12 n13 n14), ((2 : Nat), Value.slice q15 n16 n17)]),
             ((w1.alloc (Obj.cells #[Value.slice none (0 : Nat) (0 : Nat), Value.slice none (0 : Nat) (0 : Nat), Value.slice none (0 : Nat) (0 : Nat)] (29 : Nat))).heap.size,
              [((0 : Nat), Value.slice q18 n19 n20), ((1 : Nat), Value.slice q21 n22 n23), ((2 : Nat), Value.slice q24 n25 n26), ((3 : Nat), Value.slice q27 n28 n29)])] →
           bif decide (i8 < (↑n0 : Int)) then
            ((0 : Int) ≤ i8 ∧ i8 < (↑n0 : Int)) ∧
             SX.Ptr p0 fun (a31 : Addr) =>
              ∃ (i32 : Int),
               ∃ (i33 : Int),
                ∃ (q34 : Option Addr),
                 ∃ (n35 : Nat),
                  ∃ (n36 : Nat),
                   ∃ (q37 : Option Addr),
                    ∃ (n38 : Nat),
                     ∃ (n39 : Nat),
                      ∃ (i40 : Int),
                       (w30.cell? ((a31.add (i8.toNat * (5 : Nat))).add (0 : Nat)) = some (Value.int IntKind.i64 i32) ∧
                         w30.cell? ((a31.add (i8.toNat * (5 : Nat))).add (1 : Nat)) = some (Value.int IntKind.i64 i33) ∧
                          w30.cell? ((a31.add (i8.toNat * (5 : Nat))).add (2 : Nat)) = some (Value.slice q34 n35 n36) ∧
                           w30.cell? ((a31.add (i8.toNat * (5 : Nat))).add (3 : Nat)) = some (Value.slice q37 n38 n39) ∧
                            w30.cell? ((a31.add (i8.toNat * (5 : Nat))).add (4 : Nat)) = some (Value.int IntKind.u8 i40) ∧ True) ∧
                        (Known w30
                          [(w1.heap.size, [((0 : Nat), Value.slice q9 n10 n11), ((1 : Nat), Value.slice q12 n13 n14), ((2 : Nat), Value.slice q15 n16 n17)]),
                           ((w1.alloc (Obj.cells #[Value.slice none (0 : Nat) (0 : Nat), Value.slice none (0 : Nat) (0 : Nat), Value.slice none (0 : Nat) (0 : Nat)] (29 : Nat))).heap.size,
                            [((0 : Nat), Value.slice q18 n19 n20), ((1 : Nat), Value.slice q21 n22 n23), ((2 : Nat), Value.slice q24 n25 n26), ((3 : Nat), Value.slice q27 n28 n29)])] →
                         Rets Try.prog (14 : Nat)
                          #[Value.pointer (some { block := w1.heap.size, off := (0 : Nat) }),
                           Value.pointer
                            (some
                             {
                              block :=
                               (w1.alloc
                                  (Obj.cells #[Value.slice none (0 : Nat) (0 : Nat), Value.slice none (0 : Nat) (0 : Nat), Value.slice none (0 : Nat) (0 : Nat)] (29 : Nat))).heap.size,
                              off := (0 : Nat) }),
                           Value.agg #[Value.int IntKind.i64 i32, Value.int IntKind.i64 i33, Value.slice q34 n35 n36, Value.slice q37 n38 n39, Value.int IntKind.u8 i40]]
                          w30 fun (v41 : Value) (w42 : World) =>
                          ∃ (t43 : Bool),
                           v41 = Value.bool t43 ∧
                            Keeps w30 w42 [] ∧
                             ∃ (q44 : Option Addr),
                              ∃ (n45 : Nat),
                               ∃ (n46 : Nat),
                                w42.cell? { block := w1.heap.size, off := (0 : Nat) } = some (Value.slice q44 n45 n46) ∧
                                 w42.frozen? { block := w1.heap.size, off := (0 : Nat) } = false ∧
                                  ∃ (q47 : Option Addr),
                                   ∃ (n48 : Nat),
                                    ∃ (n49 : Nat),
                                     w42.cell? { block := w1.heap.size, off := (1 : Nat) } = some (Value.slice q47 n48 n49) ∧
                                      w42.frozen? { block := w1.heap.size, off := (1 : Nat) } = false ∧
                                       ∃ (q50 : Option Addr),
                                        ∃ (n51 : Nat),
                                         ∃ (n52 : Nat),
                                          w42.cell? { block := w1.heap.size, off := (2 : Nat) } = some (Value.slice q50 n51 n52) ∧
                                           w42.frozen? { block := w1.heap.size, off := (2 : Nat) } = false ∧
                                            ∃ (q53 : Option Addr),
                                             ∃ (n54 : Nat),
                                              ∃ (n55 : Nat),
                                               w42.cell?
                                                  {
                                                   block :=
                                                    (w1.alloc
                                                       (Obj.cells
                                                        #[Value.slice none (0 : Nat) (0 : Nat), Value.slice none (0 : Nat) (0 : Nat),
                                                         Value.slice none (0 : Nat) (0 : Nat)]
                                                        (29 : Nat))).heap.size,
                                                   off := (0 : Nat) } =
                                                 some (Value.slice q53 n54 n55) ∧
                                                w42.frozen?
                                                   {
                                                    block :=
                                                     (w1.alloc
                                                        (Obj.cells
                                                         #[Value.slice none (0 : Nat) (0 : Nat), Value.slice none (0 : Nat) (0 : Nat),
                                                          Value.slice none (0 : Nat) (0 : Nat)]
                                                         (29 : Nat))).heap.size,
                                                    off := (0 : Nat) } =
                                                  false ∧
                                                 ∃ (q56 : Option Addr),
                                                  ∃ (n57 : Nat),
                                                   ∃ (n58 : Nat),
                                                    w42.cell?
                                                       {
                                                        block :=
                                                         (w1.alloc
                                                            (Obj.cells
                                                             #[Value.slice none (0 : Nat) (0 : Nat), Value.slice none (0 : Nat) (0 : Nat),
                                                              Value.slice none (0 : Nat) (0 : Nat)]
                                                             (29 : Nat))).heap.size,
                                                        off := (1 : Nat) } =
                                                      some (Value.slice q56 n57 n58) ∧
                                                     w42.frozen?
                                                        {
                                                         block :=
                                                          (w1.alloc
                                                             (Obj.cells
                                                              #[Value.slice none (0 : Nat) (0 : Nat), Value.slice none (0 : Nat) (0 : Nat),
                                                               Value.slice none (0 : Nat) (0 : Nat)]
                                                              (29 : Nat))).heap.size,
                                                         off := (1 : Nat) } =
                                                       false ∧
                                                      ∃ (q59 : Option Addr),
                                                       ∃ (n60 : Nat),
                                                        ∃ (n61 : Nat),
                                                         w42.cell?
                                                            {
                                                             block :=
                                                              (w1.alloc
                                                                 (Obj.cells
                                                                  #[Value.slice none (0 : Nat) (0 : Nat), Value.slice none (0 : Nat) (0 : Nat),
                                                                   Value.slice none (0 : Nat) (0 : Nat)]
                                                                  (29 : Nat))).heap.size,
                                                             off := (2 : Nat) } =
                                                           some (Value.slice q59 n60 n61) ∧
                                                          w42.frozen?
                                                             {
                                                              block :=
                                                               (w1.alloc
                                                                  (Obj.cells
                                                                   #[Value.slice none (0 : Nat) (0 : Nat), Value.slice none (0 : Nat) (0 : Nat),
                                                                    Value.slice none (0 : Nat) (0 : Nat)]
                                                                   (29 : Nat))).heap.size,
                                                              off := (2 : Nat) } =
                                                            false ∧
                                                           ∃ (q62 : Option Addr),
                                                            ∃ (n63 : Nat),
                                                             ∃ (n64 : Nat),
                                                              w42.cell?
                                                                 {
                                                                  block :=
                                                                   (w1.alloc
                                                                      (Obj.cells
                                                                       #[Value.slice none (0 : Nat) (0 : Nat), Value.slice none (0 : Nat) (0 : Nat),
                                                                        Value.slice none (0 : Nat) (0 : Nat)]
                                                                       (29 : Nat))).heap.size,
                                                                  off := (3 : Nat) } =
                                                                some (Value.slice q62 n63 n64) ∧
                                                               w42.frozen?
                                                                  {
                                                                   block :=
                                                                    (w1.alloc
                                                                       (Obj.cells
                                                                        #[Value.slice none (0 : Nat) (0 : Nat),
                                                                         Value.slice none (0 : Nat) (0 : Nat),
                                                                         Value.slice none (0 : Nat) (0 : Nat)]
                                                                        (29 : Nat))).heap.size,
                                                                   off := (3 : Nat) } =
                                                                 false ∧
                                                                bif !t43 then
                                                                 Known w42
                                                                   [(w1.heap.size,
                                                                     [((0 : Nat), Value.slice q44 n45 n46), ((1 : Nat), Value.slice q47 n48 n49),
                                                                      ((2 : Nat), Value.slice q50 n51 n52)]),
                                                                    ((w1.alloc
                                                                        (Obj.cells
                                                                         #[Value.slice none (0 : Nat) (0 : Nat),
                                                                          Value.slice none (0 : Nat) (0 : Nat),
                                                                          Value.slice none (0 : Nat) (0 : Nat)]
                                                                         (29 : Nat))).heap.size,
                                                                     [((0 : Nat), Value.slice q53 n54 n55), ((1 : Nat), Value.slice q56 n57 n58),
                                                                      ((2 : Nat), Value.slice q59 n60 n61), ((3 : Nat), Value.slice q62 n63 n64)])] →
                                                                  R (Ending.returned (Value.bool false)) w42
                                                                else
                                                                 Known w42
                                                                   [(w1.heap.size,
                                                                     [((0 : Nat), Value.slice q44 n45 n46), ((1 : Nat), Value.slice q47 n48 n49),
                                                                      ((2 : Nat), Value.slice q50 n51 n52)]),
                                                                    ((w1.alloc
                                                                        (Obj.cells
                                                                         #[Value.slice none (0 : Nat) (0 : Nat),
                                                                          Value.slice none (0 : Nat) (0 : Nat),
                                                                          Value.slice none (0 : Nat) (0 : Nat)]
                                                                         (29 : Nat))).heap.size,
                                                                     [((0 : Nat), Value.slice q53 n54 n55), ((1 : Nat), Value.slice q56 n57 n58),
                                                                      ((2 : Nat), Value.slice q59 n60 n61), ((3 : Nat), Value.slice q62 n63 n64)])] →
                                                                  Rets Try.prog (15 : Nat)
                                                                   #[Value.pointer (some { block := w1.heap.size, off := (0 : Nat) }),
                                                                    Value.pointer
                                                                     (some
                                                                      {
                                                                       block :=
                                                                        (w1.alloc
                                                                           (Obj.cells
                                                                            #[Value.slice none (0 : Nat) (0 : Nat),
                                                                             Value.slice none (0 : Nat) (0 : Nat),
                                                                             Value.slice none (0 : Nat) (0 : Nat)]
                                                                            (29 : Nat))).heap.size,
                                                                       off := (0 : Nat) })]
                                                                   w42 fun (v65 : Value) (w66 : World) =>
                                                                   ∃ (t67 : Bool),
                                                                    v65 = Value.bool t67 ∧
                                                                     Keeps w42 w66 [] ∧
                                                                      ∃ (q68 : Option Addr),
                                                                       ∃ (n69 : Nat),
                                                                        ∃ (n70 : Nat),
                                                                         w66.cell? { block := w1.heap.size, off := (0 : Nat) } =
                                                                           some (Value.slice q68 n69 n70) ∧
                                                                          w66.frozen? { block := w1.heap.size, off := (0 : Nat) } = false ∧
                                                                           ∃ (q71 : Option Addr),
                                                                            ∃ (n72 : Nat),
                                                                             ∃ (n73 : Nat),
                                                                              w66.cell? { block := w1.heap.size, off := (1 : Nat) } =
                                                                                some (Value.slice q71 n72 n73) ∧
                                                                               w66.frozen? { block := w1.heap.size, off := (1 : Nat) } =
                                                                                 false ∧
                                                                                ∃ (q74 : Option Addr),
                                                                                 ∃ (n75 : Nat),
                                                                                  ∃ (n76 : Nat),
                                                                                   w66.cell?
                                                                                      {block := w1.heap.size, off := (2 : Nat) } =
                                                                                     some (Value.slice q74 n75 n76) ∧
                                                                                    w66.frozen?
                                                                                       {block := w1.heap.size, off := (2 : Nat) } =
                                                                                      false ∧
                                                                                     ∃ (q77 : Option Addr),
                                                                                      ∃ (n78 : Nat),
                                                                                       ∃ (n79 : Nat),
                                                                                        w66.cell?
                                                                                           {
                                                                                            block :=
                                                                                             (w1.alloc
                                                                                                (Obj.cells
                                                                                                 #[Value.slice none
                                                                                                   (0 : Nat) (0 : Nat),
                                                                                                  Value.slice none
                                                                                                   (0 : Nat) (0 : Nat),
                                                                                                  Value.slice none
                                                                                                   (0 : Nat) (0 : Nat)]
                                                                                                 (29 : Nat))).heap.size,
                                                                                            off := (0 : Nat) } =
                                                                                          some (Value.slice q77 n78 n79) ∧
                                                                                         w66.frozen?
                                                                                            {
                                                                                             block :=
                                                                                              (w1.alloc
                                                                                                 (Obj.cells
                                                                                                  #[Value.slice none
                                                                                                    (0 : Nat) (0 : Nat),
                                                                                                   Value.slice none
                                                                                                    (0 : Nat) (0 : Nat),
                                                                                                   Value.slice none
                                                                                                    (0 : Nat) (0 : Nat)]
                                                                                                  (29 : Nat))).heap.size,
                                                                                             off := (0 : Nat) } =
                                                                                           false ∧
                                                                                          ∃ (q80 : Option Addr),
                                                                                           ∃ (n81 : Nat),
                                                                                            ∃ (n82 : Nat),
                                                                                             w66.cell?
                                                                                                {
                                                                                                 block :=
                                                                                                  (w1.alloc
                                                                                                     (Obj.cells
                                                                                                      #[Value.slice
                                                                                                        none
                                                                                                        (0 : Nat)
                                                                                                        (0 : Nat),
                                                                                                       Value.slice
                                                                                                        none
                                                                                                        (0 : Nat)
                                                                                                        (0 : Nat),
                                                                                                       Value.slice
                                                                                                        none
                                                                                                        (0 : Nat)
                                                                                                        (0 : Nat)]
                                                                                                      (29 :
                                                                                                       Nat))).heap.size,
                                                                                                 off := (1 : Nat) } =
                                                                                               some
                                                                                                (Value.slice q80 n81 n82) ∧
                                                                                              w66.frozen?
                                                                                                 {
                                                                                                  block :=
                                                                                                   (w1.alloc
                                                                                                      (Obj.cells
                                                                                                       #[Value.slice
                                                                                                         none
                                                                                                         (0 : Nat)
                                                                                                         (0 : Nat),
                                                                                                        Value.slice
                                                                                                         none
                                                                                                         (0 : Nat)
                                                                                                         (0 : Nat),
                                                                                                        Value.slice
                                                                                                         none
                                                                                                         (0 : Nat)
                                                                                                         (0 : Nat)]
                                                                                                       (29 :
                                                                                                        Nat))).heap.size,
                                                                                                  off := (1 : Nat) } =
                                                                                                false ∧
                                                                                               ∃ (q83 : Option Addr),
                                                                                                ∃ (n84 : Nat),
                                                                                                 ∃ (n85 : Nat),
                                                                                                  w66.cell?
                                                                                                     {
                                                                                                      block :=
                                                                                                       (w1.alloc
                                                                                                          (Obj.cells
                                                                                                           #[Value.slice
                                                                                                             none
                                                                                                             (0 :
                                                                                                              Nat)
                                                                                                             (0 :
                                                                                                              Nat),
                                                                                                            Value.slice
                                                                                                             none
                                                                                                             (0 :
                                                                                                              Nat)
                                                                                                             (0 :
                                                                                                              Nat),
                                                                                                            Value.slice
                                                                                                             none
                                                                                                             (0 :
                                                                                                              Nat)
                                                                                                             (0 :
                                                                                                              Nat)]
                                                                                                           (29 :
                                                                                                            Nat))).heap.size,
                                                                                                      off :=
                                                                                                       (2 : Nat) } =
                                                                                                    some
                                                                                                     (Value.slice q83
                                                                                                      n84 n85) ∧
                                                                                                   w66.frozen?
                                                                                                      {
                                                                                                       block :=
                                                                                                        (w1.alloc
                                                                                                           (Obj.cells
                                                                                                            #[Value.slice
                                                                                                              none
                                                                                                              (0 :
                                                                                                               Nat)
                                                                                                              (0 :
                                                                                                               Nat),
                                                                                                             Value.slice
                                                                                                              none
                                                                                                              (0 :
                                                                                                               Nat)
                                                                                                              (0 :
                                                                                                               Nat),
                                                                                                             Value.slice
                                                                                                              none
                                                                                                              (0 :
                                                                                                               Nat)
                                                                                                              (0 :
                                                                                                               Nat)]
                                                                                                            (29 :
                                                                                                             Nat))).heap.size,
                                                                                                       off :=
                                                                                                        (2 :
                                                                                                         Nat) } =
                                                                                                     false ∧
                                                                                                    ∃ (q86 :
                                                                                                     Option Addr),
                                                                                                     ∃ (n87 : Nat),
                                                                                                      ∃ (n88 : Nat),
                                                                                                       w66.cell?
                                                                                                          {
                                                                                                           block :=
                                                                                                            (w1.alloc
                                                                                                               (Obj.cells
                                                                                                                #[Value.slice
                                                                                                                  none
                                                                                                                  (0 :
                                                                                                                   Nat)
                                                                                                                  (0 :
                                                                                                                   Nat),
                                                                                                                 Value.slice
                                                                                                                  none
                                                                                                                  (0 :
                                                                                                                   Nat)
                                                                                                                  (0 :
                                                                                                                   Nat),
                                                                                                                 Value.slice
                                                                                                                  none
                                                                                                                  (0 :
                                                                                                                   Nat)
                                                                                                                  (0 :
                                                                                                                   Nat)]
                                                                                                                (29 :
                                                                                                                 Nat))).heap.size,
                                                                                                           off :=
                                                                                                            (3 :
                                                                                                             Nat) } =
                                                                                                         some
                                                                                                          (Value.slice
                                                                                                           q86
                                                                                                           n87
                                                                                                           n88) ∧
                                                                                                        w66.frozen?
                                                                                                           {
                                                                                                            block :=
                                                                                                             (w1.alloc
                                                                                                                (Obj.cells
                                                                                                                 #[Value.slice
                                                                                                                   none
                                                                                                                   (0 :
                                                                                                                    Nat)
                                                                                                                   (0 :
                                                                                                                    Nat),
                                                                                                                  Value.slice
                                                                                                                   none
                                                                                                                   (0 :
                                                                                                                    Nat)
                                                                                                                   (0 :
                                                                                                                    Nat),
                                                                                                                  Value.slice
                                                                                                                   none
                                                                                                                   (0 :
                                                                                                                    Nat)
                                                                                                                   (0 :
                                                                                                                    Nat)]
                                                                                                                 (29 :
                                                                                                                  Nat))).heap.size,
                                                                                                            off :=
                                                                                                             (3 :
                                                                                                              Nat) } =
                                                                                                          false ∧
                                                                                                         bif
                                                                                                           !t67 then
                                                                                                          Known
                                                                                                            w66
                                                                                                            [(w1.heap.size,
                                                                                                              [((0 :
                                                                                                                 Nat),
                                                                                                                Value.slice
                                                                                                                 q68
                                                                                                                 n69
                                                                                                                 n70),
                                                                                                               ((1 :
                                                                                                                 Nat),
                                                                                                                Value.slice
                                                                                                                 q71
                                                                                                                 n72
                                                                                                                 n73),
                                                                                                               ((2 :
                                                                                                                 Nat),
                                                                                                                Value.slice
                                                                                                                 q74
                                                                                                                 n75
                                                                                                                 n76)]),
                                                                                                             ((w1.alloc
                                                                                                                 (Obj.cells
                                                                                                                  #[Value.slice
                                                                                                                    none
                                                                                                                    (0 :
                                                                                                                     Nat)
                                                                                                                    (0 :
                                                                                                                     Nat),
                                                                                                                   Value.slice
                                                                                                                    none
                                                                                                                    (0 :
                                                                                                                     Nat)
                                                                                                                    (0 :
                                                                                                                     Nat),
                                                                                                                   Value.slice
                                                                                                                    none
                                                                                                                    (0 :
                                                                                                                     Nat)
                                                                                                                    (0 :
                                                                                                                     Nat)]
                                                                                                                  (29 :
                                                                                                                   Nat))).heap.size,
                                                                                                              [((0 :
                                                                                                                 Nat),
                                                                                                                Value.slice
                                                                                                                 q77
                                                                                                                 n78
                                                                                                                 n79),
                                                                                                               ((1 :
                                                                                                                 Nat),
                                                                                                                Value.slice
                                                                                                                 q80
                                                                                                                 n81
                                                                                                                 n82),
                                                                                                               ((2 :
                                                                                                                 Nat),
                                                                                                                Value.slice
                                                                                                                 q83
                                                                                                                 n84
                                                                                                                 n85),
                                                                                                               ((3 :
                                                                                                                 Nat),
                                                                                                                Value.slice
                                                                                                                 q86
                                                                                                                 n87
                                                                                                                 n88)])] →
                                                                                                           R
                                                                                                            (Ending.returned
                                                                                                             (Value.bool
                                                                                                              false))
                                                                                                            w66
                                                                                                         else
                                                                                                          Wr
                                                                                                           IntKind.i64
                                                                                                           (i8 +
                                                                                                            (1 :
                                                                                                             Int))
                                                                                                           fun
                                                                                                            (i89 :
                                                                                                             Int) =>
                                                                                                           I6 i89
                                                                                                             q68
                                                                                                             n69
                                                                                                             n70
                                                                                                             q71
                                                                                                             n72
                                                                                                             n73
                                                                                                             q74
                                                                                                             n75
                                                                                                             n76
                                                                                                             q77
                                                                                                             n78
                                                                                                             n79
                                                                                                             q80
                                                                                                             n81
                                                                                                             n82
                                                                                                             q83
                                                                                                             n84
                                                                                                             n85
                                                                                                             q86
                                                                                                             n87
                                                                                                             n88
                                                                                                             w66 ∧
                                                                                                            I7
                                                                                                              i89
                                                                                                              q68
                                                                                                              n69
                                                                                                              n70
                                                                                                              q71
                                                                                                              n72
                                                                                                              n73
                                                                                                              q74
                                                                                                              n75
                                                                                                              n76
                                                                                                              q77
                                                                                                              n78
                                                                                                              n79
                                                                                                              q80
                                                                                                              n81
                                                                                                              n82
                                                                                                              q83
                                                                                                              n84
                                                                                                              n85
                                                                                                              q86
                                                                                                              n87
                                                                                                              n88
                                                                                                              w66 <
                                                                                                             I7
                                                                                                              i8
                                                                                                              q9
                                                                                                              n10
                                                                                                              n11
                                                                                                              q12
                                                                                                              n13
                                                                                                              n14
                                                                                                              q15
                                                                                                              n16
                                                                                                              n17
                                                                                                              q18
                                                                                                              n19
                                                                                                              n20
                                                                                                              q21
                                                                                                              n22
                                                                                                              n23
                                                                                                              q24
                                                                                                              n25
                                                                                                              n26
                                                                                                              q27
                                                                                                              n28
                                                                                                              n29
                                                                                                              w30)
           else
            Known w30
              [(w1.heap.size, [((0 : Nat), Value.slice q9 n10 n11), ((1 : Nat), Value.slice q12 n13 n14), ((2 : Nat), Value.slice q15 n16 n17)]),
               ((w1.alloc (Obj.cells #[Value.slice none (0 : Nat) (0 : Nat), Value.slice none (0 : Nat) (0 : Nat), Value.slice none (0 : Nat) (0 : Nat)] (29 : Nat))).heap.size,
                [((0 : Nat), Value.slice q18 n19 n20), ((1 : Nat), Value.slice q21 n22 n23), ((2 : Nat), Value.slice q24 n25 n26), ((3 : Nat), Value.slice q27 n28 n29)])] →
             Rets Try.prog (13 : Nat) #[] w30 fun (v90 : Value) (w91 : World) =>
              ∃ (t92 : Bool),
               v90 = Value.bool t92 ∧
                Keeps w30 w91
                  [w1.heap.size, (w1.alloc (Obj.cells #[Value.slice none (0 : Nat) (0 : Nat), Value.slice none (0 : Nat) (0 : Nat), Value.slice none (0 : Nat) (0 : Nat)] (29 : Nat))).heap.size] ∧
                 (Known w91
                   [(w1.heap.size, [((0 : Nat), Value.slice q9 n10 n11), ((1 : Nat), Value.slice q12 n13 n14), ((2 : Nat), Value.slice q15 n16 n17)]),
                    ((w1.alloc (Obj.cells #[Value.slice none (0 : Nat) (0 : Nat), Value.slice none (0 : Nat) (0 : Nat), Value.slice none (0 : Nat) (0 : Nat)] (29 : Nat))).heap.size,
                     [((0 : Nat), Value.slice q18 n19 n20), ((1 : Nat), Value.slice q21 n22 n23), ((2 : Nat), Value.slice q24 n25 n26), ((3 : Nat), Value.slice q27 n28 n29)])] →
                  R (Ending.returned (Value.bool t92)) w91)
theorem vcTry3 (p0 : Option Addr) (n0 c0 : Nat) (w : World) (R : Ending → World → Prop) : SX.vcFn Try.prog [(6, ⟨[(5, .int .i64)], [3, 4, 0], [(0, 0, .slice), (0, 1, .slice), (0, 2, .slice), (1, 0, .slice), (1, 1, .slice), (1, 2, .slice), (1, 3, .slice)]⟩)] Try.f3 [.v (.slice p0 n0 c0)] [] w R = VCTry3 p0 n0 c0 w R := by kernel_rfl
end Go.Proofs.Ytlgkcbdpaffigaa
