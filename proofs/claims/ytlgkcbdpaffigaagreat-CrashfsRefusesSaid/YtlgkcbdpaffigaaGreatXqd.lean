/- What the row needs, part 4. -/
import Derived.Test.YtlgkcbdpaffigaaGreatProg
import Derived.Test.YtlgkcbdpaffigaaGreatXqc
namespace Go.Proofs.YtlgkcbdpaffigaaGreat
open Go Go.SX Go.Proofs
set_option maxRecDepth 100000
set_option linter.unusedVariables false
def VCTryz50 (p0 : Option Addr) (w : World) (R : Ending → World → Prop) : Prop :=
bif p0.isNone then R (Ending.returned (Value.tuple #[])) w
else
 SX.Ptr p0 fun (a0 : Addr) =>
  ∃ (q1 : Option Addr),
   ∃ (n2 : Nat),
    ∃ (n3 : Nat),
     w.cell? (a0.add (1 : Nat)) = some (Value.slice q1 n2 n3) ∧
      ∃ (I4 : Int → World → Prop),
       ∃ (I5 : Int → World → Nat),
        I4 (0 : Int) w ∧
         ∀ (i6 : Int) (w7 : World),
          I4 i6 w7 →
           bif decide (i6 < (↑n2 : Int)) then
            SX.Ptr p0 fun (a8 : Addr) =>
             ∃ (q9 : Option Addr),
              ∃ (n10 : Nat),
               ∃ (n11 : Nat),
                w7.drew.cell? (a8.add (1 : Nat)) = some (Value.slice q9 n10 n11) ∧
                 (Runs Tryz.prog (Instr.buildSlice (30 : Nat) (0 : Nat) #[]) w7.drew fun (v12 : Value) (w13 : World) =>
                   ∃ (q14 : Option Addr),
                    ∃ (n15 : Nat),
                     ∃ (n16 : Nat),
                      v12 = Value.slice q14 n15 n16 ∧
                       Keeps w7.drew w13 [] ∧
                        w13.cell? (a8.add (1 : Nat)) = some (Value.slice q9 n10 n11) ∧
                         Rets Tryz.prog (75 : Nat) #[Value.pointer p0, Value.int IntKind.i64 i6] w13 fun (v17 : Value) (w18 : World) =>
                          ∃ (q19 : Option Addr),
                           ∃ (n20 : Nat),
                            ∃ (n21 : Nat),
                             v17 = Value.slice q19 n20 n21 ∧
                              Keeps w13 w18 [] ∧
                               w18.cell? (a8.add (1 : Nat)) = some (Value.slice q9 n10 n11) ∧
                                Runs Tryz.prog (Builtin.append_ #[(30 : Nat), (30 : Nat)] (30 : Nat) #[Value.slice q14 n15 n16, Value.slice q19 n20 n21]) w18
                                 fun (v22 : Value) (w23 : World) =>
                                 ∃ (q24 : Option Addr),
                                  ∃ (n25 : Nat),
                                   ∃ (n26 : Nat),
                                    v22 = Value.slice q24 n25 n26 ∧
                                     Keeps w18 w23 [] ∧
                                      w23.cell? (a8.add (1 : Nat)) = some (Value.slice q9 n10 n11) ∧
                                       ((0 : Int) ≤ i6 ∧ i6 < (↑n10 : Int)) ∧
                                        SX.Ptr q9 fun (a27 : Addr) =>
                                         (∃ (v28 : Value), w23.cell? ((a27.add (i6.toNat * (1 : Nat))).add (0 : Nat)) = some v28) ∧
                                          w23.frozen? ((a27.add (i6.toNat * (1 : Nat))).add (0 : Nat)) = false ∧
                                           Wr IntKind.i64 (i6 + (1 : Int)) fun (i29 : Int) =>
                                            I4 i29 (w23.setCell ((a27.add (i6.toNat * (1 : Nat))).add (0 : Nat)) (Value.slice q24 n25 n26)) ∧
                                             I5 i29 (w23.setCell ((a27.add (i6.toNat * (1 : Nat))).add (0 : Nat)) (Value.slice q24 n25 n26)) < I5 i6 w7) ∧
                  Rets Tryz.prog (75 : Nat) #[Value.pointer p0, Value.int IntKind.i64 i6] w7.drew fun (v30 : Value) (w31 : World) =>
                   ∃ (q32 : Option Addr),
                    ∃ (n33 : Nat),
                     ∃ (n34 : Nat),
                      v30 = Value.slice q32 n33 n34 ∧
                       Keeps w7.drew w31 [] ∧
                        w31.cell? (a8.add (1 : Nat)) = some (Value.slice q9 n10 n11) ∧
                         Runs Tryz.prog (Instr.buildSlice (30 : Nat) (0 : Nat) #[]) w31 fun (v35 : Value) (w36 : World) =>
                          ∃ (q37 : Option Addr),
                           ∃ (n38 : Nat),
                            ∃ (n39 : Nat),
                             v35 = Value.slice q37 n38 n39 ∧
                              Keeps w31 w36 [] ∧
                               w36.cell? (a8.add (1 : Nat)) = some (Value.slice q9 n10 n11) ∧
                                Runs Tryz.prog (Builtin.append_ #[(30 : Nat), (30 : Nat)] (30 : Nat) #[Value.slice q37 n38 n39, Value.slice q32 n33 n34]) w36
                                 fun (v40 : Value) (w41 : World) =>
                                 ∃ (q42 : Option Addr),
                                  ∃ (n43 : Nat),
                                   ∃ (n44 : Nat),
                                    v40 = Value.slice q42 n43 n44 ∧
                                     Keeps w36 w41 [] ∧
                                      w41.cell? (a8.add (1 : Nat)) = some (Value.slice q9 n10 n11) ∧
                                       ((0 : Int) ≤ i6 ∧ i6 < (↑n10 : Int)) ∧
                                        SX.Ptr q9 fun (a45 : Addr) =>
                                         (∃ (v46 : Value), w41.cell? ((a45.add (i6.toNat * (1 : Nat))).add (0 : Nat)) = some v46) ∧
                                          w41.frozen? ((a45.add (i6.toNat * (1 : Nat))).add (0 : Nat)) = false ∧
                                           Wr IntKind.i64 (i6 + (1 : Int)) fun (i47 : Int) =>
                                            I4 i47 (w41.setCell ((a45.add (i6.toNat * (1 : Nat))).add (0 : Nat)) (Value.slice q42 n43 n44)) ∧
                                             I5 i47 (w41.setCell ((a45.add (i6.toNat * (1 : Nat))).add (0 : Nat)) (Value.slice q42 n43 n44)) < I5 i6 w7
           else
            SX.Ptr p0 fun (a48 : Addr) =>
             (∃ (v49 : Value), w7.cell? ((a48.add (2 : Nat)).add (0 : Nat)) = some v49) ∧
              w7.frozen? ((a48.add (2 : Nat)).add (0 : Nat)) = false ∧ R (Ending.returned (Value.tuple #[])) (w7.setCell ((a48.add (2 : Nat)).add (0 : Nat)) (Value.slice none (0 : Nat) (0 : Nat)))
theorem vcTryz50 (p0 : Option Addr) (w : World) (R : Ending → World → Prop) : SX.vcFn Tryz.prog [(2, ⟨[(10, .int .i64)], [0, 9], []⟩)] Tryz.f50 [.v (.pointer p0)] [] w R = VCTryz50 p0 w R := by kernel_rfl
def VCTryz64 (p0 : Option Addr) (p1 : Int) (p2 : Int) (w : World) (R : Ending → World → Prop) : Prop :=
bif p0.isNone then R (Ending.returned (Value.tuple #[Value.slice none (0 : Nat) (0 : Nat), Value.int IntKind.i64 (1 : Int)])) w
else
 Rets Tryz.prog (72 : Nat) #[Value.int IntKind.i64 p1, Value.int IntKind.i64 p2] w fun (v0 : Value) (w1 : World) =>
  ∃ (t2 : Bool),
   v0 = Value.bool t2 ∧
    Keeps w w1 [] ∧
     bif !t2 then R (Ending.returned (Value.tuple #[Value.slice none (0 : Nat) (0 : Nat), Value.int IntKind.i64 (1 : Int)])) w1
     else
      Runs Tryz.prog (Instr.makeSlice (30 : Nat) (Value.int IntKind.i64 p2) (Value.int IntKind.i64 p2)) w1 fun (v3 : Value) (w4 : World) =>
       ∃ (q5 : Option Addr),
        ∃ (n6 : Nat),
         ∃ (n7 : Nat),
          v3 = Value.slice q5 n6 n7 ∧
           Keeps w1 w4 [] ∧
            SX.Ptr p0 fun (a8 : Addr) =>
             ∃ (q9 : Option Addr),
              ∃ (n10 : Nat),
               ∃ (n11 : Nat),
                w4.cell? (a8.add (0 : Nat)) = some (Value.slice q9 n10 n11) ∧
                 bif decide (p1 < (↑n10 : Int)) then
                  SX.Ptr p0 fun (a12 : Addr) =>
                   ∃ (q13 : Option Addr),
                    ∃ (n14 : Nat),
                     ∃ (n15 : Nat),
                      w4.cell? (a12.add (0 : Nat)) = some (Value.slice q13 n14 n15) ∧
                       ((0 : Int) ≤ p1 ∧ p1 ≤ (↑n14 : Int)) ∧
                        Runs Tryz.prog (Builtin.copy_ #[(30 : Nat), (30 : Nat)] (3 : Nat) #[Value.slice q5 n6 n7, Value.slice (cutA q13 n15 p1.toNat (1 : Nat)) (n14 - p1.toNat) (n15 - p1.toNat)])
                         w4 fun (v16 : Value) (w17 : World) =>
                         ∃ (i18 : Int), v16 = Value.int IntKind.i64 i18 ∧ Keeps w4 w17 [] ∧ R (Ending.returned (Value.tuple #[Value.slice q5 n6 n7, Value.int IntKind.i64 (0 : Int)])) w17
                 else R (Ending.returned (Value.tuple #[Value.slice q5 n6 n7, Value.int IntKind.i64 (0 : Int)])) w4
theorem vcTryz64 (p0 : Option Addr) (p1 : Int) (p2 : Int) (w : World) (R : Ending → World → Prop) : SX.vcFn Tryz.prog [] Tryz.f64 [.v (.pointer p0), .v (.int .i64 p1), .v (.int .i64 p2)] [] w R = VCTryz64 p0 p1 p2 w R := by kernel_rfl
def VCTryz37 (p0 : Option Addr) (w : World) (R : Ending → World → Prop) : Prop :=
bif p0.isNone then R (Ending.returned (Value.int IntKind.i64 (0 : Int))) w
else
 SX.Ptr p0 fun (a0 : Addr) =>
  ∃ (q1 : Option Addr),
   ∃ (n2 : Nat),
    ∃ (n3 : Nat), w.cell? (a0.add (0 : Nat)) = some (Value.slice q1 n2 n3) ∧ (512 : Int) ≠ (0 : Int) ∧ Wr IntKind.i64 ((↑n2 : Int).tdiv (512 : Int)) fun (i4 : Int) => R (Ending.returned (Value.int IntKind.i64 i4)) w
theorem vcTryz37 (p0 : Option Addr) (w : World) (R : Ending → World → Prop) : SX.vcFn Tryz.prog [] Tryz.f37 [.v (.pointer p0)] [] w R = VCTryz37 p0 w R := by kernel_rfl
def VCTryz57 (p0 : Option Addr) (p1 : Option Addr) (n1 c1 : Nat) (p2 : Int) (w : World) (R : Ending → World → Prop) : Prop :=
bif p0.isNone then R (Ending.returned (Value.tuple #[])) w
else
 SX.Ptr p0 fun (a0 : Addr) =>
  ∃ (q1 : Option Addr),
   ∃ (n2 : Nat),
    ∃ (n3 : Nat),
     w.cell? (a0.add (1 : Nat)) = some (Value.slice q1 n2 n3) ∧
      ∃ (I4 : Int → World → Prop),
       ∃ (I5 : Int → World → Nat),
        I4 (0 : Int) w ∧
         ∀ (i6 : Int) (w7 : World),
          I4 i6 w7 →
           bif decide (i6 < (↑n2 : Int)) then
            ((0 : Int) ≤ i6 ∧ i6 < (↑n2 : Int)) ∧
             SX.Ptr q1 fun (a8 : Addr) =>
              ∃ (q9 : Option Addr),
               ∃ (n10 : Nat),
                ∃ (n11 : Nat),
                 w7.cell? (a8.add (i6.toNat * (1 : Nat))) = some (Value.slice q9 n10 n11) ∧
                  bif q9.isNone then
                   Rets Tryz.prog (75 : Nat) #[Value.pointer p0, Value.int IntKind.i64 i6] w7 fun (v12 : Value) (w13 : World) =>
                    ∃ (q14 : Option Addr),
                     ∃ (n15 : Nat),
                      ∃ (n16 : Nat),
                       v12 = Value.slice q14 n15 n16 ∧
                        Keeps w7 w13 [] ∧
                         Rets Tryz.prog (83 : Nat) #[Value.slice q14 n15 n16, Value.int IntKind.i64 i6, Value.int IntKind.u8 p2] w13 fun (v17 : Value) (w18 : World) =>
                          v17 = Value.tuple #[] ∧ Keeps w13 w18 [] ∧ Wr IntKind.i64 (i6 + (1 : Int)) fun (i19 : Int) => I4 i19 w18 ∧ I5 i19 w18 < I5 i6 w7
                  else
                   Rets Tryz.prog (75 : Nat) #[Value.pointer p0, Value.int IntKind.i64 i6] w7 fun (v20 : Value) (w21 : World) =>
                    ∃ (q22 : Option Addr),
                     ∃ (n23 : Nat),
                      ∃ (n24 : Nat),
                       v20 = Value.slice q22 n23 n24 ∧
                        Keeps w7 w21 [] ∧
                         Runs Tryz.prog (Builtin.copy_ #[(30 : Nat), (30 : Nat)] (3 : Nat) #[Value.slice q22 n23 n24, Value.slice q9 n10 n11]) w21 fun (v25 : Value) (w26 : World) =>
                          ∃ (i27 : Int), v25 = Value.int IntKind.i64 i27 ∧ Keeps w21 w26 [] ∧ Wr IntKind.i64 (i6 + (1 : Int)) fun (i28 : Int) => I4 i28 w26 ∧ I5 i28 w26 < I5 i6 w7
           else
            SX.Ptr p0 fun (a29 : Addr) =>
             ∃ (q30 : Option Addr),
              ∃ (n31 : Nat),
               ∃ (n32 : Nat),
                w7.cell? (a29.add (2 : Nat)) = some (Value.slice q30 n31 n32) ∧
                 ∃ (I33 : Int → World → Prop),
                  ∃ (I34 : Int → World → Nat),
                   I33 (0 : Int) w7 ∧
                    ∀ (i35 : Int) (w36 : World),
                     I33 i35 w36 →
                      bif decide (i35 < (↑n31 : Int)) then
                       ((0 : Int) ≤ i35 ∧ i35 < (↑n31 : Int)) ∧
                        SX.Ptr q30 fun (a37 : Addr) =>
                         ∃ (i38 : Int),
                          ∃ (q39 : Option Addr),
                           ∃ (n40 : Nat),
                            ∃ (n41 : Nat),
                             (w36.cell? ((a37.add (i35.toNat * (2 : Nat))).add (0 : Nat)) = some (Value.int IntKind.i64 i38) ∧
                               w36.cell? ((a37.add (i35.toNat * (2 : Nat))).add (1 : Nat)) = some (Value.slice q39 n40 n41) ∧ True) ∧
                              bif decide (i35 < (↑n1 : Int)) then
                               ((0 : Int) ≤ i35 ∧ i35 < (↑n1 : Int)) ∧
                                SX.Ptr p1 fun (a42 : Addr) =>
                                 ∃ (t43 : Bool),
                                  (((w36.alloc (Obj.cells #[Value.int IntKind.i64 (0 : Int), Value.slice none (0 : Nat) (0 : Nat)] (111 : Nat))).setCell
                                         {block := w36.heap.size, off := (0 : Nat) } (Value.int IntKind.i64 i38)).setCell
                                       {block := w36.heap.size, off := (1 : Nat) } (Value.slice q39 n40 n41)).cell?
                                     (a42.add (i35.toNat * (1 : Nat))) =
                                    some (Value.bool t43) ∧
                                   bif t43 then
                                    Known
                                      (((w36.alloc (Obj.cells #[Value.int IntKind.i64 (0 : Int), Value.slice none (0 : Nat) (0 : Nat)] (111 : Nat))).setCell
                                          {block := w36.heap.size, off := (0 : Nat) } (Value.int IntKind.i64 i38)).setCell
                                        {block := w36.heap.size, off := (1 : Nat) } (Value.slice q39 n40 n41)).drew
                                      [(w36.heap.size, [((0 : Nat), Value.int IntKind.i64 i38), ((1 : Nat), Value.slice q39 n40 n41)])] →
                                     Rets Tryz.prog (75 : Nat) #[Value.pointer p0, Value.int IntKind.i64 i38]
                                      (((w36.alloc (Obj.cells #[Value.int IntKind.i64 (0 : Int), Value.slice none (0 : Nat) (0 : Nat)] (111 : Nat))).setCell
                                          {block := w36.heap.size, off := (0 : Nat) } (Value.int IntKind.i64 i38)).setCell
                                        {block := w36.heap.size, off := (1 : Nat) } (Value.slice q39 n40 n41)).drew
                                      fun (v44 : Value) (w45 : World) =>
                                      ∃ (q46 : Option Addr),
                                       ∃ (n47 : Nat),
                                        ∃ (n48 : Nat),
                                         v44 = Value.slice q46 n47 n48 ∧
                                          Keeps
                                            (((w36.alloc (Obj.cells #[Value.int IntKind.i64 (0 : Int), Value.slice none (0 : Nat) (0 : Nat)] (111 : Nat))).setCell
                                                {block := w36.heap.size, off := (0 : Nat) } (Value.int IntKind.i64 i38)).setCell
                                              {block := w36.heap.size, off := (1 : Nat) } (Value.slice q39 n40 n41)).drew
                                            w45 [w36.heap.size] ∧
                                           w45.cell? { block := w36.heap.size, off := (1 : Nat) } = some (Value.slice q39 n40 n41) ∧
                                            Runs Tryz.prog (Builtin.copy_ #[(30 : Nat), (30 : Nat)] (3 : Nat) #[Value.slice q46 n47 n48, Value.slice q39 n40 n41]) w45
                                             fun (v49 : Value) (w50 : World) =>
                                             ∃ (i51 : Int),
                                              v49 = Value.int IntKind.i64 i51 ∧
                                               Keeps w45 w50 [w36.heap.size] ∧ Wr IntKind.i64 (i35 + (1 : Int)) fun (i52 : Int) => I33 i52 w50 ∧ I34 i52 w50 < I34 i35 w36
                                   else
                                    Wr IntKind.i64 (i35 + (1 : Int)) fun (i53 : Int) =>
                                     I33 i53
                                       (((w36.alloc (Obj.cells #[Value.int IntKind.i64 (0 : Int), Value.slice none (0 : Nat) (0 : Nat)] (111 : Nat))).setCell
                                          {block := w36.heap.size, off := (0 : Nat) } (Value.int IntKind.i64 i38)).setCell
                                        {block := w36.heap.size, off := (1 : Nat) } (Value.slice q39 n40 n41)) ∧
                                      I34 i53
                                        (((w36.alloc (Obj.cells #[Value.int IntKind.i64 (0 : Int), Value.slice none (0 : Nat) (0 : Nat)] (111 : Nat))).setCell
                                           {block := w36.heap.size, off := (0 : Nat) } (Value.int IntKind.i64 i38)).setCell
                                         {block := w36.heap.size, off := (1 : Nat) } (Value.slice q39 n40 n41)) <
                                       I34 i35 w36
                              else
                               Wr IntKind.i64 (i35 + (1 : Int)) fun (i54 : Int) =>
                                I33 i54
                                  (((w36.alloc (Obj.cells #[Value.int IntKind.i64 (0 : Int), Value.slice none (0 : Nat) (0 : Nat)] (111 : Nat))).setCell
                                     {block := w36.heap.size, off := (0 : Nat) } (Value.int IntKind.i64 i38)).setCell
                                   {block := w36.heap.size, off := (1 : Nat) } (Value.slice q39 n40 n41)) ∧
                                 I34 i54
                                   (((w36.alloc (Obj.cells #[Value.int IntKind.i64 (0 : Int), Value.slice none (0 : Nat) (0 : Nat)] (111 : Nat))).setCell
                                      {block := w36.heap.size, off := (0 : Nat) } (Value.int IntKind.i64 i38)).setCell
                                    {block := w36.heap.size, off := (1 : Nat) } (Value.slice q39 n40 n41)) <
                                  I34 i35 w36
                      else Rets Tryz.prog (50 : Nat) #[Value.pointer p0] w36 fun (v55 : Value) (w56 : World) => v55 = Value.tuple #[] ∧ Keeps w36 w56 [] ∧ R (Ending.returned (Value.tuple #[])) w56
theorem vcTryz57 (p0 : Option Addr) (p1 : Option Addr) (n1 c1 : Nat) (p2 : Int) (w : World) (R : Ending → World → Prop) : SX.vcFn Tryz.prog [(9, ⟨[(41, .int .i64)], [0, 1, 39, 40], []⟩), (2, ⟨[(17, .int .i64)], [2, 0, 15, 1, 16], []⟩)] Tryz.f57 [.v (.pointer p0), .v (.slice p1 n1 c1), .v (.int .u8 p2)] [] w R = VCTryz57 p0 p1 n1 c1 p2 w R := by kernel_rfl
def VCTryz44 (p0 : Option Addr) (p1 : Int) (p2 : Option Addr) (n2 c2 : Nat) (w : World) (R : Ending → World → Prop) : Prop :=
Rets Tryz.prog (43 : Nat) #[Value.pointer p0, Value.int IntKind.i64 p1, Value.int IntKind.i64 (↑n2 : Int)] w fun (v0 : Value) (w1 : World) =>
 ∃ (i2 : Int),
  ∃ (t3 : Bool),
   v0 = Value.tuple #[Value.int IntKind.i64 i2, Value.bool t3] ∧
    Keeps w w1 [] ∧
     bif !t3 then R (Ending.returned (Value.int IntKind.i64 (1 : Int))) w1
     else
      bif (↑n2 : Int) == (0 : Int) then R (Ending.returned (Value.int IntKind.i64 (0 : Int))) w1
      else
       Rets Tryz.prog (74 : Nat) #[Value.pointer p0, Value.int IntKind.i64 i2] w1 fun (v4 : Value) (w5 : World) =>
        v4 = Value.tuple #[] ∧
         Keeps w1 w5 [] ∧
          SX.Ptr p0 fun (a6 : Addr) =>
           ∃ (q7 : Option Addr),
            ∃ (n8 : Nat),
             ∃ (n9 : Nat),
              w5.cell? (a6.add (0 : Nat)) = some (Value.slice q7 n8 n9) ∧
               ((0 : Int) ≤ p1 ∧ p1 ≤ (↑n8 : Int)) ∧
                Runs Tryz.prog (Builtin.copy_ #[(30 : Nat), (30 : Nat)] (3 : Nat) #[Value.slice (cutA q7 n9 p1.toNat (1 : Nat)) (n8 - p1.toNat) (n9 - p1.toNat), Value.slice p2 n2 c2]) w5
                 fun (v10 : Value) (w11 : World) =>
                 ∃ (i12 : Int),
                  v10 = Value.int IntKind.i64 i12 ∧
                   Keeps w5 w11 [] ∧
                    (512 : Int) ≠ (0 : Int) ∧
                     Wr IntKind.i64 (p1.tdiv (512 : Int)) fun (i13 : Int) =>
                      ∃ (I14 : Int → World → Prop),
                       ∃ (I15 : Int → World → Nat),
                        I14 i13 w11 ∧
                         ∀ (i16 : Int) (w17 : World),
                          I14 i16 w17 →
                           Wr IntKind.i64 (p1 + (↑n2 : Int)) fun (i18 : Int) =>
                            Rets Tryz.prog (73 : Nat) #[Value.int IntKind.i64 i18] w17 fun (v19 : Value) (w20 : World) =>
                             ∃ (i21 : Int),
                              v19 = Value.int IntKind.i64 i21 ∧
                               Keeps w17 w20 [] ∧
                                bif decide (i16 < i21) then
                                 SX.Ptr p0 fun (a22 : Addr) =>
                                  ∃ (q23 : Option Addr),
                                   ∃ (n24 : Nat),
                                    ∃ (n25 : Nat),
                                     w20.drew.cell? (a22.add (2 : Nat)) = some (Value.slice q23 n24 n25) ∧
                                      (Runs Tryz.prog (Instr.buildSlice (30 : Nat) (0 : Nat) #[]) w20.drew fun (v26 : Value) (w27 : World) =>
                                        ∃ (q28 : Option Addr),
                                         ∃ (n29 : Nat),
                                          ∃ (n30 : Nat),
                                           v26 = Value.slice q28 n29 n30 ∧
                                            Keeps w20.drew w27 [] ∧
                                             w27.cell? (a22.add (2 : Nat)) = some (Value.slice q23 n24 n25) ∧
                                              Rets Tryz.prog (75 : Nat) #[Value.pointer p0, Value.int IntKind.i64 i16] w27 fun (v31 : Value) (w32 : World) =>
                                               ∃ (q33 : Option Addr),
                                                ∃ (n34 : Nat),
                                                 ∃ (n35 : Nat),
                                                  v31 = Value.slice q33 n34 n35 ∧
                                                   Keeps w27 w32 [] ∧
                                                    w32.cell? (a22.add (2 : Nat)) = some (Value.slice q23 n24 n25) ∧
                                                     Runs Tryz.prog
                                                      (Builtin.append_ #[(30 : Nat), (30 : Nat)] (30 : Nat) #[Value.slice q28 n29 n30, Value.slice q33 n34 n35]) w32
                                                      fun (v36 : Value) (w37 : World) =>
                                                      ∃ (q38 : Option Addr),
                                                       ∃ (n39 : Nat),
                                                        ∃ (n40 : Nat),
                                                         v36 = Value.slice q38 n39 n40 ∧
                                                          Keeps w32 w37 [] ∧
                                                           w37.cell? (a22.add (2 : Nat)) = some (Value.slice q23 n24 n25) ∧
                                                            (w37.alloc (Obj.cells #[Value.int IntKind.i64 i16, Value.slice q38 n39 n40] (111 : Nat))).cell?
                                                               (a22.add (2 : Nat)) =
                                                              some (Value.slice q23 n24 n25) ∧
                                                             Runs Tryz.prog
                                                              (Builtin.append_ #[(84 : Nat), (84 : Nat)] (84 : Nat)
                                                               #[Value.slice q23 n24 n25,
                                                                Value.slice (some { block := w37.heap.size, off := (0 : Nat) }) (1 : Nat) (1 : Nat)])
                                                              (w37.alloc (Obj.cells #[Value.int IntKind.i64 i16, Value.slice q38 n39 n40] (111 : Nat)))
                                                              fun (v41 : Value) (w42 : World) =>
                                                              ∃ (q43 : Option Addr),
                                                               ∃ (n44 : Nat),
                                                                ∃ (n45 : Nat),
                                                                 v41 = Value.slice q43 n44 n45 ∧
                                                                  Keeps
                                                                    (w37.alloc
                                                                     (Obj.cells #[Value.int IntKind.i64 i16, Value.slice q38 n39 n40] (111 : Nat)))
                                                                    w42 [] ∧
                                                                   SX.Ptr p0 fun (a46 : Addr) =>
                                                                    (∃ (v47 : Value), w42.cell? ((a46.add (2 : Nat)).add (0 : Nat)) = some v47) ∧
                                                                     w42.frozen? ((a46.add (2 : Nat)).add (0 : Nat)) = false ∧
                                                                      Wr IntKind.i64 (i16 + (1 : Int)) fun (i48 : Int) =>
                                                                       I14 i48
                                                                         (w42.setCell ((a46.add (2 : Nat)).add (0 : Nat))
                                                                          (Value.slice q43 n44 n45)) ∧
                                                                        I15 i48
                                                                          (w42.setCell ((a46.add (2 : Nat)).add (0 : Nat))
                                                                           (Value.slice q43 n44 n45)) <
                                                                         I15 i16 w17) ∧
                                       Rets Tryz.prog (75 : Nat) #[Value.pointer p0, Value.int IntKind.i64 i16] w20.drew fun (v49 : Value) (w50 : World) =>
                                        ∃ (q51 : Option Addr),
                                         ∃ (n52 : Nat),
                                          ∃ (n53 : Nat),
                                           v49 = Value.slice q51 n52 n53 ∧
                                            Keeps w20.drew w50 [] ∧
                                             w50.cell? (a22.add (2 : Nat)) = some (Value.slice q23 n24 n25) ∧
                                              Runs Tryz.prog (Instr.buildSlice (30 : Nat) (0 : Nat) #[]) w50 fun (v54 : Value) (w55 : World) =>
                                               ∃ (q56 : Option Addr),
                                                ∃ (n57 : Nat),
                                                 ∃ (n58 : Nat),
                                                  v54 = Value.slice q56 n57 n58 ∧
                                                   Keeps w50 w55 [] ∧
                                                    w55.cell? (a22.add (2 : Nat)) = some (Value.slice q23 n24 n25) ∧
                                                     Runs Tryz.prog
                                                      (Builtin.append_ #[(30 : Nat), (30 : Nat)] (30 : Nat) #[Value.slice q56 n57 n58, Value.slice q51 n52 n53]) w55
                                                      fun (v59 : Value) (w60 : World) =>
                                                      ∃ (q61 : Option Addr),
                                                       ∃ (n62 : Nat),
                                                        ∃ (n63 : Nat),
                                                         v59 = Value.slice q61 n62 n63 ∧
                                                          Keeps w55 w60 [] ∧
                                                           w60.cell? (a22.add (2 : Nat)) = some (Value.slice q23 n24 n25) ∧
                                                            (w60.alloc (Obj.cells #[Value.int IntKind.i64 i16, Value.slice q61 n62 n63] (111 : Nat))).cell?
                                                               (a22.add (2 : Nat)) =
                                                              some (Value.slice q23 n24 n25) ∧
                                                             Runs Tryz.prog
                                                              (Builtin.append_ #[(84 : Nat), (84 : Nat)] (84 : Nat)
                                                               #[Value.slice q23 n24 n25,
                                                                Value.slice (some { block := w60.heap.size, off := (0 : Nat) }) (1 : Nat) (1 : Nat)])
                                                              (w60.alloc (Obj.cells #[Value.int IntKind.i64 i16, Value.slice q61 n62 n63] (111 : Nat)))
                                                              fun (v64 : Value) (w65 : World) =>
                                                              ∃ (q66 : Option Addr),
                                                               ∃ (n67 : Nat),
                                                                ∃ (n68 : Nat),
                                                                 v64 = Value.slice q66 n67 n68 ∧
                                                                  Keeps
                                                                    (w60.alloc
                                                                     (Obj.cells #[Value.int IntKind.i64 i16, Value.slice q61 n62 n63] (111 : Nat)))
                                                                    w65 [] ∧
                                                                   SX.Ptr p0 fun (a69 : Addr) =>
                                                                    (∃ (v70 : Value), w65.cell? ((a69.add (2 : Nat)).add (0 : Nat)) = some v70) ∧
                                                                     w65.frozen? ((a69.add (2 : Nat)).add (0 : Nat)) = false ∧
                                                                      Wr IntKind.i64 (i16 + (1 : Int)) fun (i71 : Int) =>
                                                                       I14 i71
                                                                         (w65.setCell ((a69.add (2 : Nat)).add (0 : Nat))
                                                                          (Value.slice q66 n67 n68)) ∧
                                                                        I15 i71
                                                                          (w65.setCell ((a69.add (2 : Nat)).add (0 : Nat))
                                                                           (Value.slice q66 n67 n68)) <
                                                                         I15 i16 w17
                                else R (Ending.returned (Value.int IntKind.i64 (0 : Int))) w20
theorem vcTryz44 (p0 : Option Addr) (p1 : Int) (p2 : Option Addr) (n2 c2 : Nat) (w : World) (R : Ending → World → Prop) : SX.vcFn Tryz.prog [(9, ⟨[(9, .int .i64)], [0, 2, 1], []⟩)] Tryz.f44 [.v (.pointer p0), .v (.int .i64 p1), .v (.slice p2 n2 c2)] [] w R = VCTryz44 p0 p1 p2 n2 c2 w R := by kernel_rfl
def VCTryz39 (p0 : Option Addr) (w : World) (R : Ending → World → Prop) : Prop :=
bif p0.isNone then R (Ending.returned (Value.int IntKind.i64 (0 : Int))) w
else SX.Ptr p0 fun (a0 : Addr) => ∃ (q1 : Option Addr), ∃ (n2 : Nat), ∃ (n3 : Nat), w.cell? (a0.add (2 : Nat)) = some (Value.slice q1 n2 n3) ∧ R (Ending.returned (Value.int IntKind.i64 (↑n2 : Int))) w
theorem vcTryz39 (p0 : Option Addr) (w : World) (R : Ending → World → Prop) : SX.vcFn Tryz.prog [] Tryz.f39 [.v (.pointer p0)] [] w R = VCTryz39 p0 w R := by kernel_rfl
def VCTryz51 (p0 : Option Addr) (w : World) (R : Ending → World → Prop) : Prop :=
∃ (I0 : Int → World → Prop),
 ∃ (I1 : Int → World → Nat),
  I0 (0 : Int) w ∧
   ∀ (i2 : Int) (w3 : World),
    I0 i2 w3 →
     SX.Ptr p0 fun (a4 : Addr) =>
      ∃ (q5 : Option Addr),
       ∃ (n6 : Nat),
        ∃ (n7 : Nat),
         w3.cell? (a4.add (0 : Nat)) = some (Value.slice q5 n6 n7) ∧
          bif decide (i2 < (↑n6 : Int)) then
           SX.Ptr p0 fun (a8 : Addr) =>
            ∃ (q9 : Option Addr),
             ∃ (n10 : Nat),
              ∃ (n11 : Nat),
               w3.drew.cell? (a8.add (1 : Nat)) = some (Value.slice q9 n10 n11) ∧
                SX.Ptr p0 fun (a12 : Addr) =>
                 ∃ (q13 : Option Addr),
                  ∃ (n14 : Nat),
                   ∃ (n15 : Nat),
                    w3.drew.cell? (a12.add (0 : Nat)) = some (Value.slice q13 n14 n15) ∧
                     ((0 : Int) ≤ i2 ∧ i2 < (↑n14 : Int)) ∧
                      SX.Ptr q13 fun (a16 : Addr) =>
                       ∃ (s17 : ByteArray),
                        w3.drew.cell? (a16.add (i2.toNat * (1 : Nat))) = some (Value.string s17) ∧
                         ((0 : Int) ≤ i2 ∧ i2 < (↑n10 : Int)) ∧
                          SX.Ptr q9 fun (a18 : Addr) =>
                           (∃ (v19 : Value), w3.drew.cell? ((a18.add (i2.toNat * (1 : Nat))).add (0 : Nat)) = some v19) ∧
                            w3.drew.frozen? ((a18.add (i2.toNat * (1 : Nat))).add (0 : Nat)) = false ∧
                             SX.Ptr p0 fun (a20 : Addr) =>
                              ∃ (q21 : Option Addr),
                               ∃ (n22 : Nat),
                                ∃ (n23 : Nat),
                                 (w3.drew.setCell ((a18.add (i2.toNat * (1 : Nat))).add (0 : Nat)) (Value.string s17)).cell? (a20.add (2 : Nat)) = some (Value.slice q21 n22 n23) ∧
                                  ((0 : Int) ≤ i2 ∧ i2 < (↑n22 : Int)) ∧
                                   SX.Ptr q21 fun (a24 : Addr) =>
                                    (∃ (v25 : Value),
                                      (w3.drew.setCell ((a18.add (i2.toNat * (1 : Nat))).add (0 : Nat)) (Value.string s17)).cell? ((a24.add (i2.toNat * (1 : Nat))).add (0 : Nat)) =
                                       some v25) ∧
                                     (w3.drew.setCell ((a18.add (i2.toNat * (1 : Nat))).add (0 : Nat)) (Value.string s17)).frozen? ((a24.add (i2.toNat * (1 : Nat))).add (0 : Nat)) =
                                       false ∧
                                      Wr IntKind.i64 (i2 + (1 : Int)) fun (i26 : Int) =>
                                       I0 i26
                                         ((w3.drew.setCell ((a18.add (i2.toNat * (1 : Nat))).add (0 : Nat)) (Value.string s17)).setCell
                                          ((a24.add (i2.toNat * (1 : Nat))).add (0 : Nat)) (Value.bool true)) ∧
                                        I1 i26
                                          ((w3.drew.setCell ((a18.add (i2.toNat * (1 : Nat))).add (0 : Nat)) (Value.string s17)).setCell
                                           ((a24.add (i2.toNat * (1 : Nat))).add (0 : Nat)) (Value.bool true)) <
                                         I1 i2 w3
          else
           SX.Ptr p0 fun (a27 : Addr) =>
            (∃ (v28 : Value), w3.cell? ((a27.add (3 : Nat)).add (0 : Nat)) = some v28) ∧
             w3.frozen? ((a27.add (3 : Nat)).add (0 : Nat)) = false ∧ R (Ending.returned (Value.tuple #[])) (w3.setCell ((a27.add (3 : Nat)).add (0 : Nat)) (Value.slice none (0 : Nat) (0 : Nat)))
theorem vcTryz51 (p0 : Option Addr) (w : World) (R : Ending → World → Prop) : SX.vcFn Tryz.prog [(1, ⟨[(2, .int .i64)], [0], []⟩)] Tryz.f51 [.v (.pointer p0)] [] w R = VCTryz51 p0 w R := by kernel_rfl
def VCTryz59 (p0 : Option Addr) (p1 : Option Addr) (n1 c1 : Nat) (p2 : Int) (w : World) (R : Ending → World → Prop) : Prop :=
∃ (I0 : Int → World → Prop),
 ∃ (I1 : Int → World → Nat),
  I0 (0 : Int) w ∧
   ∀ (i2 : Int) (w3 : World),
    I0 i2 w3 →
     SX.Ptr p0 fun (a4 : Addr) =>
      ∃ (q5 : Option Addr),
       ∃ (n6 : Nat),
        ∃ (n7 : Nat),
         w3.cell? (a4.add (0 : Nat)) = some (Value.slice q5 n6 n7) ∧
          bif decide (i2 < (↑n6 : Int)) then
           SX.Ptr p0 fun (a8 : Addr) =>
            ∃ (q9 : Option Addr),
             ∃ (n10 : Nat),
              ∃ (n11 : Nat),
               w3.drew.cell? (a8.add (0 : Nat)) = some (Value.slice q9 n10 n11) ∧
                SX.Ptr p0 fun (a12 : Addr) =>
                 ∃ (q13 : Option Addr),
                  ∃ (n14 : Nat),
                   ∃ (n15 : Nat),
                    w3.drew.cell? (a12.add (1 : Nat)) = some (Value.slice q13 n14 n15) ∧
                     ((0 : Int) ≤ i2 ∧ i2 < (↑n14 : Int)) ∧
                      SX.Ptr q13 fun (a16 : Addr) =>
                       ∃ (s17 : ByteArray),
                        w3.drew.cell? (a16.add (i2.toNat * (1 : Nat))) = some (Value.string s17) ∧
                         ((0 : Int) ≤ i2 ∧ i2 < (↑n10 : Int)) ∧
                          SX.Ptr q9 fun (a18 : Addr) =>
                           (∃ (v19 : Value), w3.drew.cell? ((a18.add (i2.toNat * (1 : Nat))).add (0 : Nat)) = some v19) ∧
                            w3.drew.frozen? ((a18.add (i2.toNat * (1 : Nat))).add (0 : Nat)) = false ∧
                             SX.Ptr p0 fun (a20 : Addr) =>
                              ∃ (q21 : Option Addr),
                               ∃ (n22 : Nat),
                                ∃ (n23 : Nat),
                                 (w3.drew.setCell ((a18.add (i2.toNat * (1 : Nat))).add (0 : Nat)) (Value.string s17)).cell? (a20.add (2 : Nat)) = some (Value.slice q21 n22 n23) ∧
                                  ((0 : Int) ≤ i2 ∧ i2 < (↑n22 : Int)) ∧
                                   SX.Ptr q21 fun (a24 : Addr) =>
                                    ∃ (t25 : Bool),
                                     (w3.drew.setCell ((a18.add (i2.toNat * (1 : Nat))).add (0 : Nat)) (Value.string s17)).cell? (a24.add (i2.toNat * (1 : Nat))) =
                                       some (Value.bool t25) ∧
                                      bif !t25 then
                                       SX.Ptr p0 fun (a26 : Addr) =>
                                        ∃ (q27 : Option Addr),
                                         ∃ (n28 : Nat),
                                          ∃ (n29 : Nat),
                                           (w3.drew.setCell ((a18.add (i2.toNat * (1 : Nat))).add (0 : Nat)) (Value.string s17)).drew.cell? (a26.add (0 : Nat)) =
                                             some (Value.slice q27 n28 n29) ∧
                                            Rets Tryz.prog (86 : Nat) #[Value.int IntKind.i64 i2, Value.int IntKind.u8 p2]
                                             (w3.drew.setCell ((a18.add (i2.toNat * (1 : Nat))).add (0 : Nat)) (Value.string s17)).drew fun (v30 : Value) (w31 : World) =>
                                             ∃ (s32 : ByteArray),
                                              v30 = Value.string s32 ∧
                                               Keeps (w3.drew.setCell ((a18.add (i2.toNat * (1 : Nat))).add (0 : Nat)) (Value.string s17)).drew w31 [] ∧
                                                w31.cell? (a26.add (0 : Nat)) = some (Value.slice q27 n28 n29) ∧
                                                 ((0 : Int) ≤ i2 ∧ i2 < (↑n28 : Int)) ∧
                                                  SX.Ptr q27 fun (a33 : Addr) =>
                                                   (∃ (v34 : Value), w31.cell? ((a33.add (i2.toNat * (1 : Nat))).add (0 : Nat)) = some v34) ∧
                                                    w31.frozen? ((a33.add (i2.toNat * (1 : Nat))).add (0 : Nat)) = false ∧
                                                     Wr IntKind.i64 (i2 + (1 : Int)) fun (i35 : Int) =>
                                                      I0 i35 (w31.setCell ((a33.add (i2.toNat * (1 : Nat))).add (0 : Nat)) (Value.string s32)) ∧
                                                       I1 i35 (w31.setCell ((a33.add (i2.toNat * (1 : Nat))).add (0 : Nat)) (Value.string s32)) < I1 i2 w3
                                      else
                                       Wr IntKind.i64 (i2 + (1 : Int)) fun (i36 : Int) =>
                                        I0 i36 (w3.drew.setCell ((a18.add (i2.toNat * (1 : Nat))).add (0 : Nat)) (Value.string s17)) ∧
                                         I1 i36 (w3.drew.setCell ((a18.add (i2.toNat * (1 : Nat))).add (0 : Nat)) (Value.string s17)) < I1 i2 w3
          else
           ∃ (I37 : Int → World → Prop),
            ∃ (I38 : Int → World → Nat),
             I37 (0 : Int) w3 ∧
              ∀ (i39 : Int) (w40 : World),
               I37 i39 w40 →
                SX.Ptr p0 fun (a41 : Addr) =>
                 ∃ (q42 : Option Addr),
                  ∃ (n43 : Nat),
                   ∃ (n44 : Nat),
                    w40.cell? (a41.add (3 : Nat)) = some (Value.slice q42 n43 n44) ∧
                     bif decide (i39 < (↑n43 : Int)) then
                      bif decide (i39 < (↑n1 : Int)) then
                       ((0 : Int) ≤ i39 ∧ i39 < (↑n1 : Int)) ∧
                        SX.Ptr p1 fun (a45 : Addr) =>
                         ∃ (t46 : Bool),
                          w40.cell? (a45.add (i39.toNat * (1 : Nat))) = some (Value.bool t46) ∧
                           bif t46 then
                            SX.Ptr p0 fun (a47 : Addr) =>
                             ∃ (q48 : Option Addr),
                              ∃ (n49 : Nat),
                               ∃ (n50 : Nat),
                                w40.drew.cell? (a47.add (0 : Nat)) = some (Value.slice q48 n49 n50) ∧
                                 SX.Ptr p0 fun (a51 : Addr) =>
                                  ∃ (q52 : Option Addr),
                                   ∃ (n53 : Nat),
                                    ∃ (n54 : Nat),
                                     w40.drew.cell? (a51.add (3 : Nat)) = some (Value.slice q52 n53 n54) ∧
                                      ((0 : Int) ≤ i39 ∧ i39 < (↑n53 : Int)) ∧
                                       SX.Ptr q52 fun (a55 : Addr) =>
                                        ∃ (i56 : Int),
                                         w40.drew.cell? ((a55.add (i39.toNat * (2 : Nat))).add (0 : Nat)) = some (Value.int IntKind.i64 i56) ∧
                                          SX.Ptr p0 fun (a57 : Addr) =>
                                           ∃ (q58 : Option Addr),
                                            ∃ (n59 : Nat),
                                             ∃ (n60 : Nat),
                                              w40.drew.cell? (a57.add (3 : Nat)) = some (Value.slice q58 n59 n60) ∧
                                               ((0 : Int) ≤ i39 ∧ i39 < (↑n59 : Int)) ∧
                                                SX.Ptr q58 fun (a61 : Addr) =>
                                                 ∃ (s62 : ByteArray),
                                                  w40.drew.cell? ((a61.add (i39.toNat * (2 : Nat))).add (1 : Nat)) = some (Value.string s62) ∧
                                                   ((0 : Int) ≤ i56 ∧ i56 < (↑n49 : Int)) ∧
                                                    SX.Ptr q48 fun (a63 : Addr) =>
                                                     (∃ (v64 : Value), w40.drew.cell? ((a63.add (i56.toNat * (1 : Nat))).add (0 : Nat)) = some v64) ∧
                                                      w40.drew.frozen? ((a63.add (i56.toNat * (1 : Nat))).add (0 : Nat)) = false ∧
                                                       Wr IntKind.i64 (i39 + (1 : Int)) fun (i65 : Int) =>
                                                        I37 i65 (w40.drew.setCell ((a63.add (i56.toNat * (1 : Nat))).add (0 : Nat)) (Value.string s62)) ∧
                                                         I38 i65 (w40.drew.setCell ((a63.add (i56.toNat * (1 : Nat))).add (0 : Nat)) (Value.string s62)) <
                                                          I38 i39 w40
                           else Wr IntKind.i64 (i39 + (1 : Int)) fun (i66 : Int) => I37 i66 w40 ∧ I38 i66 w40 < I38 i39 w40
                      else Rets Tryz.prog (51 : Nat) #[Value.pointer p0] w40 fun (v67 : Value) (w68 : World) => v67 = Value.tuple #[] ∧ Keeps w40 w68 [] ∧ R (Ending.returned (Value.tuple #[])) w68
                     else Rets Tryz.prog (51 : Nat) #[Value.pointer p0] w40 fun (v69 : Value) (w70 : World) => v69 = Value.tuple #[] ∧ Keeps w40 w70 [] ∧ R (Ending.returned (Value.tuple #[])) w70
theorem vcTryz59 (p0 : Option Addr) (p1 : Option Addr) (n1 c1 : Nat) (p2 : Int) (w : World) (R : Ending → World → Prop) : SX.vcFn Tryz.prog [(7, ⟨[(7, .int .i64)], [0, 1], []⟩), (1, ⟨[(6, .int .i64)], [2, 0, 1], []⟩)] Tryz.f59 [.v (.pointer p0), .v (.slice p1 n1 c1), .v (.int .u8 p2)] [] w R = VCTryz59 p0 p1 n1 c1 p2 w R := by kernel_rfl
def VCTryz35 (p0 : Option Addr) (p1 : Int) (p2 : Int) (w : World) (R : Ending → World → Prop) : Prop :=
Runs Tryz.prog (Instr.makeSlice (30 : Nat) (Value.int IntKind.i64 (0 : Int)) (Value.int IntKind.i64 p2)) w fun (v0 : Value) (w1 : World) =>
 ∃ (q2 : Option Addr),
  ∃ (n3 : Nat),
   ∃ (n4 : Nat),
    v0 = Value.slice q2 n3 n4 ∧
     Keeps w w1 [] ∧
      ∃ (I5 : Option Addr → Nat → Nat → Int → World → Prop),
       ∃ (I6 : Option Addr → Nat → Nat → Int → World → Nat),
        I5 q2 n3 n4 p1 w1 ∧
         ∀ (q7 : Option Addr) (n8 n9 : Nat) (i10 : Int) (w11 : World),
          I5 q7 n8 n9 i10 w11 →
           bif decide ((↑n8 : Int) < p2) then
            (512 : Int) ≠ (0 : Int) ∧
             Wr IntKind.i64 (i10.tdiv (512 : Int)) fun (i12 : Int) =>
              SX.Ptr p0 fun (a13 : Addr) =>
               ∃ (q14 : Option Addr),
                ∃ (n15 : Nat),
                 ∃ (n16 : Nat),
                  w11.cell? (a13.add (0 : Nat)) = some (Value.slice q14 n15 n16) ∧
                   bif decide (i12 ≥ (↑n15 : Int)) then
                    Wr IntKind.i64 (p2 - (↑n8 : Int)) fun (i17 : Int) =>
                     Runs Tryz.prog (Builtin.append_ #[(30 : Nat), (3 : Nat)] (30 : Nat) #[Value.slice q7 n8 n9, Value.int IntKind.i64 i17]) w11 fun (v18 : Value) (w19 : World) =>
                      ∃ (q20 : Option Addr), ∃ (n21 : Nat), ∃ (n22 : Nat), v18 = Value.slice q20 n21 n22 ∧ Keeps w11 w19 [] ∧ R (Ending.returned (Value.slice q20 n21 n22)) w19
                   else
                    SX.Ptr p0 fun (a23 : Addr) =>
                     ∃ (q24 : Option Addr),
                      ∃ (n25 : Nat),
                       ∃ (n26 : Nat),
                        w11.cell? (a23.add (0 : Nat)) = some (Value.slice q24 n25 n26) ∧
                         ((0 : Int) ≤ i12 ∧ i12 < (↑n25 : Int)) ∧
                          SX.Ptr q24 fun (a27 : Addr) =>
                           ∃ (s28 : ByteArray),
                            w11.cell? (a27.add (i12.toNat * (1 : Nat))) = some (Value.string s28) ∧
                             (512 : Int) ≠ (0 : Int) ∧
                              ((0 : Int) ≤ i10.tmod (512 : Int) ∧ i10.tmod (512 : Int) ≤ (↑s28.size : Int)) ∧
                               Wr IntKind.i64 (p2 - (↑n8 : Int)) fun (i29 : Int) =>
                                bif decide ((↑(s28.extract (i10.tmod (512 : Int)).toNat s28.size).size : Int) > i29) then
                                 Wr IntKind.i64 (p2 - (↑n8 : Int)) fun (i30 : Int) =>
                                  ((0 : Int) ≤ i30 ∧ i30 ≤ (↑(s28.extract (i10.tmod (512 : Int)).toNat s28.size).size : Int)) ∧
                                   Runs Tryz.prog
                                    (Builtin.append_ #[(30 : Nat), (9 : Nat)] (30 : Nat)
                                     #[Value.slice q7 n8 n9, Value.string ((s28.extract (i10.tmod (512 : Int)).toNat s28.size).extract (0 : Nat) i30.toNat)])
                                    w11 fun (v31 : Value) (w32 : World) =>
                                    ∃ (q33 : Option Addr),
                                     ∃ (n34 : Nat),
                                      ∃ (n35 : Nat),
                                       v31 = Value.slice q33 n34 n35 ∧
                                        Keeps w11 w32 [] ∧
                                         Wr IntKind.i64 (i10 + (↑((s28.extract (i10.tmod (512 : Int)).toNat s28.size).extract (0 : Nat) i30.toNat).size : Int)) fun (i36 : Int) =>
                                          I5 q33 n34 n35 i36 w32 ∧ I6 q33 n34 n35 i36 w32 < I6 q7 n8 n9 i10 w11
                                else
                                 Runs Tryz.prog
                                  (Builtin.append_ #[(30 : Nat), (9 : Nat)] (30 : Nat) #[Value.slice q7 n8 n9, Value.string (s28.extract (i10.tmod (512 : Int)).toNat s28.size)]) w11
                                  fun (v37 : Value) (w38 : World) =>
                                  ∃ (q39 : Option Addr),
                                   ∃ (n40 : Nat),
                                    ∃ (n41 : Nat),
                                     v37 = Value.slice q39 n40 n41 ∧
                                      Keeps w11 w38 [] ∧
                                       Wr IntKind.i64 (i10 + (↑(s28.extract (i10.tmod (512 : Int)).toNat s28.size).size : Int)) fun (i42 : Int) =>
                                        I5 q39 n40 n41 i42 w38 ∧ I6 q39 n40 n41 i42 w38 < I6 q7 n8 n9 i10 w11
           else R (Ending.returned (Value.slice q7 n8 n9)) w11
theorem vcTryz35 (p0 : Option Addr) (p1 : Int) (p2 : Int) (w : World) (R : Ending → World → Prop) : SX.vcFn Tryz.prog [(2, ⟨[(7, .slice), (1, .int .i64)], [2, 0], []⟩)] Tryz.f35 [.v (.pointer p0), .v (.int .i64 p1), .v (.int .i64 p2)] [] w R = VCTryz35 p0 p1 p2 w R := by kernel_rfl
def VCTryz75 (p0 : Option Addr) (p1 : Int) (w : World) (R : Ending → World → Prop) : Prop :=
Wr IntKind.i64 (p1 * (512 : Int)) fun (i0 : Int) =>
 Wr IntKind.i64 (p1 + (1 : Int)) fun (i1 : Int) =>
  Wr IntKind.i64 (i1 * (512 : Int)) fun (i2 : Int) =>
   SX.Ptr p0 fun (a3 : Addr) =>
    ∃ (q4 : Option Addr),
     ∃ (n5 : Nat),
      ∃ (n6 : Nat),
       w.cell? (a3.add (0 : Nat)) = some (Value.slice q4 n5 n6) ∧
        ((0 : Int) ≤ i2 ∧ i2 ≤ (↑n6 : Int)) ∧
         ((0 : Int) ≤ i2 ∧
           i2 ≤
            (↑(match some (SV.v (Value.int IntKind.i64 i2)) with
              | some x8 => i2.toNat
              | none => n6) :
             Int)) ∧
          ((0 : Int) ≤ i0 ∧ i0 ≤ (↑i2.toNat : Int)) ∧ R (Ending.returned (Value.slice (cutA q4 i2.toNat i0.toNat (1 : Nat)) (i2.toNat - i0.toNat) (i2.toNat - i0.toNat))) w
theorem vcTryz75 (p0 : Option Addr) (p1 : Int) (w : World) (R : Ending → World → Prop) : SX.vcFn Tryz.prog [] Tryz.f75 [.v (.pointer p0), .v (.int .i64 p1)] [] w R = VCTryz75 p0 p1 w R := by kernel_rfl
def VCTryz72 (p0 : Int) (p1 : Int) (w : World) (R : Ending → World → Prop) : Prop :=
bif decide (p0 ≥ (0 : Int)) then
 bif decide (p1 ≥ (0 : Int)) then
  bif decide (p1 ≤ (2097152 : Int)) then Wr IntKind.i64 ((2097152 : Int) - p1) fun (i0 : Int) => R (Ending.returned (Value.bool (decide (p0 ≤ i0)))) w else R (Ending.returned (Value.bool false)) w
 else R (Ending.returned (Value.bool false)) w
else R (Ending.returned (Value.bool false)) w
theorem vcTryz72 (p0 : Int) (p1 : Int) (w : World) (R : Ending → World → Prop) : SX.vcFn Tryz.prog [] Tryz.f72 [.v (.int .i64 p0), .v (.int .i64 p1)] [] w R = VCTryz72 p0 p1 w R := by kernel_rfl
def VCTryz83 (p0 : Option Addr) (n0 c0 : Nat) (p1 : Int) (p2 : Int) (w : World) (R : Ending → World → Prop) : Prop :=
∃ (I0 : Int → World → Prop),
 ∃ (I1 : Int → World → Nat),
  I0 (0 : Int) w ∧
   ∀ (i2 : Int) (w3 : World),
    I0 i2 w3 →
     bif decide (i2 < (↑n0 : Int)) then
      Wr IntKind.i64 ((7 : Int) * p1) fun (i4 : Int) =>
       Wr IntKind.u8 i4 fun (i5 : Int) =>
        Wr IntKind.u8 (p2 + i5) fun (i6 : Int) =>
         Wr IntKind.u8 i2 fun (i7 : Int) =>
          Wr IntKind.u8 (i6 + i7) fun (i8 : Int) =>
           ((0 : Int) ≤ i2 ∧ i2 < (↑n0 : Int)) ∧
            SX.Ptr p0 fun (a9 : Addr) =>
             (∃ (v10 : Value), w3.cell? ((a9.add (i2.toNat * (1 : Nat))).add (0 : Nat)) = some v10) ∧
              w3.frozen? ((a9.add (i2.toNat * (1 : Nat))).add (0 : Nat)) = false ∧
               Wr IntKind.i64 (i2 + (1 : Int)) fun (i11 : Int) =>
                I0 i11 (w3.setCell ((a9.add (i2.toNat * (1 : Nat))).add (0 : Nat)) (Value.int IntKind.u8 i8)) ∧
                 I1 i11 (w3.setCell ((a9.add (i2.toNat * (1 : Nat))).add (0 : Nat)) (Value.int IntKind.u8 i8)) < I1 i2 w3
     else R (Ending.returned (Value.tuple #[])) w3
theorem vcTryz83 (p0 : Option Addr) (n0 c0 : Nat) (p1 : Int) (p2 : Int) (w : World) (R : Ending → World → Prop) : SX.vcFn Tryz.prog [(1, ⟨[(9, .int .i64)], [1, 2, 0, 8], []⟩)] Tryz.f83 [.v (.slice p0 n0 c0), .v (.int .i64 p1), .v (.int .u8 p2)] [] w R = VCTryz83 p0 n0 c0 p1 p2 w R := by kernel_rfl
def VCTryz43 (p0 : Option Addr) (p1 : Int) (p2 : Int) (w : World) (R : Ending → World → Prop) : Prop :=
bif p0.isNone then R (Ending.returned (Value.tuple #[Value.int IntKind.i64 (0 : Int), Value.bool false])) w
else
 Rets Tryz.prog (72 : Nat) #[Value.int IntKind.i64 p1, Value.int IntKind.i64 p2] w fun (v0 : Value) (w1 : World) =>
  ∃ (t2 : Bool),
   v0 = Value.bool t2 ∧
    Keeps w w1 [] ∧
     bif !t2 then R (Ending.returned (Value.tuple #[Value.int IntKind.i64 (0 : Int), Value.bool false])) w1
     else
      bif p2 == (0 : Int) then
       Rets Tryz.prog (37 : Nat) #[Value.pointer p0] w1 fun (v3 : Value) (w4 : World) =>
        ∃ (i5 : Int), v3 = Value.int IntKind.i64 i5 ∧ Keeps w1 w4 [] ∧ R (Ending.returned (Value.tuple #[Value.int IntKind.i64 i5, Value.bool true])) w4
      else
       Rets Tryz.prog (37 : Nat) #[Value.pointer p0] w1 fun (v6 : Value) (w7 : World) =>
        ∃ (i8 : Int),
         v6 = Value.int IntKind.i64 i8 ∧
          Keeps w1 w7 [] ∧
           Wr IntKind.i64 (p1 + p2) fun (i9 : Int) =>
            Rets Tryz.prog (73 : Nat) #[Value.int IntKind.i64 i9] w7 fun (v10 : Value) (w11 : World) =>
             ∃ (i12 : Int), v10 = Value.int IntKind.i64 i12 ∧ Keeps w7 w11 [] ∧ R (Ending.returned (Value.tuple #[Value.int IntKind.i64 (maxI i8 i12), Value.bool true])) w11
theorem vcTryz43 (p0 : Option Addr) (p1 : Int) (p2 : Int) (w : World) (R : Ending → World → Prop) : SX.vcFn Tryz.prog [] Tryz.f43 [.v (.pointer p0), .v (.int .i64 p1), .v (.int .i64 p2)] [] w R = VCTryz43 p0 p1 p2 w R := by kernel_rfl
def VCTryz74 (p0 : Option Addr) (p1 : Int) (w : World) (R : Ending → World → Prop) : Prop :=
Rets Tryz.prog (37 : Nat) #[Value.pointer p0] w fun (v0 : Value) (w1 : World) =>
 ∃ (i2 : Int),
  v0 = Value.int IntKind.i64 i2 ∧
   Keeps w w1 [] ∧
    Wr IntKind.i64 (p1 - i2) fun (i3 : Int) =>
     bif decide (i3 > (0 : Int)) then
      SX.Ptr p0 fun (a4 : Addr) =>
       ∃ (q5 : Option Addr),
        ∃ (n6 : Nat),
         ∃ (n7 : Nat),
          w1.cell? (a4.add (0 : Nat)) = some (Value.slice q5 n6 n7) ∧
           Wr IntKind.i64 (i3 * (512 : Int)) fun (i8 : Int) =>
            Runs Tryz.prog (Builtin.append_ #[(30 : Nat), (3 : Nat)] (30 : Nat) #[Value.slice q5 n6 n7, Value.int IntKind.i64 i8]) w1 fun (v9 : Value) (w10 : World) =>
             ∃ (q11 : Option Addr),
              ∃ (n12 : Nat),
               ∃ (n13 : Nat),
                v9 = Value.slice q11 n12 n13 ∧
                 Keeps w1 w10 [] ∧
                  SX.Ptr p0 fun (a14 : Addr) =>
                   (∃ (v15 : Value), w10.cell? ((a14.add (0 : Nat)).add (0 : Nat)) = some v15) ∧
                    w10.frozen? ((a14.add (0 : Nat)).add (0 : Nat)) = false ∧
                     SX.Ptr p0 fun (a16 : Addr) =>
                      ∃ (q17 : Option Addr),
                       ∃ (n18 : Nat),
                        ∃ (n19 : Nat),
                         (w10.setCell ((a14.add (0 : Nat)).add (0 : Nat)) (Value.slice q11 n12 n13)).cell? (a16.add (1 : Nat)) = some (Value.slice q17 n18 n19) ∧
                          Runs Tryz.prog (Builtin.append_ #[(83 : Nat), (3 : Nat)] (83 : Nat) #[Value.slice q17 n18 n19, Value.int IntKind.i64 i3])
                           (w10.setCell ((a14.add (0 : Nat)).add (0 : Nat)) (Value.slice q11 n12 n13)) fun (v20 : Value) (w21 : World) =>
                           ∃ (q22 : Option Addr),
                            ∃ (n23 : Nat),
                             ∃ (n24 : Nat),
                              v20 = Value.slice q22 n23 n24 ∧
                               Keeps (w10.setCell ((a14.add (0 : Nat)).add (0 : Nat)) (Value.slice q11 n12 n13)) w21 [] ∧
                                SX.Ptr p0 fun (a25 : Addr) =>
                                 (∃ (v26 : Value), w21.cell? ((a25.add (1 : Nat)).add (0 : Nat)) = some v26) ∧
                                  w21.frozen? ((a25.add (1 : Nat)).add (0 : Nat)) = false ∧
                                   R (Ending.returned (Value.tuple #[])) (w21.setCell ((a25.add (1 : Nat)).add (0 : Nat)) (Value.slice q22 n23 n24))
     else R (Ending.returned (Value.tuple #[])) w1
theorem vcTryz74 (p0 : Option Addr) (p1 : Int) (w : World) (R : Ending → World → Prop) : SX.vcFn Tryz.prog [] Tryz.f74 [.v (.pointer p0), .v (.int .i64 p1)] [] w R = VCTryz74 p0 p1 w R := by kernel_rfl
def VCTryz73 (p0 : Int) (w : World) (R : Ending → World → Prop) : Prop :=
Wr IntKind.i64 (p0 + (512 : Int)) fun (i0 : Int) =>
 Wr IntKind.i64 (i0 - (1 : Int)) fun (i1 : Int) => (512 : Int) ≠ (0 : Int) ∧ Wr IntKind.i64 (i1.tdiv (512 : Int)) fun (i2 : Int) => R (Ending.returned (Value.int IntKind.i64 i2)) w
theorem vcTryz73 (p0 : Int) (w : World) (R : Ending → World → Prop) : SX.vcFn Tryz.prog [] Tryz.f73 [.v (.int .i64 p0)] [] w R = VCTryz73 p0 w R := by kernel_rfl
def VCTryz47 (p0 : Int) (p1 : Int) (w : World) (R : Ending → World → Prop) : Prop :=
bif decide (p0 ≥ (0 : Int)) then
 bif decide (p1 ≥ (0 : Int)) then
  bif decide (p1 ≤ (2097152 : Int)) then Wr IntKind.i64 ((2097152 : Int) - p1) fun (i0 : Int) => R (Ending.returned (Value.bool (decide (p0 ≤ i0)))) w else R (Ending.returned (Value.bool false)) w
 else R (Ending.returned (Value.bool false)) w
else R (Ending.returned (Value.bool false)) w
theorem vcTryz47 (p0 : Int) (p1 : Int) (w : World) (R : Ending → World → Prop) : SX.vcFn Tryz.prog [] Tryz.f47 [.v (.int .i64 p0), .v (.int .i64 p1)] [] w R = VCTryz47 p0 p1 w R := by kernel_rfl
def VCTryz48 (p0 : Option Addr) (p1 : Int) (p2 : Int) (w : World) (R : Ending → World → Prop) : Prop :=
SX.Ptr p0 fun (a0 : Addr) =>
 ∃ (q1 : Option Addr),
  ∃ (n2 : Nat),
   ∃ (n3 : Nat),
    w.cell? (a0.add (0 : Nat)) = some (Value.slice q1 n2 n3) ∧
     bif decide (p2 > (0 : Int)) then
      Wr IntKind.i64 (p1 + p2) fun (i4 : Int) =>
       Wr IntKind.i64 (i4 + (511 : Int)) fun (i5 : Int) =>
        (512 : Int) ≠ (0 : Int) ∧
         Wr IntKind.i64 (i5.tdiv (512 : Int)) fun (i6 : Int) =>
          bif decide (i6 > (↑n2 : Int)) then
           Wr IntKind.i64 (p1 + p2) fun (i7 : Int) =>
            Wr IntKind.i64 (i7 + (511 : Int)) fun (i8 : Int) => (512 : Int) ≠ (0 : Int) ∧ Wr IntKind.i64 (i8.tdiv (512 : Int)) fun (i9 : Int) => R (Ending.returned (Value.int IntKind.i64 i9)) w
          else R (Ending.returned (Value.int IntKind.i64 (↑n2 : Int))) w
     else R (Ending.returned (Value.int IntKind.i64 (↑n2 : Int))) w
theorem vcTryz48 (p0 : Option Addr) (p1 : Int) (p2 : Int) (w : World) (R : Ending → World → Prop) : SX.vcFn Tryz.prog [] Tryz.f48 [.v (.pointer p0), .v (.int .i64 p1), .v (.int .i64 p2)] [] w R = VCTryz48 p0 p1 p2 w R := by kernel_rfl
def VCTryz80 (w : World) (R : Ending → World → Prop) : Prop :=
Runs Tryz.prog (Instr.makeSlice (30 : Nat) (Value.int IntKind.i64 (512 : Int)) (Value.int IntKind.i64 (512 : Int))) w fun (v0 : Value) (w1 : World) =>
 ∃ (q2 : Option Addr), ∃ (n3 : Nat), ∃ (n4 : Nat), v0 = Value.slice q2 n3 n4 ∧ Keeps w w1 [] ∧ ∃ (s5 : ByteArray), s5.size = n3 ∧ BytesAt w1 q2 s5 ∧ R (Ending.returned (Value.string s5)) w1
theorem vcTryz80 (w : World) (R : Ending → World → Prop) : SX.vcFn Tryz.prog [] Tryz.f80 [] [] w R = VCTryz80  w R := by kernel_rfl
def VCTryz86 (p0 : Int) (p1 : Int) (w : World) (R : Ending → World → Prop) : Prop :=
Runs Tryz.prog (Instr.makeSlice (30 : Nat) (Value.int IntKind.i64 (512 : Int)) (Value.int IntKind.i64 (512 : Int))) w fun (v0 : Value) (w1 : World) =>
 ∃ (q2 : Option Addr),
  ∃ (n3 : Nat),
   ∃ (n4 : Nat),
    v0 = Value.slice q2 n3 n4 ∧
     Keeps w w1 [] ∧
      ∃ (I5 : Int → World → Prop),
       ∃ (I6 : Int → World → Nat),
        I5 (0 : Int) w1 ∧
         ∀ (i7 : Int) (w8 : World),
          I5 i7 w8 →
           bif decide (i7 < (512 : Int)) then
            Wr IntKind.i64 p1 fun (i9 : Int) =>
             Wr IntKind.i64 ((7 : Int) * p0) fun (i10 : Int) =>
              Wr IntKind.i64 (i9 + i10) fun (i11 : Int) =>
               Wr IntKind.i64 (i11 + i7) fun (i12 : Int) =>
                (256 : Int) ≠ (0 : Int) ∧
                 Wr IntKind.u8 (i12.tmod (256 : Int)) fun (i13 : Int) =>
                  ((0 : Int) ≤ i7 ∧ i7 < (↑n3 : Int)) ∧
                   SX.Ptr q2 fun (a14 : Addr) =>
                    (∃ (v15 : Value), w8.cell? ((a14.add (i7.toNat * (1 : Nat))).add (0 : Nat)) = some v15) ∧
                     w8.frozen? ((a14.add (i7.toNat * (1 : Nat))).add (0 : Nat)) = false ∧
                      Wr IntKind.i64 (i7 + (1 : Int)) fun (i16 : Int) =>
                       I5 i16 (w8.setCell ((a14.add (i7.toNat * (1 : Nat))).add (0 : Nat)) (Value.int IntKind.u8 i13)) ∧
                        I6 i16 (w8.setCell ((a14.add (i7.toNat * (1 : Nat))).add (0 : Nat)) (Value.int IntKind.u8 i13)) < I6 i7 w8
           else ∃ (s17 : ByteArray), s17.size = n3 ∧ BytesAt w8 q2 s17 ∧ R (Ending.returned (Value.string s17)) w8
theorem vcTryz86 (p0 : Int) (p1 : Int) (w : World) (R : Ending → World → Prop) : SX.vcFn Tryz.prog [(3, ⟨[(6, .int .i64)], [0, 1, 5], []⟩)] Tryz.f86 [.v (.int .i64 p0), .v (.int .u8 p1)] [] w R = VCTryz86 p0 p1 w R := by kernel_rfl
end Go.Proofs.YtlgkcbdpaffigaaGreat

namespace Go.Proofs.YtlgkcbdpaffigaaGreat
open Go Go.SX Go.Proofs
set_option maxRecDepth 100000
set_option linter.unusedVariables false
set_option linter.unusedSimpArgs false
theorem c65n (a n : Int) (w : World) : Rets Tryz.prog 43 #[.pointer none, .int .i64 a, .int .i64 n] w fun v w' => w' = w ∧ v = .tuple #[.int .i64 0, .bool false] := by
  refine ent [_, _, _] Tryz.func43 ((vcTryz43 _ _ _ w _).mpr ?_)
  unfold VCTryz43
  exact bif_b (fun _ => ⟨_, rfl, rfl, rfl⟩) (fun hh => by cases hh)
end Go.Proofs.YtlgkcbdpaffigaaGreat

namespace Go.Proofs.YtlgkcbdpaffigaaGreat
open Go Go.SX Go.Proofs
set_option maxRecDepth 100000
set_option linter.unusedVariables false
def VCTryz38 (p0 : Option Addr) (n0 c0 : Nat) (w : World) (R : Ending → World → Prop) : Prop :=
bif p0.isNone then R (Ending.returned (Value.slice none (0 : Nat) (0 : Nat))) w
else
 Runs Tryz.prog (Instr.buildSlice (34 : Nat) (0 : Nat) #[]) w fun (v0 : Value) (w1 : World) =>
  ∃ (q2 : Option Addr),
   ∃ (n3 : Nat),
    ∃ (n4 : Nat),
     v0 = Value.slice q2 n3 n4 ∧
      Keeps w w1 [] ∧
       Runs Tryz.prog (Builtin.append_ #[(34 : Nat), (34 : Nat)] (34 : Nat) #[Value.slice q2 n3 n4, Value.slice p0 n0 c0]) w1 fun (v5 : Value) (w6 : World) =>
        ∃ (q7 : Option Addr), ∃ (n8 : Nat), ∃ (n9 : Nat), v5 = Value.slice q7 n8 n9 ∧ Keeps w1 w6 [] ∧ R (Ending.returned (Value.slice q7 n8 n9)) w6
theorem vcTryz38 (p0 : Option Addr) (n0 c0 : Nat) (w : World) (R : Ending → World → Prop) : SX.vcFn Tryz.prog [] Tryz.f38 [.v (.slice p0 n0 c0)] [] w R = VCTryz38 p0 n0 c0 w R := by kernel_rfl
end Go.Proofs.YtlgkcbdpaffigaaGreat

namespace Go.Proofs.YtlgkcbdpaffigaaGreat
open Go Go.SX Go.Proofs
set_option maxRecDepth 100000
set_option linter.unusedVariables false
set_option linter.unusedSimpArgs false
def s3 (w : World) (f t : ByteArray) (i : Int) : World := (((w.alloc (.cells #[.string { data := #[] }, .string { data := #[] }, .int .i64 0] 100)).setCell ⟨w.heap.size, 0, none⟩ (.string f)).setCell ⟨w.heap.size, 1, none⟩ (.string t)).setCell ⟨w.heap.size, 2, none⟩ (.int .i64 i)
theorem s3_def (w : World) (f t : ByteArray) (i : Int) : (((w.alloc (.cells #[.string { data := #[] }, .string { data := #[] }, .int .i64 0] 100)).setCell ⟨w.heap.size, 0, none⟩ (.string f)).setCell ⟨w.heap.size, 1, none⟩ (.string t)).setCell ⟨w.heap.size, 2, none⟩ (.int .i64 i) = s3 w f t i := rfl
theorem s3_kp (w : World) (f t : ByteArray) (i : Int) : Kp none_ w (s3 w f t i) ∧ w.heap.size < (s3 w f t i).heap.size := by
  constructor
  · have k0 : Kp none_ w (w.alloc (.cells #[.string { data := #[] }, .string { data := #[] }, .int .i64 0] 100)) := (Kp.refl none_ w).alloc1 _
    have st : ∀ {W : World} (i : Nat) (v : Value), Kp none_ w W → Kp none_ w (W.setCell ⟨w.heap.size, i, none⟩ v) := fun i v k => k.setCell (x := ⟨w.heap.size, i, none⟩) v (.inr (Nat.le_refl _))
    exact st 2 _ (st 1 _ (st 0 _ k0))
  · unfold s3
    simp only [set_size, alloc_size]
    omega
theorem last_take (S : List Ent) (ws : List Chg) {j : Nat} (h : j < ws.length) : lastE S (ws.take (j + 1)) = doL (lastE S (ws.take j)) ws[j] := by
  rw [List.take_succ_eq_append_getElem h, last_snoc]
theorem DRg.wait {O : Nat → Prop} {w : World} {b o : Nat} {N S : List Ent} {ws : List Chg} (h : DRg w O b o N S ws) : ∃ q c, w.cell? ⟨b, o + 2, none⟩ = some (.slice q ws.length c) ∧ RowsAt w 3 chC q ws := by
  obtain ⟨m0, m1, vw, own, h1, h2, _, _, _, _, _, h9⟩ := h
  obtain ⟨q, c, rfl⟩ := h9.slice
  exact ⟨q, c, h1.get 2 rfl, rows_of chC_len (by omega) h9⟩
theorem c40 {w : World} {O : Nat → Prop} {b o : Nat} {S : List Ent} {ws : List Chg} (h : DR w O b o S ws) (hO : ∀ i, O i → i < w.heap.size) (hS : WfE S) (hok : okCs S ws) (hws : ws.length ≤ 1000000) (n : Int) : Rets Tryz.prog 58 #[ptA b o, .int .i64 n] w fun v w' =>
    v = .tuple #[] ∧ DR w' (fun i => O i ∨ w.heap.size ≤ i) b o (lastE S (ws.take n.toNat)) [] ∧ Kp O w w' ∧ Nb b o 3 w w' := by
  refine ent [_, _] Tryz.func58 ((vcTryz58 _ _ w _).mpr ?_)
  unfold VCTryz58
  refine bif_b (fun hh => by cases hh) (fun _ => ?_)
  obtain ⟨m0, m1, vw, own, h1, h2, h3, h4, h5, h6, h8, h9⟩ := h
  have hb := h1.lt (by simp)
  simp only [ptr_some, ad3, Nat.add_zero, s3_def]
  have kn : Kp none_ w (w.alloc (.map #[] 0)) := (Kp.refl none_ _).alloc1 _
  have zn : (w.alloc (.map #[] 0)).heap.size = w.heap.size + 1 := alloc_size _ _
  have mn := MapE.new w
  generalize w.alloc (.map #[] 0) = wn at *
  have cn := h1.kp0 kn
  obtain ⟨g1, g2⟩ := cn.slot 0 (by simp)
  have c1 := cn.set 0 (.map (some w.heap.size))
  have ks : Kp (one_ b) wn (wn.setCell ⟨b, o, none⟩ (.map (some w.heap.size))) := kp_set _ _ _ _
  have nb1 : Nb b o 3 w (wn.setCell ⟨b, o, none⟩ (.map (some w.heap.size))) := (Nb.of_kp kn hb id).trans (Nb.set _ (i := 0) (by omega) _)
  have hsz := set_size wn ⟨b, o, none⟩ (.map (some w.heap.size))
  have c1' : Cs (wn.setCell ⟨b, o, none⟩ (.map (some w.heap.size))) b o [.map (some w.heap.size), .map m1, vw] := by simpa using c1
  have m1b := mapO_ne h4 (h1.get 0 rfl)
  have m1lt := mapO_lt h4
  refine ⟨g1, g2, ?_⟩
  generalize wn.setCell ⟨b, o, none⟩ (.map (some w.heap.size)) = w1 at *
  have kd : Kp none_ w1 w1.drew := Kp.drew1
  have cd := c1'.kp0 kd
  refine ⟨_, cd.get 0 rfl, _, cd.get 1 rfl, ?_⟩
  have M1 : MapO w1.drew m1 S := ((h4.kp kn fun _ _ => id).kp ks m1b).kp kd fun _ _ => id
  have R1 : MapE w1.drew w.heap.size [] := (mn.kp ks (by show ¬ w.heap.size = b; omega)).kp kd id
  refine (c85 R1 M1 (asc_nk hS.asc) (fun e => by have := m1lt _ e; omega)).mono ?_
  rintro v w2 ⟨rfl, r2, k2⟩
  have k2' := Kp.of_drew k2
  have z2 := k2'.size
  have c2 := c1'.kp k2' (by show ¬ b = w.heap.size; omega)
  have K2 : Kp O w w2 := (((kn.wide : Kp O w wn).trans (ks.mono fun i _ hi => by have hi : i = b := hi; rw [hi]; exact h2)).then k2' fun i hi hh => by have hh : i = w.heap.size := hh; omega)
  have nb2 : Nb b o 3 w w2 := nb1.trans (Nb.of_kp k2' (by omega) (by show ¬ b = w.heap.size; omega))
  have ownb : ∀ i, own i → i ≠ b := fun i hi => (h8 i hi).2.1
  have row2 : OwnRow w2 (fun i => own i ∧ i < w.heap.size) 100 3 vw ws.length (flatC chC ws) := (((h9.mono fun i hi hl => ⟨hi, hl⟩).kp kn fun _ _ _ _ _ => id).kp ks fun g n cap _ hg e => ownb g hg.1 e).kp k2' fun g n cap _ hg e => by have e : g = w.heap.size := e; omega
  have D2 : DRg w2 (fun i => O i ∨ w.heap.size ≤ i) b o S S ws := by
    refine ⟨some w.heap.size, m1, vw, fun i => own i ∧ i < w.heap.size, c2, .inl h2, r2, ?_, fun r e => ⟨.inr (by cases e; omega), fun e' => by cases e; have := m1lt _ e'; omega⟩, fun r e => .inl (h6 r e), fun i hi => ⟨.inl (h8 i hi.1).1, ownb i hi.1, fun e => by have := Option.some.inj e; omega, (h8 i hi.1).2.2.2⟩, row2⟩
    exact (((h4.kp kn fun _ _ => id).kp ks m1b).kp k2' fun r e hh => by have hh : r = w.heap.size := hh; have := m1lt r e; omega)
  obtain ⟨q, c, ew, rw_⟩ := D2.wait
  refine ⟨rfl, k2.keeps0, _, _, _, ew, ?_⟩
  have fin : ∀ {w5 w6 : World} {j : Nat}, DR w6 (fun i => ((O i ∨ w.heap.size ≤ i) ∧ i < w5.heap.size) ∨ w5.heap.size ≤ i) b o (lastE S (ws.take j)) [] → lastE S (ws.take j) = lastE S (ws.take n.toNat) → Kp O w w5 → Nb b o 3 w w5 → Kp (fun i => (O i ∨ w.heap.size ≤ i) ∧ i < w5.heap.size) w5 w6 → Nb b o 3 w5 w6 →
      ∃ v, Ending.returned (.tuple #[]) = Ending.returned v ∧ v = .tuple #[] ∧ DR w6 (fun i => O i ∨ w.heap.size ≤ i) b o (lastE S (ws.take n.toNat)) [] ∧ Kp O w w6 ∧ Nb b o 3 w w6 := fun {w5 w6 j} d e k5 n5 k6 n6 => ⟨_, rfl, rfl, by
    have := k5.size
    rw [← e]
    exact d.mono fun i _ hi => hi.elim (fun h => h.1) fun h => .inr (by omega), k5.then k6 fun i hi hh => hh.1.elim id fun h => by omega, n5.trans n6⟩
  refine ⟨fun i w' => ∃ j : Nat, i = j ∧ j ≤ ws.length ∧ j ≤ n.toNat ∧ DRg w' (fun i => O i ∨ w.heap.size ≤ i) b o (lastE S (ws.take j)) S ws ∧ w'.cell? ⟨b, o, none⟩ = some (.map (some w.heap.size)) ∧ RowsAt w' 3 chC q ws ∧ Kp O w w' ∧ Nb b o 3 w w' ∧ w.heap.size < w'.heap.size, fun i _ => (ws.length - i).toNat, ⟨0, rfl, by omega, by omega, D2, by simpa using c2.get 0 rfl, rw_, K2, nb2, by omega⟩, ?_⟩
  rintro i w3 ⟨j, rfl, hj, hjn, D3, C3, R3, K3, nb3, z3⟩
  have cutD : ∀ {w5 : World}, DRg w5 (fun i => O i ∨ w.heap.size ≤ i) b o (lastE S (ws.take j)) S ws → DRg w5 (fun i => (O i ∨ w.heap.size ≤ i) ∧ i < w5.heap.size) b o (lastE S (ws.take j)) S ws := fun d => d.mono fun i hl hi => ⟨hi, hl⟩
  refine bif_dec (fun hlt => ?_) (fun hge => ?_)
  · have hjl : j < ws.length := by omega
    refine ⟨⟨by omega, by omega⟩, R3.get hjl fun x hx hc => ⟨_, _, _, ⟨hc 0 _ rfl, hc 1 _ rfl, hc 2 _ rfl, trivial⟩, ?_⟩⟩
    obtain ⟨k4, z4⟩ := s3_kp w3 (ba ws[j].fr) (ba ws[j].tr) ws[j].id
    simp only [s3_def]
    have D3c := (cutD D3).kp0 k4
    generalize s3 w3 (ba ws[j].fr) (ba ws[j].tr) ws[j].id = w4 at *
    have keep : ∀ {w5 w6 : World}, w3.heap.size < w5.heap.size → Kp (fun i => (O i ∨ w.heap.size ≤ i) ∧ i < w3.heap.size) w5 w6 → Keeps w5 w6 [w3.heap.size] := fun hz k => k.keeps fun i hi => by
      rw [List.mem_singleton] at hi
      subst hi
      exact ⟨hz, fun hh => by omega⟩
    refine bif_dec (fun hbr => ?_) (fun hgo => ?_)
    · intro _
      refine (c38g D3c).mono ?_
      rintro v w5 ⟨rfl, d5, k5, n5⟩
      refine ⟨rfl, keep z4 k5, fun _ => fin (w5 := w4) (j := j) (d5.mono fun i _ hi => ?_) (by rw [show j = n.toNat by omega]) (K3.trans k4.wide) (nb3.trans (Nb.of_kp k4 (by omega) id)) (k5.mono fun i _ hi => ⟨hi.1, by omega⟩) n5⟩
      rcases hi with hi | hi
      · exact .inl ⟨hi.1, by omega⟩
      · exact .inr hi
    · -- one more change
      obtain ⟨n0, n1, vx, own', x1, x2, x3, x4, x5, x6, x8, x9⟩ := D3c.kp0 (Kp.drew1 (S := none_))
      refine ⟨_, x1.get 0 rfl, fun _ => ?_⟩
      have hwf := wf_last hS (okCs_take hok j)
      have hokj : okC (lastE S (ws.take j)) ws[j] := by
        have := okCs_take hok (j + 1)
        rw [List.take_succ_eq_append_getElem hjl] at this
        exact (okCs_snoc.1 this).2
      have C4 : w4.drew.cell? ⟨b, o, none⟩ = some (.map (some w.heap.size)) := k4.cell0 C3
      have hn0 : n0 = some w.heap.size := by
        have h' := x1.get 0 rfl
        rw [Nat.add_zero] at h'
        rw [C4] at h'
        cases h'
        rfl
      subst hn0
      have e4 : Rets Tryz.prog 85 #[.map (some w.heap.size), chV ws[j]] w4.drew _ := c86 x3 hwf.asc ws[j]
      refine e4.mono ?_
      rintro v w5 ⟨rfl, r5, k5⟩
      have hrb : w.heap.size ≠ b := by omega
      have z5 := k5.size
      have z5' : w4.heap.size ≤ w5.heap.size := z5
      have R4 : RowsAt w4.drew 3 chC q ws := R3.kp0 k4.drew
      have xb : b ≠ w.heap.size := by omega
      refine ⟨rfl, k5.keeps fun i hi => ?_, wr64 (by omega) ⟨⟨j + 1, by omega, by omega, by omega, ?_, ?_, ?_, ?_, ?_, by omega⟩, by first | omega | (dsimp only; omega)⟩⟩
      · rw [List.mem_singleton] at hi
        subst hi
        exact ⟨z4, fun e => by have e : w3.heap.size = w.heap.size := e; omega⟩
      · have : DRg w5 (fun i => (O i ∨ w.heap.size ≤ i) ∧ i < w3.heap.size) b o (doL (lastE S (ws.take j)) ws[j]) S ws := ⟨some w.heap.size, n1, vx, own', x1.kp k5 (fun e => xb e), x2, r5, x4.kp k5 fun r e hh => (x5 _ rfl).2 (by rw [e]; congr 1), x5, x6, x8, x9.kp k5 fun g n cap _ hg e => (x8 g hg).2.2.1 (by congr 1; exact e.symm)⟩
        rw [last_take S ws hjl]
        exact this.mono fun i _ hi => hi.1
      · exact (k5.cell (by simpa using C4) (fun e => xb e))
      · refine R4.kp k5 fun h0 a ea e => ?_
        obtain ⟨a', ea', hc'⟩ := R4 0 h0
        rw [ea] at ea'
        cases ea'
        have := ne_cell x3 (hc' 0 _ rfl)
        rw [add_block, add_block] at this
        exact this e.symm
      · exact (K3.trans k4.wide).then ((Kp.drew1 (S := one_ w.heap.size)).trans k5) fun i hi hh => by have hh : i = w.heap.size := hh; omega
      · exact (nb3.trans (Nb.of_kp k4 (by omega) id)).trans (Nb.of_kp ((Kp.drew1 (S := one_ w.heap.size)).trans k5) (by omega) (fun e => xb e))
  · have ej : j = ws.length := by omega
    refine (c38g (cutD D3)).mono ?_
    rintro v w5 ⟨rfl, d5, k5, n5⟩
    refine ⟨rfl, k5.keeps0, fin (w5 := w3) (j := j) d5 ?_ K3 nb3 k5 n5⟩
    rw [List.take_of_length_le (by omega), List.take_of_length_le (by omega)]
end Go.Proofs.YtlgkcbdpaffigaaGreat

namespace Go.Proofs.YtlgkcbdpaffigaaGreat
open Go Go.SX Go.Proofs
set_option maxRecDepth 100000
set_option linter.unusedVariables false
set_option linter.unusedSimpArgs false
theorem kp_of_below {w w' : World} (h : Go.RowKit.Below w.heap.size w w') : Kp none_ w w' := by
  obtain ⟨a, b, c, d, e⟩ := h
  exact ⟨a, b, c, fun x hx => by unfold World.frozen?; rw [e _ hx], d, fun i hi _ => e i hi⟩
noncomputable def i3 : TypeInfo := (Tryz.prog.info? 3).get (by kernel_rfl)
theorem flat_int (l : List Int) : flatC intC l = l.map (.int .i64) := by
  induction l with
  | nil => rfl
  | cons x r ih =>
    have : flatC intC (x :: r) = .int .i64 x :: flatC intC r := rfl
    rw [this, ih]
    rfl
theorem Tryz.underlying34x : Tryz.prog.underlying 34 = some (.slice 3) := by kernel_rfl
theorem info3x : ∃ i, Tryz.prog.info? 3 = some i := ⟨i3, (Option.some_get _).symm⟩
/-- No numbers, copied. -/
theorem c75o (q : Option Addr) (c : Nat) (w : World) : Rets Tryz.prog 38 #[.slice q 0 c] w fun v w' => (∃ q' c', v = .slice q' 0 c' ∧ ∀ a, q' = some a → w.heap.size ≤ a.block) ∧ Kp none_ w w' := by
  refine ent [_] Tryz.func38 ((vcTryz38 _ _ _ w _).mpr ?_)
  unfold VCTryz38
  refine bif_b (fun _ => ⟨_, rfl, ⟨none, 0, rfl, fun a e => by cases e⟩, Kp.refl _ _⟩) (fun _ => ?_)
  refine lit_own (size := 1) Tryz.underlying34x info3x fun w1 o1 k1 => ?_
  refine ⟨_, _, _, rfl, k1.keeps0, ?_⟩
  refine ⟨_, _, append_zero Tryz.underlying34x info3x o1 q c, _, _, _, rfl, (Kp.refl none_ _).keeps0, _, rfl, ⟨_, _, rfl, fun a e => ?_⟩, k1⟩
  cases e
  exact Nat.le_refl _
/-- A list of numbers, copied. -/
theorem clone_int {w : World} {q : Option Addr} {c : Nat} {l : List Int} (h : RowsAt w 1 intC q l) (hl : l.length ≤ 1000000) (h0 : l = [] ∨ ∃ b off, q = some ⟨b, off, none⟩) : Rets Tryz.prog 38 #[.slice q l.length c] w fun v w' => ∃ (q' : Option Addr) (c' : Nat), v = .slice q' l.length c' ∧ RowsAt w' 1 intC q' l ∧ (∀ a, q' = some a → w.heap.size ≤ a.block) ∧ Kp none_ w w' := by
  rcases h0 with rfl | ⟨b, off, rfl⟩
  · refine (c75o q c w).mono ?_
    rintro v w' ⟨⟨q', c', rfl, hq⟩, k⟩
    exact ⟨q', c', rfl, (fun i hi => by simp at hi), hq, k⟩
  · have hc := Tryz.slices_Clone i3 (.int .i64 0) 1 8 (Option.some_get _).symm (by kernel_rfl) (by kernel_rfl) (by kernel_rfl) rfl (by omega) (fun w => by kernel_rfl) b off l.length c (l.map (.int .i64)) w (by simp) (by unfold maxLen; omega) (by omega) (fun j u hj => by
      rw [List.getElem?_map] at hj
      have hjl : j < l.length := by
        cases hh : l[j]? with
        | none => rw [hh] at hj; cases hj
        | some x => exact (List.getElem?_eq_some_iff.1 hh).1
      rw [List.getElem?_eq_getElem hjl] at hj
      cases hj
      obtain ⟨a, ea, ha⟩ := h j hjl
      cases ea
      have := ha 0 _ rfl
      rw [Nat.mul_one, cell_add0, ad_add] at this
      exact this) (fun u hu => by
      obtain ⟨x, _, rfl⟩ := List.mem_map.1 hu
      rfl)
    refine Calls.mono hc ?_
    rintro e w' ⟨v', rfl, ho, hne, hb⟩
    have ho : OwnRow w' (fun i => w.heap.size ≤ i) 3 1 v' l.length (l.map (.int .i64)) := ho
    obtain ⟨q', c', rfl⟩ := ho.slice
    have fl := flat_int l
    rw [← fl] at ho
    refine ⟨_, rfl, q', c', rfl, rows_of intC_len (by omega) ho, ?_, kp_of_below hb⟩
    intro a e
    rcases ho.2 with ⟨e1, _⟩ | ⟨g, cap, cur, e1, hg, _⟩
    · injection e1 with e1 _ _; rw [e1] at e; cases e
    · injection e1 with e1 _ _; rw [e1] at e; cases e; exact hg
/-- Neighbours have changed; a directory has not. -/
theorem DR.nb {O : Nat → Prop} {w w' : World} {b o p n : Nat} {S : List Ent} {ws : List Chg} (h : DR w O b o S ws) (k : Kp (one_ b) w w') (nb : Nb b p n w w') (hd : o + 3 ≤ p ∨ p + n ≤ o) : DR w' O b o S ws := by
  obtain ⟨m0, m1, vw, own, h1, h2, h3, h4, h5, h6, h8, h9⟩ := h
  refine ⟨m0, m1, vw, fun i => own i ∧ i < w.heap.size, h1.nb k nb (by simpa using hd), h2, h3.kp k (mapO_ne h3 (h1.get 0 rfl)), h4.kp k (mapO_ne h4 (h1.get 0 rfl)), h5, h6, fun i hi => h8 i hi.1, (h9.mono (own' := fun i => own i ∧ i < w.heap.size) fun i hi hl => ⟨hi, hl⟩).kp k fun g n cap _ hg e => (h8 g hg.1).2.1 e⟩
def ptC (d : Nat) : List Value := [.pointer (some ⟨d, 0, none⟩)]
theorem ptC_len (d : Nat) : (ptC d).length = 1 := rfl
theorem ptC_one (d : Nat) : ∀ u ∈ ptC d, u.oneCell' = true := fun u hu => by
  simp only [ptC, List.mem_cons, List.not_mem_nil, or_false] at hu
  subst hu
  rfl
theorem elem36 : elemOk Tryz.prog 80 1 = true := by kernel_rfl
/-- The program's files by names. -/
def FSM (w : World) (O : Nat → Prop) (b : Nat) (Ds : List Nat) (S : List Ent) (ws : List Chg) (cap k r : Int) (rl : List Int) : Prop :=
  ∃ (dv : Value) (own Od : Nat → Prop) (rq : Option Addr) (rc : Nat), Cs w b 0 [dv] ∧ DR w Od b 1 S ws ∧ Cs w b 4 [.int .i64 cap, .int .i64 k, .int .i64 r, .slice rq rl.length rc] ∧ OwnRow w own 80 1 dv Ds.length (flatC ptC Ds) ∧ RowsAt w 1 intC rq rl ∧ (0 < rl.length → ∀ a, rq = some a → O a.block ∧ a.block ≠ b ∧ ¬ Od a.block ∧ ¬ own a.block) ∧ (∀ i, own i → O i ∧ ¬ Od i) ∧ (∀ i, Od i → O i)
theorem FSM.lt {w : World} {O : Nat → Prop} {b : Nat} {Ds : List Nat} {S : List Ent} {ws : List Chg} {cap k r : Int} {rl : List Int} (h : FSM w O b Ds S ws cap k r rl) : b < w.heap.size ∧ O b := by
  obtain ⟨dv, own, Od, rq, rc, h1, h2, h3, h4, h5, h6, h7, h8⟩ := h
  exact ⟨h2.lt.1, h8 _ h2.lt.2⟩
theorem c51 {w : World} {O : Nat → Prop} {b : Nat} {Ds : List Nat} {S : List Ent} {ws : List Chg} {cap k r : Int} {rl : List Int} (h : FSM w O b Ds S ws cap k r rl) : Rets Tryz.prog 12 #[ptA b 0] w fun v w' => v = .tuple #[.int .i64 k, .int .i64 r] ∧ w' = w.drew := by
  refine ent [_] Tryz.func12 ((vcTryz12 _ w _).mpr ?_)
  unfold VCTryz12
  obtain ⟨dv, own, Od, rq, rc, h1, h2, h3, h4, h5, h6, h7, h8⟩ := h
  refine bif_b (fun hh => by cases hh) (fun _ => ?_)
  simp only [ptr_some, ad3, Nat.zero_add]
  exact ⟨_, h3.get 1 rfl, _, h3.get 2 rfl, _, rfl, rfl, trivial⟩
/-- A call is counted. -/
def refE (rl : List Int) (k : Int) : Int := if k + 1 ∈ rl then 10 else 0
def refN (rl : List Int) (k r : Int) : Int := if k + 1 ∈ rl then r + 1 else r
theorem c76 {w : World} {O : Nat → Prop} {b : Nat} {Ds : List Nat} {S : List Ent} {ws : List Chg} {cap k r : Int} {rl : List Int} (h : FSM w O b Ds S ws cap k r rl) (hk : 0 ≤ k ∧ k ≤ 1000000) (hr : 0 ≤ r ∧ r ≤ 1000000) (hl : rl.length ≤ 1000000) : Rets Tryz.prog 40 #[ptA b 0] w fun v w' => v = .int .i64 (refE rl k) ∧ FSM w' O b Ds S ws cap (k + 1) (refN rl k r) rl ∧ Kp (one_ b) w w' := by
  refine ent [_] Tryz.func40 ((vcTryz40 _ w _).mpr ?_)
  unfold VCTryz40
  obtain ⟨dv, own, Od, rq, rc, h1, h2, h3, h4, h5, h6, h7, h8⟩ := h
  refine bif_b (fun hh => by cases hh) (fun _ => ?_)
  simp only [ptr_some, ad3, Nat.zero_add, Nat.add_zero]
  obtain ⟨g1, g2⟩ := h3.slot 1 (by simp)
  have k1 : Kp (one_ b) w (w.setCell ⟨b, 5, none⟩ (.int .i64 (k + 1))) := kp_set _ _ _ _
  have n1 : Nb b 4 4 w (w.setCell ⟨b, 5, none⟩ (.int .i64 (k + 1))) := Nb.set w (b := b) (o := 4) (i := 1) (by omega) _
  have c1 : Cs (w.setCell ⟨b, 5, none⟩ (.int .i64 (k + 1))) b 4 [.int .i64 cap, .int .i64 (k + 1), .int .i64 r, .slice rq rl.length rc] := h3.set 1 (.int .i64 (k + 1))
  refine ⟨_, h3.get 1 rfl, wr64 (by omega) ⟨g1, g2, ?_⟩⟩
  generalize w.setCell ⟨b, 5, none⟩ (.int .i64 (k + 1)) = w1 at *
  have r1 : RowsAt w1 1 intC rq rl := h5.kp k1 fun h0 a e hh => (h6 h0 a e).2.1 hh
  have lay : ∀ {w2 : World} {rr : Int}, Kp (one_ b) w w2 → Nb b 4 4 w w2 → Cs w2 b 4 [.int .i64 cap, .int .i64 (k + 1), .int .i64 rr, .slice rq rl.length rc] → FSM w2 O b Ds S ws cap (k + 1) rr rl := fun {w2 rr} k2 n2 c2 =>
    ⟨dv, fun i => own i ∧ i < w.heap.size, Od, rq, rc, h1.nb k2 n2 (.inl (by simp)), h2.nb k2 n2 (.inl (by omega)), c2, (h4.mono (own' := fun i => own i ∧ i < w.heap.size) fun i hi hl => ⟨hi, hl⟩).kp k2 (fun g n cap _ hg e => by have e : g = b := e; rw [e] at hg; exact (h7 b hg.1).2 h2.lt.2), h5.kp k2 (fun h0 a e hh => (h6 h0 a e).2.1 hh), fun h0 a e => ⟨(h6 h0 a e).1, (h6 h0 a e).2.1, (h6 h0 a e).2.2.1, fun hh => (h6 h0 a e).2.2.2 hh.1⟩, fun i hi => h7 i hi.1, h8⟩
  refine ⟨_, _, _, c1.get 3 rfl, fun i e w' => ∃ j : Nat, i = j ∧ j ≤ rl.length ∧ e = 0 ∧ w' = w1 ∧ ∀ x (hx : x < rl.length), x < j → rl[x] ≠ k + 1, fun i _ _ => (rl.length - i).toNat, ⟨0, rfl, by omega, rfl, rfl, fun x hx h => by omega⟩, ?_⟩
  rintro i e w2 ⟨j, rfl, hj, rfl, rfl, hn⟩
  refine bif_dec (fun hi => ?_) (fun hi => ?_)
  · have hjl : j < rl.length := by omega
    refine ⟨⟨by omega, hi⟩, r1.get hjl fun a ea hc => ⟨_, (cell_add0 _ _).symm.trans (hc 0 _ rfl), _, c1.get 1 rfl, bif_eq (fun he => ?_) (fun he => ?_)⟩⟩
    · have hm : k + 1 ∈ rl := by rw [← he]; exact List.getElem_mem hjl
      obtain ⟨g3, g4⟩ := c1.slot 2 (by simp)
      refine ⟨_, c1.get 2 rfl, wr64 (by omega) ⟨g3, g4, _, rfl, ?_, ?_, ?_⟩⟩
      · unfold refE; rw [if_pos hm]
      · unfold refN
        rw [if_pos hm]
        exact lay (k1.trans (kp_set _ _ _ _)) (n1.trans (Nb.set w2 (b := b) (o := 4) (i := 2) (by omega) _)) (c1.set 2 (.int .i64 (r + 1)))
      · exact k1.trans (kp_set _ _ _ _)
    · refine wr64 (by omega) ⟨⟨j + 1, by omega, by omega, rfl, rfl, fun x hx hxj => ?_⟩, by first | omega | (dsimp only; omega)⟩
      by_cases ee : x = j
      · subst ee; exact he
      · exact hn x hx (by omega)
  · have hm : k + 1 ∉ rl := fun hm => by
      obtain ⟨x, hx, e⟩ := List.getElem_of_mem hm
      exact hn x hx (by omega) e
    refine ⟨_, rfl, ?_, ?_, k1⟩
    · unfold refE; rw [if_neg hm]
    · unfold refN; rw [if_neg hm]
      exact lay k1 n1 c1
end Go.Proofs.YtlgkcbdpaffigaaGreat

namespace Go.Proofs.YtlgkcbdpaffigaaGreat
open Go Go.SX Go.Proofs
set_option maxRecDepth 100000
set_option linter.unusedVariables false
set_option linter.unusedSimpArgs false
/-- Nothing is there yet. -/
theorem c24 (cap : Int) (w : World) : Rets Tryz.prog 7 #[.int .i64 cap] w fun v w' => v = ptA w.heap.size 0 ∧ FSM w' (fun i => w.heap.size ≤ i) w.heap.size [] [] [] (maxI 0 (minI 65536 cap)) 0 0 [] ∧ Kp none_ w w' := by
  refine ent [_] Tryz.func7 ((vcTryz7 _ w _).mpr ?_)
  unfold VCTryz7
  intro _
  have ka : Kp none_ w (w.alloc (.cells #[.slice none 0 0, .map none, .map none, .slice none 0 0, .int .i64 (maxI 0 (minI 65536 cap)), .int .i64 0, .int .i64 0, .slice none 0 0] 61)) := (Kp.refl none_ _).alloc1 _
  have Ba : Big (w.alloc (.cells #[.slice none 0 0, .map none, .map none, .slice none 0 0, .int .i64 (maxI 0 (minI 65536 cap)), .int .i64 0, .int .i64 0, .slice none 0 0] 61)) w.heap.size 61 [.slice none 0 0, .map none, .map none, .slice none 0 0, .int .i64 (maxI 0 (minI 65536 cap)), .int .i64 0, .int .i64 0, .slice none 0 0] := Big.new _ _ 61
  generalize w.alloc (.cells #[.slice none 0 0, .map none, .map none, .slice none 0 0, .int .i64 (maxI 0 (minI 65536 cap)), .int .i64 0, .int .i64 0, .slice none 0 0] 61) = W at *
  have sub : ∀ (o : Nat) (vs : List Value), (∀ j v, vs[j]? = some v → ([.slice none 0 0, .map none, .map none, .slice none 0 0, .int .i64 (maxI 0 (minI 65536 cap)), .int .i64 0, .int .i64 0, .slice none 0 0] : List Value)[o + j]? = some v) → Cs W w.heap.size o vs := fun o vs h j v hv => ⟨by rw [Ba.cell]; exact h j v hv, Ba.frz _⟩
  refine ⟨_, rfl, rfl, ⟨.slice none 0 0, none_, fun i => i = w.heap.size, none, 0, sub 0 _ ?_, DR.zero (sub 1 _ ?_) (fun i => i = w.heap.size) rfl, sub 4 _ ?_, OwnRow.nil _ _ _ _, fun i hi => by simp at hi, (fun h0 a e => by cases e), (fun i hi => hi.elim), fun i hi => by omega⟩, ka⟩
  all_goals
    intro j v hv
    match j, hv with
    | 0, hv => exact hv
    | 1, hv => first | exact hv | (simp at hv)
    | 2, hv => first | exact hv | (simp at hv)
    | 3, hv => first | exact hv | (simp at hv)
    | j + 4, hv => simp at hv
theorem FSM.kp {S' O O' : Nat → Prop} {w w' : World} {b : Nat} {Ds : List Nat} {S : List Ent} {ws : List Chg} {cap k r : Int} {rl : List Int} (h : FSM w O b Ds S ws cap k r rl) (kk : Kp S' w w') (hs : ∀ i, i < w.heap.size → O i → ¬ S' i ∧ O' i) : FSM w' O' b Ds S ws cap k r rl := by
  obtain ⟨dv, own, Od, rq, rc, h1, h2, h3, h4, h5, h6, h7, h8⟩ := h
  have hb := h2.lt
  have sb := (hs b hb.1 (h8 _ hb.2)).1
  have rlt : 0 < rl.length → ∀ a, rq = some a → a.block < w.heap.size := fun h0 a e => h5.lt intC_len (by omega) h0 a e
  refine ⟨dv, fun i => own i ∧ i < w.heap.size, fun i => Od i ∧ i < w.heap.size, rq, rc, h1.kp kk sb, h2.kp kk fun i hl hi => ⟨(hs i hl (h8 i hi)).1, hi, hl⟩, h3.kp kk sb, ?_, h5.kp kk fun h0 a e => (hs _ (rlt h0 a e) (h6 h0 a e).1).1, fun h0 a e => ⟨(hs _ (rlt h0 a e) (h6 h0 a e).1).2, (h6 h0 a e).2.1, fun hh => (h6 h0 a e).2.2.1 hh.1, fun hh => (h6 h0 a e).2.2.2 hh.1⟩, fun i hi => ⟨(hs i hi.2 (h7 i hi.1).1).2, fun hh => (h7 i hi.1).2 hh.1⟩, fun i hi => (hs i hi.2 (h8 i hi.1)).2⟩
  exact (h4.mono (own' := fun i => own i ∧ i < w.heap.size) fun i hi hl => ⟨hi, hl⟩).kp kk fun g n cap _ hg => (hs g hg.2 (h7 g hg.1).1).1
theorem FSM.kp0 {O : Nat → Prop} {w w' : World} {b : Nat} {Ds : List Nat} {S : List Ent} {ws : List Chg} {cap k r : Int} {rl : List Int} (h : FSM w O b Ds S ws cap k r rl) (kk : Kp none_ w w') : FSM w' O b Ds S ws cap k r rl := h.kp kk fun i _ hi => ⟨id, hi⟩
theorem FSM.dir {O : Nat → Prop} {w : World} {b : Nat} {Ds : List Nat} {S : List Ent} {ws : List Chg} {cap k r : Int} {rl : List Int} (h : FSM w O b Ds S ws cap k r rl) : ∃ Od, DR w Od b 1 S ws := by
  obtain ⟨dv, own, Od, rq, rc, h1, h2, h3, h4, h5, h6, h7, h8⟩ := h
  exact ⟨Od, h2⟩
theorem FSM.disks {O : Nat → Prop} {w : World} {b : Nat} {Ds : List Nat} {S : List Ent} {ws : List Chg} {cap k r : Int} {rl : List Int} (h : FSM w O b Ds S ws cap k r rl) : ∃ q c, w.cell? ⟨b, 0, none⟩ = some (.slice q Ds.length c) ∧ RowsAt w 1 ptC q Ds := by
  obtain ⟨dv, own, Od, rq, rc, h1, h2, h3, h4, h5, h6, h7, h8⟩ := h
  obtain ⟨q, c, rfl⟩ := h4.slice
  exact ⟨q, c, h1.get 0 rfl, rows_of ptC_len (by omega) h4⟩
/-- What is refused from now on. -/
theorem c27 {w : World} {O : Nat → Prop} {b : Nat} {Ds : List Nat} {S : List Ent} {ws : List Chg} {cap k r : Int} {rl : List Int} (h : FSM w O b Ds S ws cap k r rl) (hO : ∀ i, O i → i < w.heap.size) {q : Option Addr} {c : Nat} {l : List Int} (g : RowsAt w 1 intC q l) (hl : l.length ≤ 1000000) (h0 : l = [] ∨ ∃ b off, q = some ⟨b, off, none⟩) : Rets Tryz.prog 13 #[ptA b 0, .slice q l.length c] w fun v w' => v = .tuple #[] ∧ FSM w' (fun i => O i ∨ w.heap.size ≤ i) b Ds S ws cap k r l ∧ Kp O w w' := by
  refine ent [_, _] Tryz.func13 ((vcTryz13 _ _ _ _ w _).mpr ?_)
  unfold VCTryz13
  refine bif_not (fun _ => ?_) (fun hh => by cases hh)
  refine (clone_int g hl h0).mono ?_
  rintro v w1 ⟨q', c', rfl, g1, f1, k1⟩
  have z1 := k1.size
  simp only [ptr_some, ad3, Nat.zero_add, Nat.add_zero]
  obtain ⟨dv, own, Od, rq, rc, h1, h2, h3, h4, h5, h6, h7, h8⟩ := h.kp0 k1
  have lb := h.lt
  obtain ⟨e1, e2⟩ := h3.slot 3 (by simp)
  have kk : Kp (one_ b) w1 (w1.setCell ⟨b, 7, none⟩ (.slice q' l.length c')) := kp_set _ _ _ _
  have nb : Nb b 4 4 w1 (w1.setCell ⟨b, 7, none⟩ (.slice q' l.length c')) := Nb.set w1 (b := b) (o := 4) (i := 3) (by omega) _
  have cc : Cs (w1.setCell ⟨b, 7, none⟩ (.slice q' l.length c')) b 4 [.int .i64 cap, .int .i64 k, .int .i64 r, .slice q' l.length c'] := h3.set 3 _
  refine ⟨_, _, _, rfl, k1.keeps0, e1, e2, _, rfl, rfl, ⟨dv, own, Od, q', c', h1.nb kk nb (.inl (by simp)), h2.nb kk nb (.inl (by omega)), cc, h4.kp kk (fun g n cap _ hg e => by have e : g = b := e; rw [e] at hg; exact (h7 b hg).2 h2.lt.2), g1.kp kk (fun _ a e hh => by have := f1 a e; have hh : a.block = b := hh; omega), fun _ a e => ?_, fun i hi => ⟨.inl (h7 i hi).1, (h7 i hi).2⟩, fun i hi => .inl (h8 i hi)⟩, ?_⟩
  · have := f1 a e
    exact ⟨.inr this, by omega, fun hh => by have := hO _ (h8 _ hh); omega, fun hh => by have := hO _ (h7 _ hh).1; omega⟩
  · exact k1.wide.trans (kk.mono fun i _ hi => by have hi : i = b := hi; rw [hi]; exact lb.2)
/-- A file's disk, or none. -/
theorem c77 {w : World} {O : Nat → Prop} {b : Nat} {Ds : List Nat} {S : List Ent} {ws : List Chg} {cap k r : Int} {rl : List Int} (h : FSM w O b Ds S ws cap k r rl) (i : Int) : Rets Tryz.prog 42 #[ptA b 0, .int .i64 i] w fun v w' => w' = w ∧ v = .pointer (if 0 ≤ i then (Ds[i.toNat]?).map fun d => ⟨d, 0, none⟩ else none) := by
  refine ent [_, _] Tryz.func42 ((vcTryz42 _ _ w _).mpr ?_)
  unfold VCTryz42
  obtain ⟨q, c, e0, r0⟩ := h.disks
  refine bif_b (fun hh => by cases hh) (fun _ => bif_dec (fun hi => ⟨_, rfl, rfl, by rw [if_neg (by omega)]⟩) (fun hi => ?_))
  simp only [ptr_some, ad3, Nat.zero_add, Nat.add_zero]
  refine ⟨_, _, _, e0, bif_dec (fun hi2 => ⟨_, rfl, trivial, by rw [if_pos (by omega), List.getElem?_eq_none (by omega)]; rfl⟩) (fun hi2 => ⟨_, _, _, e0, ⟨by omega, by omega⟩, r0.get (i := i.toNat) (by omega) fun a ea hc => ⟨_, (cell_add0 _ _).symm.trans (hc 0 _ rfl), _, rfl, trivial, ?_⟩⟩)⟩
  rw [if_pos (by omega), List.getElem?_eq_getElem (by omega)]
  rfl
theorem c33 {w : World} {O : Nat → Prop} {b : Nat} {Ds : List Nat} {S : List Ent} {ws : List Chg} {cap k r : Int} {rl : List Int} (h : FSM w O b Ds S ws cap k r rl) (a : List UInt8) : Rets Tryz.prog 31 #[ptA b 0, .string (ba a)] w fun v w' => w' = w ∧ v = .tuple #[.int .i64 ((lookE (lastE S ws) a).getD 0), .int .i64 (if has Prod.fst (lastE S ws) a = true then 0 else 7)] := by
  refine ent [_, _] Tryz.func31 ((vcTryz31 _ _ w _).mpr ?_)
  unfold VCTryz31
  obtain ⟨Od, d⟩ := h.dir
  refine bif_b (fun hh => by cases hh) (fun _ => ?_)
  simp only [ptr_some, ad3, Nat.zero_add, Nat.add_zero]
  refine (c42 d a).mono ?_
  rintro v w' ⟨e, rfl⟩
  obtain rfl := e.symm
  refine ⟨_, _, rfl, (Kp.refl none_ _).keeps0, bif_not (fun hh => ⟨_, rfl, rfl, ?_⟩) (fun hh => ⟨_, rfl, rfl, ?_⟩)⟩
  · have hl : lookE (lastE S ws) a = none := by
      have := look_has (l := lastE S ws) (s := a)
      rw [hh] at this
      cases hl : lookE (lastE S ws) a with
      | none => rfl
      | some _ => rw [hl] at this; cases this
    rw [hh, hl]
    rfl
  · rw [hh]; rfl
end Go.Proofs.YtlgkcbdpaffigaaGreat

namespace Go.Proofs.YtlgkcbdpaffigaaGreat
open Go Go.SX Go.Proofs
set_option maxRecDepth 100000
set_option linter.unusedVariables false
set_option linter.unusedSimpArgs false
def newE (rl : List Int) (k : Int) (Ds : List Nat) (N : List Ent) (a : List UInt8) : Int := if refE rl k ≠ 0 then 10 else if 1000 ≤ Ds.length then 14 else createE N a
theorem und120 : Tryz.prog.underlying 55 = some (.slice 80) := Tryz.underlying55
/-- The directory has gone on. -/
theorem FSM.turn {w w' : World} {O Od own : Nat → Prop} {b : Nat} {Ds : List Nat} {S S' : List Ent} {ws ws' : List Chg} {cap k r : Int} {rl : List Int} {dv : Value} {rq : Option Addr} {rc : Nat}
    (h1 : Cs w b 0 [dv]) (h2 : DR w Od b 1 S ws) (h3 : Cs w b 4 [.int .i64 cap, .int .i64 k, .int .i64 r, .slice rq rl.length rc]) (h4 : OwnRow w own 80 1 dv Ds.length (flatC ptC Ds)) (h5 : RowsAt w 1 intC rq rl) (h6 : 0 < rl.length → ∀ a, rq = some a → O a.block ∧ a.block ≠ b ∧ ¬ Od a.block ∧ ¬ own a.block) (h7 : ∀ i, own i → O i ∧ ¬ Od i) (h8 : ∀ i, Od i → O i)
    (d : DR w' (fun i => Od i ∨ w.heap.size ≤ i) b 1 S' ws') (kk : Kp Od w w') (nb : Nb b 1 3 w w') :
    Cs w' b 0 [dv] ∧ DR w' (fun i => (Od i ∨ w.heap.size ≤ i) ∧ i < w'.heap.size) b 1 S' ws' ∧ Cs w' b 4 [.int .i64 cap, .int .i64 k, .int .i64 r, .slice rq rl.length rc] ∧ OwnRow w' (fun i => own i ∧ i < w.heap.size) 80 1 dv Ds.length (flatC ptC Ds) ∧ RowsAt w' 1 intC rq rl ∧ (0 < rl.length → ∀ a, rq = some a → a.block < w.heap.size) := by
  refine ⟨h1.nb kk nb (.inl (by simp)), d.mono fun i hl hi => ⟨hi, hl⟩, h3.nb kk nb (.inr (by omega)), ?_, h5.kp kk fun h0 a e => (h6 h0 a e).2.2.1, fun h0 a e => h5.lt intC_len (by omega) h0 a e⟩
  exact (h4.mono (own' := fun i => own i ∧ i < w.heap.size) fun i hi hl => ⟨hi, hl⟩).kp kk fun g n cap _ hg => (h7 g hg.1).2
theorem c28 {w : World} {O : Nat → Prop} {b : Nat} {Ds : List Nat} {S : List Ent} {ws : List Chg} {cap k r : Int} {rl : List Int} (h : FSM w O b Ds S ws cap k r rl) (hO : ∀ i, O i → i < w.heap.size) (hk : 0 ≤ k ∧ k ≤ 1000000) (hr : 0 ≤ r ∧ r ≤ 1000000) (hl : rl.length ≤ 1000000) (ha : Asc Prod.fst (lastE S ws)) (hws : ws.length ≤ 1000000) (a : List UInt8) : Rets Tryz.prog 15 #[ptA b 0, .string (ba a)] w fun v w' =>
    v = .tuple #[.int .i64 (if newE rl k Ds (lastE S ws) a = 0 then Ds.length else 0), .int .i64 (newE rl k Ds (lastE S ws) a)] ∧ Kp O w w' ∧
    (newE rl k Ds (lastE S ws) a = 0 → ∃ d, w.heap.size ≤ d ∧ d < w'.heap.size ∧ FSM w' (fun i => O i ∨ (w.heap.size ≤ i ∧ i ≠ d)) b (Ds ++ [d]) S (ws ++ [⟨[], a, Ds.length⟩]) cap (k + 1) (refN rl k r) rl ∧ Big w' d 86 [.slice none 0 0, .slice none 0 0, .slice none 0 0]) ∧
    (newE rl k Ds (lastE S ws) a ≠ 0 → FSM w' (fun i => O i ∨ w.heap.size ≤ i) b Ds S ws cap (k + 1) (refN rl k r) rl) := by
  refine ent [_, _] Tryz.func15 ((vcTryz15 _ _ w _).mpr ?_)
  unfold VCTryz15
  have lb := h.lt
  refine (c76 h hk hr hl).mono ?_
  rintro v w1 ⟨rfl, h', k1⟩
  have z1 := k1.size
  have K1 : Kp O w w1 := k1.mono fun i _ hi => by have hi : i = b := hi; rw [hi]; exact lb.2
  simp only [ptr_some, ad3, Nat.zero_add, Nat.add_zero]
  refine ⟨_, rfl, k1.keeps0, bif_ne (fun hE => ?_) (fun hE => ?_)⟩
  · have eE : newE rl k Ds (lastE S ws) a = 10 := by unfold newE; rw [if_pos hE]
    rw [eE]
    have e10 : refE rl k = 10 := by
      unfold refE at hE ⊢
      split
      · rfl
      · rename_i hh; rw [if_neg hh] at hE; exact absurd rfl hE
    rw [e10]
    exact ⟨_, rfl, rfl, K1, (fun hh => by cases hh), fun _ => h'.kp (Kp.refl none_ _) fun i _ hi => ⟨id, .inl hi⟩⟩
  · obtain ⟨q, c, e0, r0⟩ := h'.disks
    refine ⟨_, _, _, e0, bif_dec (fun hn => ?_) (fun hn => ?_)⟩
    · have eE : newE rl k Ds (lastE S ws) a = 14 := by unfold newE; rw [if_neg (fun hh => hh hE), if_pos (by omega)]
      rw [eE]
      exact ⟨_, rfl, rfl, K1, (fun hh => by cases hh), fun _ => h'.kp (Kp.refl none_ _) fun i _ hi => ⟨id, .inl hi⟩⟩
    · have eE : newE rl k Ds (lastE S ws) a = createE (lastE S ws) a := by unfold newE; rw [if_neg (fun hh => hh hE), if_neg (by omega)]
      rw [eE]
      obtain ⟨dv, own, Od, rq, rc, h1, h2, h3, h4, h5, h6, h7, h8⟩ := h'
      refine (c47 h2 hws ha a Ds.length).mono ?_
      rintro v w2 ⟨rfl, d2, k2, n2⟩
      have z2 := k2.size
      have K2 : Kp O w w2 := K1.trans (k2.mono fun i _ hi => h8 i hi)
      obtain ⟨g1, g2, g3, g4, g5, g6⟩ := FSM.turn h1 h2 h3 h4 h5 h6 h7 h8 d2 k2 n2
      refine ⟨_, rfl, k2.keeps0, bif_ne (fun hC => ?_) (fun hC => ?_)⟩
      · rw [if_neg hC] at g2
        rw [if_neg hC]
        refine ⟨_, rfl, rfl, K2, fun hh => absurd hh hC, fun _ => ⟨dv, _, _, rq, rc, g1, g2, g3, g4, g5, fun h0 a e => ⟨.inl (h6 h0 a e).1, (h6 h0 a e).2.1, fun hh => ?_, fun hh => (h6 h0 a e).2.2.2 hh.1⟩, fun i hi => ⟨.inl (h7 i hi.1).1, fun hh => ?_⟩, fun i hi => ?_⟩⟩
        · rcases hh.1 with hh | hh
          · exact (h6 h0 a e).2.2.1 hh
          · have := g6 h0 a e; omega
        · rcases hh.1 with hh | hh
          · exact (h7 i hi.1).2 hh
          · have := hi.2; omega
        · rcases hi.1 with hh | hh
          · exact .inl (h8 i hh)
          · exact .inr (by omega)
      · rw [if_pos hC] at g2
        rw [hC, if_pos rfl]
        obtain ⟨qd, cd, rfl⟩ := g4.slice
        have k3 : Kp none_ w2 (w2.alloc (.cells #[.slice none 0 0, .slice none 0 0, .slice none 0 0] 86)) := (Kp.refl none_ _).alloc1 _
        have z3 : (w2.alloc (.cells #[.slice none 0 0, .slice none 0 0, .slice none 0 0] 86)).heap.size = w2.heap.size + 1 := alloc_size _ _
        have B3 : Big (w2.alloc (.cells #[.slice none 0 0, .slice none 0 0, .slice none 0 0] 86)) w2.heap.size 86 [.slice none 0 0, .slice none 0 0, .slice none 0 0] := Big.new _ _ 86
        refine ⟨_, _, _, g1.get 0 rfl, ?_⟩
        generalize w2.alloc (.cells #[.slice none 0 0, .slice none 0 0, .slice none 0 0] 86) = w3 at *
        have g4' : OwnRow w3 (fun i => own i ∧ i < w1.heap.size) 80 1 (.slice qd Ds.length cd) Ds.length (flatC ptC Ds) := g4.kp k3 fun _ _ _ _ _ => id
        refine push_row (l := Ds) w2.heap.size (cs := #[.pointer (some ⟨w2.heap.size, 0, none⟩)]) ptC_len ptC_one (by omega) und120 elem36 rfl g4' rfl (by omega) fun q' c' w4 ro k4 ka => ?_
        have z4 := k4.size
        have nO : ∀ i, own i ∧ i < w1.heap.size → ¬ ((Od i ∨ w1.heap.size ≤ i) ∧ i < w2.heap.size) := fun i hi hh => by
          rcases hh.1 with hh | hh
          · exact (h7 i hi.1).2 hh
          · omega
        have nb_ : ¬ (own b ∧ b < w1.heap.size) := fun hh => (h7 b hh.1).2 h2.lt.2
        have nd : ¬ (own w2.heap.size ∧ w2.heap.size < w1.heap.size) := fun hh => by omega
        have g1' := (g1.kp0 k3).kp k4 nb_
        obtain ⟨s1, s2⟩ := g1'.slot 0 (by simp)
        have bd : b ≠ w2.heap.size := by have := lb.1; omega
        refine ⟨_, _, _, rfl, ka.keeps fun i hi => ?_, s1, s2, .inl bd, fun _ => ?_⟩
        · rw [List.mem_singleton] at hi
          subst hi
          exact ⟨by rw [alloc_size]; omega, nd⟩
        have k5 : Kp (one_ b) w4 (w4.setCell ⟨b, 0, none⟩ (.slice q' (Ds.length + 1) c')) := kp_set _ _ _ _
        have n5 : Nb b 0 1 w4 (w4.setCell ⟨b, 0, none⟩ (.slice q' (Ds.length + 1) c')) := Nb.set w4 (b := b) (o := 0) (i := 0) (by omega) _
        have c5 : Cs (w4.setCell ⟨b, 0, none⟩ (.slice q' (Ds.length + 1) c')) b 0 [.slice q' (Ds.length + 1) c'] := g1'.set 0 _
        have z5 : (w4.setCell ⟨b, 0, none⟩ (.slice q' (Ds.length + 1) c')).heap.size = w4.heap.size := set_size _ _ _
        generalize w4.setCell ⟨b, 0, none⟩ (.slice q' (Ds.length + 1) c') = w5 at *
        have D5 : DR w5 (fun i => (Od i ∨ w1.heap.size ≤ i) ∧ i < w2.heap.size) b 1 S (ws ++ [⟨[], a, Ds.length⟩]) := ((g2.kp0 k3).kp k4 fun i _ hi => ⟨fun ho => nO i ho hi, hi⟩).nb k5 n5 (.inr (by omega))
        have C5 := ((g3.kp0 k3).kp k4 nb_).nb k5 n5 (.inr (by omega))
        have R5 : RowsAt w5 1 intC rq rl := ((g5.kp0 k3).kp k4 fun h0 a e hh => (h6 h0 a e).2.2.2 hh.1).kp k5 fun h0 a e hh => (h6 h0 a e).2.1 hh
        have ro5 : OwnRow w5 (fun i => (own i ∧ i < w1.heap.size) ∨ fresh w3 i) 80 1 (.slice q' (Ds.length + 1) c') (Ds ++ [w2.heap.size]).length (flatC ptC (Ds ++ [w2.heap.size])) := ro.kp k5 fun g n cap _ hg e => by
          have e : g = b := e
          rw [e] at hg
          rcases hg with hg | hg
          · exact nb_ hg
          · have hg : w3.heap.size ≤ b := hg
            have := lb.1
            omega
        refine ⟨_, rfl, rfl, ?_, fun _ => ⟨w2.heap.size, by omega, by omega, ⟨_, _, _, rq, rc, c5, D5, C5, ro5, R5, fun h0 a e => ⟨.inl (h6 h0 a e).1, (h6 h0 a e).2.1, fun hh => ?_, fun hh => ?_⟩, fun i hi => ?_, fun i hi => ?_⟩, (B3.kp k4 nd).kp k5 (fun e => bd e.symm)⟩, fun hh => absurd rfl hh⟩
        · exact (((K2.trans k3.wide).then k4 fun i hi hh => (h7 i hh.1).1).trans (k5.mono fun i _ hi => by have hi : i = b := hi; rw [hi]; exact lb.2))
        · rcases hh.1 with hh | hh
          · exact (h6 h0 a e).2.2.1 hh
          · have := g6 h0 a e; omega
        · rcases hh with hh | hh
          · exact (h6 h0 a e).2.2.2 hh.1
          · have := g6 h0 a e
            have hh : w3.heap.size ≤ a.block := hh
            omega
        · rcases hi with hi | hi
          · exact ⟨.inl (h7 i hi.1).1, nO i hi⟩
          · have hi : w3.heap.size ≤ i := hi
            exact ⟨.inr ⟨by omega, by omega⟩, fun hh => by have := hh.2; omega⟩
        · rcases hi.1 with hh | hh
          · exact .inl (h8 i hh)
          · exact .inr ⟨by omega, by have := hi.2; omega⟩
end Go.Proofs.YtlgkcbdpaffigaaGreat

namespace Go.Proofs.YtlgkcbdpaffigaaGreat
open Go Go.SX Go.Proofs
set_option maxRecDepth 100000
set_option linter.unusedVariables false
set_option linter.unusedSimpArgs false
/-! ### A disk's state -/
/-- Sectors: how many, what each is now, whether something is safe, what is; what waits, with its sector's number. Bytes stand at their places in the file. -/
structure St where
  size : Nat
  now : Int → Int
  has : Nat → Bool
  safe : Int → Int
  wait : List (Nat × (Int → Int))
def isByte (x : Int) : Prop := 0 ≤ x ∧ x < 256
structure St.Ok (s : St) : Prop where
  size : s.size ≤ 4096
  now : ∀ p, isByte (s.now p)
  safe : ∀ p, isByte (s.safe p)
  wait : ∀ e ∈ s.wait, e.1 < s.size ∧ ∀ p, isByte (e.2 p)
/-- Every block of one's own has a colour; 0: not one's own. -/
abbrev Col := Nat → Nat
def cl (col : Col) (k : Nat) : Nat → Prop := fun i => col i = k
def ownC (col : Col) : Nat → Prop := fun i => col i ≠ 0
/-- Colours of new blocks come to those that were. -/
def Grow (col col' : Col) (w w' : World) : Prop := (∀ i, i < w.heap.size → col' i = col i) ∧ ∀ i, col' i ≠ 0 → i < w'.heap.size
theorem Grow.trans {col c1 c2 : Col} {w w1 w2 : World} (h : Grow col c1 w w1) (k : Grow c1 c2 w1 w2) (hs : w.heap.size ≤ w1.heap.size) : Grow col c2 w w2 :=
  ⟨fun i hi => (k.1 i (by omega)).trans (h.1 i hi), k.2⟩
theorem Grow.refl {col : Col} {w w' : World} (h : ∀ i, col i ≠ 0 → i < w.heap.size) (hs : w.heap.size ≤ w'.heap.size) : Grow col col w w' := ⟨fun _ _ => rfl, fun i hi => Nat.lt_of_lt_of_le (h i hi) hs⟩
def byF (f : Int → Int) (n : Nat) : List Value := (List.range n).map fun i : Nat => .int .u8 (f i)
theorem byF_len (f : Int → Int) (n : Nat) : (byF f n).length = n := by simp [byF]
theorem byF_get (f : Int → Int) {n i : Nat} (h : i < n) : (byF f n)[i]? = some (.int .u8 (f i)) := by simp [byF, h]
/-- A sector's bytes, in a block that nobody changes. -/
def Sec (w : World) (col : Col) (a : Addr) (f : Int → Int) : Prop := col a.block = 5 ∧ ∀ j : Nat, j < 512 → w.cell? (a.add j) = some (.int .u8 (f j))
def secAt (f : Int → Int) (i : Nat) : Int → Int := fun j => f (512 * i + j)
structure Dsk (w : World) (col : Col) (D : Nat) (s : St) : Prop where
  colD : col D = 1
  lt : ∀ i, col i ≠ 0 → i < w.heap.size
  frz : ∀ o, w.frozen? ⟨D, o, none⟩ = false
  now : ∃ q c, w.cell? ⟨D, 0, none⟩ = some (.slice q (512 * s.size) c) ∧ OwnRow w (cl col 2) 5 1 (.slice q (512 * s.size) c) (512 * s.size) (byF s.now (512 * s.size))
  safe : ∃ q c xs, w.cell? ⟨D, 1, none⟩ = some (.slice q s.size c) ∧ OwnRow w (cl col 3) 30 1 (.slice q s.size c) s.size xs ∧
    ∀ i, i < s.size → (s.has i = false → xs[i]? = some (.slice none 0 0)) ∧ (s.has i = true → ∃ a c', xs[i]? = some (.slice (some a) 512 c') ∧ 512 ≤ c' ∧ Sec w col a (secAt s.safe i))
  wait : ∃ q c xs, w.cell? ⟨D, 2, none⟩ = some (.slice q s.wait.length c) ∧ OwnRow w (cl col 4) 111 2 (.slice q s.wait.length c) s.wait.length xs ∧
    ∀ k e, s.wait[k]? = some e → ∃ a c', xs[k * 2]? = some (.int .i64 e.1) ∧ xs[k * 2 + 1]? = some (.slice (some a) 512 c') ∧ 512 ≤ c' ∧ Sec w col a (secAt e.2 e.1)
  ok : s.Ok
section
variable {w w' : World} {col : Col} {D : Nat} {s : St}
theorem Sec.kp {S : Nat → Prop} {a : Addr} {f : Int → Int} (h : Sec w col a f) (hk : Kp S w w') (hs : ∀ i, S i → col i ≠ 5) : Sec w' col a f :=
  ⟨h.1, fun j hj => hk.cell (h.2 j hj) (by rw [add_block]; exact fun hh => hs _ hh h.1)⟩
/-- Nothing of it was changed. -/
theorem Dsk.kp {S : Nat → Prop} (h : Dsk w col D s) (hk : Kp S w w') (hs : ∀ i, S i → col i = 0) : Dsk w' col D s := by
  have ne : ∀ i k, col i = k → k ≠ 0 → ¬ S i := fun i k e hk hh => hk (by rw [← e]; exact hs i hh)
  have hD : ¬ S D := ne D 1 h.colD (by omega)
  obtain ⟨q1, c1, n1, n2⟩ := h.now
  obtain ⟨q2, c2, xs, s1, s2, s3⟩ := h.safe
  obtain ⟨q3, c3, ys, t1, t2, t3⟩ := h.wait
  have hDl : D < w.heap.size := cell_lt n1
  refine ⟨h.colD, fun i hi => Nat.lt_of_lt_of_le (h.lt i hi) hk.size, fun o => (hk.frz ⟨D, o, none⟩ hDl).trans (h.frz o), ⟨q1, c1, hk.cell n1 hD, n2.kp hk fun g _ _ _ hg => ne g 2 hg (by omega)⟩,
    ⟨q2, c2, xs, hk.cell s1 hD, s2.kp hk fun g _ _ _ hg => ne g 3 hg (by omega), fun i hi => ⟨(s3 i hi).1, fun hh => ?_⟩⟩, ⟨q3, c3, ys, hk.cell t1 hD, t2.kp hk fun g _ _ _ hg => ne g 4 hg (by omega), fun k e he => ?_⟩, h.ok⟩
  · obtain ⟨a, c', x1, x2, x3⟩ := (s3 i hi).2 hh
    exact ⟨a, c', x1, x2, x3.kp hk fun j hj => by rw [hs j hj]; omega⟩
  · obtain ⟨a, c', x0, x1, x2, x3⟩ := t3 k e he
    exact ⟨a, c', x0, x1, x2, x3.kp hk fun j hj => by rw [hs j hj]; omega⟩
theorem Dsk.kp0 (h : Dsk w col D s) (hk : Kp none_ w w') : Dsk w' col D s := h.kp hk fun _ h => h.elim
theorem Dsk.drew (h : Dsk w col D s) : Dsk w.drew col D s := h.kp0 (Kp.refl none_ w).drew
def rightF (at_ n : Int) : Bool := decide (0 ≤ at_ ∧ 0 ≤ n ∧ n ≤ 2097152 ∧ at_ ≤ 2097152 - n)
theorem c63 (w : World) (at_ n : Int) : Rets Tryz.prog 72 #[.int .i64 at_, .int .i64 n] w fun v w' => v = .bool (rightF at_ n) ∧ w' = w := by
  refine ent [_, _] Tryz.func72 ((vcTryz72 _ _ w _).mpr ?_)
  unfold VCTryz72 rightF
  refine bif_dec (fun h => bif_dec (fun h1 => bif_dec (fun h2 => wr64 (by omega) ⟨_, rfl, ?_, rfl⟩) (fun h2 => ⟨_, rfl, ?_, rfl⟩)) (fun h1 => ⟨_, rfl, ?_, rfl⟩)) (fun h => ⟨_, rfl, ?_, rfl⟩)
  · congr 1; simp only [decide_eq_decide]; omega
  all_goals (congr 1; symm; simp only [decide_eq_false_iff_not]; omega)
theorem c95 (w : World) (at_ n : Int) : Rets Tryz.prog 47 #[.int .i64 at_, .int .i64 n] w fun v w' => v = .bool (rightF at_ n) ∧ w' = w := by
  refine ent [_, _] Tryz.func47 ((vcTryz47 _ _ w _).mpr ?_)
  unfold VCTryz47 rightF
  refine bif_dec (fun h => bif_dec (fun h1 => bif_dec (fun h2 => wr64 (by omega) ⟨_, rfl, ?_, rfl⟩) (fun h2 => ⟨_, rfl, ?_, rfl⟩)) (fun h1 => ⟨_, rfl, ?_, rfl⟩)) (fun h => ⟨_, rfl, ?_, rfl⟩)
  · congr 1; simp only [decide_eq_decide]; omega
  all_goals (congr 1; symm; simp only [decide_eq_false_iff_not]; omega)
theorem c67 (w : World) (n : Int) (h : 0 ≤ n ∧ n ≤ 4194304) : Rets Tryz.prog 73 #[.int .i64 n] w fun v w' => v = .int .i64 ((n + 511) / 512) ∧ w' = w := by
  refine ent [_] Tryz.func73 ((vcTryz73 _ w _).mpr ?_)
  unfold VCTryz73
  have e : (n + 512 - 1).tdiv 512 = (n + 511) / 512 := by rw [Int.tdiv_eq_ediv_of_nonneg (by omega)]; congr 1; omega
  refine wr64 (by omega) (wr64 (by omega) ⟨by omega, ?_⟩)
  rw [e]
  exact wr64 (by omega) ⟨_, rfl, rfl, rfl⟩
theorem c18 (h : Dsk w col D s) : Rets Tryz.prog 37 #[.pointer (some ⟨D, 0, none⟩)] w fun v w' => v = .int .i64 s.size ∧ w' = w := by
  refine ent [_] Tryz.func37 ((vcTryz37 _ w _).mpr ?_)
  unfold VCTryz37
  obtain ⟨q1, c1, n1, n2⟩ := h.now
  have hs := h.ok.size
  show cond false _ _
  simp only [cond_false, ptr_some, ad_add, Nat.zero_add]
  have e : ((512 * s.size : Nat) : Int).tdiv 512 = s.size := by rw [Int.tdiv_eq_ediv_of_nonneg (by omega)]; omega
  refine ⟨_, _, _, n1, by omega, ?_⟩
  rw [e]
  exact wr64 (by omega) ⟨_, rfl, rfl, trivial⟩
theorem c21 (h : Dsk w col D s) : Rets Tryz.prog 39 #[.pointer (some ⟨D, 0, none⟩)] w fun v w' => v = .int .i64 s.wait.length ∧ w' = w := by
  refine ent [_] Tryz.func39 ((vcTryz39 _ w _).mpr ?_)
  unfold VCTryz39
  obtain ⟨q3, c3, ys, t1, t2, t3⟩ := h.wait
  show cond false _ _
  simp only [cond_false, ptr_some, ad_add, Nat.zero_add]
  exact ⟨_, _, _, t1, _, rfl, rfl, trivial⟩
theorem maxI_max (a b : Int) : maxI a b = max a b := by unfold maxI; split <;> omega
/-- The size behind a write. -/
def needF (s : St) (at_ n : Int) : Int := if n = 0 then s.size else max s.size ((at_ + n + 511) / 512)
theorem c65 (h : Dsk w col D s) (at_ n : Int) : Rets Tryz.prog 43 #[.pointer (some ⟨D, 0, none⟩), .int .i64 at_, .int .i64 n] w fun v w' =>
    v = .tuple #[.int .i64 (if rightF at_ n = true then needF s at_ n else 0), .bool (rightF at_ n)] ∧ w' = w := by
  refine ent [_, _, _] Tryz.func43 ((vcTryz43 _ _ _ w _).mpr ?_)
  unfold VCTryz43
  have hs := h.ok.size
  show cond false _ _
  simp only [cond_false]
  refine (c63 w at_ n).mono ?_
  rintro v wx ⟨rfl, e⟩
  obtain rfl := e.symm
  refine ⟨_, rfl, (Kp.refl none_ _).keeps0, bif_not (fun hr => ⟨_, rfl, by rw [hr]; rfl, rfl⟩) (fun hr => ?_)⟩
  have hr' := hr
  unfold rightF at hr'
  have hr' := of_decide_eq_true hr'
  refine bif_eq (fun h0 => (c18 h).mono ?_) (fun h0 => (c18 h).mono ?_)
  · rintro v wx ⟨rfl, e⟩
    obtain rfl := e.symm
    refine ⟨_, rfl, (Kp.refl none_ _).keeps0, _, rfl, ?_, rfl⟩
    rw [hr, if_pos rfl]
    unfold needF
    rw [if_pos h0]
  · rintro v wx ⟨rfl, e⟩
    obtain rfl := e.symm
    refine ⟨_, rfl, (Kp.refl none_ _).keeps0, wr64 (by omega) ((c67 w (at_ + n) (by omega)).mono ?_)⟩
    rintro v wx ⟨rfl, e⟩
    obtain rfl := e.symm
    refine ⟨_, rfl, (Kp.refl none_ _).keeps0, _, rfl, ?_, rfl⟩
    rw [hr, if_pos rfl, maxI_max]
    unfold needF
    rw [if_neg h0]
/-- A sector as a slice of the row. -/
theorem c62 (h : Dsk w col D s) (i : Nat) (hi : i < s.size) : Rets Tryz.prog 75 #[.pointer (some ⟨D, 0, none⟩), .int .i64 i] w fun v w' =>
    (∃ g c, w.cell? ⟨D, 0, none⟩ = some (.slice (some ⟨g, 0, none⟩) (512 * s.size) c) ∧ col g = 2 ∧ v = .slice (cutA (some ⟨g, 0, none⟩) (512 * (i + 1)) (512 * i) 1) 512 512 ∧ v = .slice (some ⟨g, 512 * i, none⟩) 512 512) ∧ w' = w := by
  refine ent [_, _] Tryz.func75 ((vcTryz75 _ _ w _).mpr ?_)
  unfold VCTryz75
  obtain ⟨q1, c1, n1, n2⟩ := h.now
  have hs := h.ok.size
  obtain ⟨g, cur, rfl, _, hg, _, hc, _⟩ := n2.parts (by omega)
  refine wr64 (by omega) (wr64 (by omega) (wr64 (by omega) ?_))
  simp only [ptr_some, ad_add, Nat.zero_add]
  have e1 : (((i : Int) + 1) * 512).toNat = 512 * (i + 1) := by omega
  have e2 : ((i : Int) * 512).toNat = 512 * i := by omega
  refine ⟨_, _, _, n1, by omega, ⟨by omega, ?_⟩, by omega, ?_⟩
  · show _ ≤ (((((i : Int) + 1) * 512).toNat : Nat) : Int)
    omega
  · rw [e1, e2]
    refine ⟨_, rfl, ⟨g, c1, n1, hg, ?_, ?_⟩, trivial⟩
    · congr 1 <;> omega
    · have : cutA (some ⟨g, 0, none⟩) (512 * (i + 1)) (512 * i) 1 = some ⟨g, 512 * i, none⟩ := by
        unfold cutA
        rw [if_neg (by omega)]
        simp [ad_add]
      rw [this]
      congr 1 <;> omega
end
end Go.Proofs.YtlgkcbdpaffigaaGreat

namespace Go.Proofs.YtlgkcbdpaffigaaGreat
open Go Go.SX Go.Proofs
set_option maxRecDepth 100000
set_option linter.unusedVariables false
set_option linter.unusedSimpArgs false
/-- A row's new block gets the row's colour. -/
theorem recolor {w w' : World} {col : Col} {k : Nat} {e : TypeId} {size : Nat} {v : Value} {n : Nat} {xs : List Value} (lt : ∀ i, col i ≠ 0 → i < w.heap.size) (hs : w.heap.size ≤ w'.heap.size) (h : OwnRow w' (fun i => cl col k i ∨ fresh w i) e size v n xs) :
    ∃ col', (∀ i, i < w.heap.size → col' i = col i) ∧ (∀ i, col' i ≠ 0 → i < w.heap.size ∨ (col' i = k ∧ i < w'.heap.size)) ∧ OwnRow w' (cl col' k) e size v n xs := by
  rcases h.2 with ⟨h1, h2⟩ | ⟨g, cap, cur, h1, h2, h3, h4⟩
  · exact ⟨fun i => if i < w.heap.size then col i else 0, fun i hi => if_pos hi, fun i hi => by by_cases h : i < w.heap.size; exact .inl h; simp [h] at hi, h.1, .inl ⟨h1, h2⟩⟩
  · have gl := (Array.getElem?_eq_some_iff.1 h3).1
    refine ⟨fun i => if i < w.heap.size then col i else if i = g then k else 0, fun i hi => if_pos hi, fun i hi => ?_, h.1, .inr ⟨g, cap, cur, h1, ?_, h3, h4⟩⟩
    · by_cases h : i < w.heap.size
      · exact .inl h
      · by_cases e : i = g
        · subst e
          exact .inr ⟨by simp [h], gl⟩
        · simp [h, e] at hi
    · show (if g < w.heap.size then col g else if g = g then k else 0) = k
      by_cases hg : g < w.heap.size
      · rw [if_pos hg]
        rcases h2 with h2 | h2
        · exact h2
        · unfold fresh at h2; omega
      · rw [if_neg hg, if_pos rfl]
section
variable {w w' : World} {col col' : Col} {D : Nat} {s : St} {S : Nat → Prop}
theorem OwnRow.kpc {k : Nat} {e : TypeId} {size : Nat} {v : Value} {n : Nat} {xs : List Value} (h : OwnRow w (cl col k) e size v n xs) (hk : Kp S w w') (hs : ∀ i, i < w.heap.size → S i → col i ≠ k) (hc : ∀ i, i < w.heap.size → col' i = col i) : OwnRow w' (cl col' k) e size v n xs := by
  rcases h.2 with ⟨h1, h2⟩ | ⟨g, cap, cur, h1, h2, h3, h4⟩
  · exact ⟨h.1, .inl ⟨h1, h2⟩⟩
  · have gl := (Array.getElem?_eq_some_iff.1 h3).1
    exact ⟨h.1, .inr ⟨g, cap, cur, h1, (hc g gl).trans h2, (hk.same g gl fun hh => hs g gl hh h2).trans h3, h4⟩⟩
theorem Sec.kpc {a : Addr} {f : Int → Int} (h : Sec w col a f) (hk : Kp S w w') (hs : ∀ i, i < w.heap.size → S i → col i ≠ 5) (hc : ∀ i, i < w.heap.size → col' i = col i) : Sec w' col' a f := by
  have gl : a.block < w.heap.size := by have := cell_lt (h.2 0 (by omega)); rwa [add_block] at this
  exact ⟨(hc _ gl).trans h.1, fun j hj => hk.cell (h.2 j hj) (by rw [add_block]; exact fun hh => hs _ gl hh h.1)⟩
theorem Dsk.nowK (h : Dsk w col D s) (hk : Kp S w w') (hs : ∀ i, i < w.heap.size → S i → col i ≠ 2) (hc : ∀ i, i < w.heap.size → col' i = col i) (hd : ∀ v, w.cell? ⟨D, 0, none⟩ = some v → w'.cell? ⟨D, 0, none⟩ = some v) :
    ∃ q c, w'.cell? ⟨D, 0, none⟩ = some (.slice q (512 * s.size) c) ∧ OwnRow w' (cl col' 2) 5 1 (.slice q (512 * s.size) c) (512 * s.size) (byF s.now (512 * s.size)) := by
  obtain ⟨q, c, h1, h2⟩ := h.now
  exact ⟨q, c, hd _ h1, OwnRow.kpc h2 hk hs hc⟩
theorem Dsk.safeK (h : Dsk w col D s) (hk : Kp S w w') (hs : ∀ i, i < w.heap.size → S i → col i ≠ 3 ∧ col i ≠ 5) (hc : ∀ i, i < w.heap.size → col' i = col i) (hd : ∀ v, w.cell? ⟨D, 1, none⟩ = some v → w'.cell? ⟨D, 1, none⟩ = some v) :
    ∃ q c xs, w'.cell? ⟨D, 1, none⟩ = some (.slice q s.size c) ∧ OwnRow w' (cl col' 3) 30 1 (.slice q s.size c) s.size xs ∧
    ∀ i, i < s.size → (s.has i = false → xs[i]? = some (.slice none 0 0)) ∧ (s.has i = true → ∃ a c', xs[i]? = some (.slice (some a) 512 c') ∧ 512 ≤ c' ∧ Sec w' col' a (secAt s.safe i)) := by
  obtain ⟨q, c, xs, h1, h2, h3⟩ := h.safe
  refine ⟨q, c, xs, hd _ h1, OwnRow.kpc h2 hk (fun i hi hh => (hs i hi hh).1) hc, fun i hi => ⟨(h3 i hi).1, fun hh => ?_⟩⟩
  obtain ⟨a, c', x1, x2, x3⟩ := (h3 i hi).2 hh
  exact ⟨a, c', x1, x2, Sec.kpc x3 hk (fun i hi hh => (hs i hi hh).2) hc⟩
theorem Dsk.waitK (h : Dsk w col D s) (hk : Kp S w w') (hs : ∀ i, i < w.heap.size → S i → col i ≠ 4 ∧ col i ≠ 5) (hc : ∀ i, i < w.heap.size → col' i = col i) (hd : ∀ v, w.cell? ⟨D, 2, none⟩ = some v → w'.cell? ⟨D, 2, none⟩ = some v) :
    ∃ q c xs, w'.cell? ⟨D, 2, none⟩ = some (.slice q s.wait.length c) ∧ OwnRow w' (cl col' 4) 111 2 (.slice q s.wait.length c) s.wait.length xs ∧
    ∀ k e, s.wait[k]? = some e → ∃ a c', xs[k * 2]? = some (.int .i64 e.1) ∧ xs[k * 2 + 1]? = some (.slice (some a) 512 c') ∧ 512 ≤ c' ∧ Sec w' col' a (secAt e.2 e.1) := by
  obtain ⟨q, c, xs, h1, h2, h3⟩ := h.wait
  refine ⟨q, c, xs, hd _ h1, OwnRow.kpc h2 hk (fun i hi hh => (hs i hi hh).1) hc, fun k e he => ?_⟩
  obtain ⟨a, c', x0, x1, x2, x3⟩ := h3 k e he
  exact ⟨a, c', x0, x1, x2, Sec.kpc x3 hk (fun i hi hh => (hs i hi hh).2) hc⟩
theorem Dsk.dlt (h : Dsk w col D s) : D < w.heap.size := h.lt D (by rw [h.colD]; omega)
theorem info5 : ∃ i, Tryz.prog.info? 5 = some i ∧ i.zero = some (.int .u8 0) ∧ i.size = 1 ∧ i.bytes = 1 := by
  have h : (Tryz.prog.info? 5).map (fun i => (i.zero, i.size, i.bytes)) = some (some (.int .u8 0), 1, 1) := by kernel_rfl
  obtain ⟨i, hi, hh⟩ := Option.map_eq_some_iff.1 h
  simp only [Prod.mk.injEq] at hh
  exact ⟨i, hi, hh⟩
theorem info25 : ∃ i, Tryz.prog.info? 30 = some i ∧ i.zero = some (.slice none 0 0) ∧ i.size = 1 ∧ i.bytes = 24 := by
  have h : (Tryz.prog.info? 30).map (fun i => (i.zero, i.size, i.bytes)) = some (some (.slice none 0 0), 1, 24) := by kernel_rfl
  obtain ⟨i, hi, hh⟩ := Option.map_eq_some_iff.1 h
  simp only [Prod.mk.injEq] at hh
  exact ⟨i, hi, hh⟩
theorem elem5 : elemOk Tryz.prog 5 1 = true := by kernel_rfl
theorem elem118 : elemOk Tryz.prog 111 2 = true := by kernel_rfl
/-- A disk, grown. -/
def growSt (s : St) (m : Nat) : St := if s.size < m then { s with size := m, now := fun p => if p < 512 * s.size then s.now p else 0, has := fun i => if i < s.size then s.has i else false } else s
theorem byF_grow (f : Int → Int) (n k : Nat) : byF (fun p => if p < (n : Int) then f p else 0) (n + k) = byF f n ++ List.replicate k (.int .u8 0) := by
  apply List.ext_getElem
  · simp [byF]
  · intro i h1 h2
    simp only [byF_len] at h1
    by_cases h : i < n
    · rw [List.getElem_append_left (by rw [byF_len]; exact h)]
      simp only [byF, List.getElem_map, List.getElem_range]
      rw [if_pos (by omega)]
    · rw [List.getElem_append_right (by rw [byF_len]; omega)]
      simp only [byF, List.getElem_map, List.getElem_range, List.getElem_replicate]
      rw [if_neg (by omega)]
theorem c66 (h : Dsk w col D s) (m : Nat) (hm : m ≤ 4096) : Rets Tryz.prog 74 #[.pointer (some ⟨D, 0, none⟩), .int .i64 m] w fun v w' =>
    v = .tuple #[] ∧ Kp (ownC col) w w' ∧ ∃ col', Grow col col' w w' ∧ Dsk w' col' D (growSt s m) := by
  refine ent [_, _] Tryz.func74 ((vcTryz74 _ _ w _).mpr ?_)
  unfold VCTryz74
  have hs := h.ok.size
  refine (c18 h).mono ?_
  rintro v wx ⟨rfl, e⟩
  obtain rfl := e.symm
  refine ⟨_, rfl, (Kp.refl none_ _).keeps0, wr64 (by omega) (bif_dec (fun hlt => ?_) (fun hge => ?_))⟩
  rotate_left
  · refine ⟨_, rfl, rfl, Kp.refl _ _, col, Grow.refl h.lt (Nat.le_refl _), ?_⟩
    unfold growSt
    rw [if_neg (by omega)]
    exact h
  obtain ⟨k, hk⟩ : ∃ k : Nat, m = s.size + k := ⟨m - s.size, by omega⟩
  have hk0 : 0 < k := by omega
  subst hk
  obtain ⟨q1, c1, n1, n2⟩ := h.now
  simp only [ptr_some, ad_add, Nat.zero_add, Nat.add_zero]
  have e1 : (((s.size + k : Nat) : Int) - s.size) * 512 = ((512 * k : Nat) : Int) := by omega
  have e2 : ((s.size + k : Nat) : Int) - s.size = (k : Int) := by omega
  refine ⟨_, _, _, n1, wr64 (by omega) ?_⟩
  rw [e1]
  refine zeros_own (own := cl col 2) (size := 1) (bytes := 1) (z := .int .u8 0) Tryz.underlying30 Tryz.underlying3 info5 rfl (by omega) (by omega) (fun u hu => ?_) n2 (by omega) (by omega) (fun q2 c2 w2 r2 k2 => ?_)
  · rw [zerosL_one rfl] at hu
    rw [List.eq_of_mem_replicate hu]
    simp [Value.oneCell']
  have z2 := k2.size
  have hD := h.dlt
  have hD2 : ¬ cl col 2 D := fun hh => by have := h.colD; unfold cl at hh; omega
  have fz2 : ∀ o, w2.frozen? ⟨D, o, none⟩ = false := fun o => (k2.frz ⟨D, o, none⟩ hD).trans (h.frz o)
  refine ⟨_, _, _, rfl, k2.keeps0, ⟨_, k2.cell n1 hD2⟩, fz2 0, ?_⟩
  rw [zerosL_one rfl, ← byF_grow] at r2
  have r2' : OwnRow w2 (fun i => cl col 2 i ∨ fresh w i) 5 1 (.slice q2 (512 * (s.size + k)) c2) (512 * (s.size + k)) (byF (fun p => if p < ((512 * s.size : Nat) : Int) then s.now p else 0) (512 * (s.size + k))) := by
    rw [Nat.mul_add]; exact r2
  rw [← Nat.mul_add]
  obtain ⟨col2, g1, g2, r3⟩ := recolor h.lt z2 r2'
  have kD : Kp (one_ D) w2 (w2.setCell ⟨D, 0, none⟩ (.slice q2 (512 * (s.size + k)) c2)) := Kp.setCell (S := one_ D) (x := ⟨D, 0, none⟩) (Kp.refl (one_ D) w2) _ (.inl rfl)
  have k23 : Kp (fun i => col i = 2 ∨ i = D) w (w2.setCell ⟨D, 0, none⟩ (.slice q2 (512 * (s.size + k)) c2)) := (k2.mono fun _ _ h => .inl h).trans (kD.mono fun _ _ h => .inr h)
  have cD0 : (w2.setCell ⟨D, 0, none⟩ (.slice q2 (512 * (s.size + k)) c2)).cell? ⟨D, 0, none⟩ = some (.slice q2 (512 * (s.size + k)) c2) := cell_set_same _ (k2.cell n1 hD2)
  have cDo : ∀ o v, o ≠ 0 → w.cell? ⟨D, o, none⟩ = some v → (w2.setCell ⟨D, 0, none⟩ (.slice q2 (512 * (s.size + k)) c2)).cell? ⟨D, o, none⟩ = some v := fun o v ho hv => by rw [cell_set_off _ (Ne.symm ho)]; exact k2.cell hv hD2
  have fz3 : ∀ o, (w2.setCell ⟨D, 0, none⟩ (.slice q2 (512 * (s.size + k)) c2)).frozen? ⟨D, o, none⟩ = false := fun o => by rw [frozen_set]; exact fz2 o
  have s3 : (w2.setCell ⟨D, 0, none⟩ (.slice q2 (512 * (s.size + k)) c2)).heap.size = w2.heap.size := by simp [World.setCell]
  have ne : ∀ i c, (col i = 2 ∨ i = D) → c ≠ 1 → c ≠ 2 → col i ≠ c := fun i c hi h1 h2 => by
    rcases hi with hi | hi
    · omega
    · rw [hi, h.colD]; omega
  obtain ⟨q3, c3, xs, t1, t2, t3⟩ := h.safeK (col' := col2) k23 (fun i _ hh => ⟨ne i 3 hh (by omega) (by omega), ne i 5 hh (by omega) (by omega)⟩) g1 (cDo 1 · (by omega))
  have hw3 := h.waitK (col' := col2) k23 (fun i _ hh => ⟨ne i 4 hh (by omega) (by omega), ne i 5 hh (by omega) (by omega)⟩) g1 (cDo 2 · (by omega))
  have r3D := OwnRow.kpc (col' := col2) r3 kD (fun i _ hh => by have e : i = D := hh; rw [e, g1 D hD, h.colD]; omega) (fun _ _ => rfl)
  generalize w2.setCell ⟨D, 0, none⟩ (.slice q2 (512 * (s.size + k)) c2) = w3 at *
  have lt2 : ∀ i, col2 i ≠ 0 → i < w3.heap.size := fun i hi => by rcases g2 i hi with h | h <;> omega
  refine ⟨_, _, _, t1, ?_⟩
  rw [e2]
  refine zeros_own (own := cl col2 3) (size := 1) (bytes := 24) (z := .slice none 0 0) Tryz.underlying83 Tryz.underlying3 info25 rfl (by omega) (by omega) (fun u hu => ?_) t2 (by omega) (by omega) (fun q4 c4 w4 r4 k4 => ?_)
  · rw [zerosL_one rfl] at hu
    rw [List.eq_of_mem_replicate hu]
    simp [Value.oneCell']
  have z4 := k4.size
  have hD3 : D < w3.heap.size := by omega
  have hcD : col2 D = 1 := (g1 D hD).trans h.colD
  have hD4 : ¬ cl col2 3 D := fun hh => by unfold cl at hh; omega
  have fz4 : ∀ o, w4.frozen? ⟨D, o, none⟩ = false := fun o => (k4.frz ⟨D, o, none⟩ hD3).trans (fz3 o)
  refine ⟨_, _, _, rfl, k4.keeps0, ⟨_, k4.cell t1 hD4⟩, fz4 1, ?_⟩
  rw [zerosL_one rfl] at r4
  obtain ⟨col4, g5, g6, r5⟩ := recolor lt2 z4 r4
  have kE : Kp (one_ D) w4 (w4.setCell ⟨D, 1, none⟩ (.slice q4 (s.size + k) c4)) := Kp.setCell (S := one_ D) (x := ⟨D, 1, none⟩) (Kp.refl (one_ D) w4) _ (.inl rfl)
  have k35 : Kp (fun i => col2 i = 3 ∨ i = D) w3 (w4.setCell ⟨D, 1, none⟩ (.slice q4 (s.size + k) c4)) := (k4.mono fun _ _ h => .inl h).trans (kE.mono fun _ _ h => .inr h)
  have ne2 : ∀ i c, (col2 i = 3 ∨ i = D) → c ≠ 1 → c ≠ 3 → col2 i ≠ c := fun i c hi h1 h2 => by
    rcases hi with hi | hi
    · omega
    · rw [hi, hcD]; omega
  have cEo : ∀ o v, o ≠ 1 → w3.cell? ⟨D, o, none⟩ = some v → (w4.setCell ⟨D, 1, none⟩ (.slice q4 (s.size + k) c4)).cell? ⟨D, o, none⟩ = some v := fun o v ho hv => by rw [cell_set_off _ (Ne.symm ho)]; exact k4.cell hv hD4
  have gr : growSt s (s.size + k) = { s with size := s.size + k, now := fun p => if p < 512 * s.size then s.now p else 0, has := fun i => if i < s.size then s.has i else false } := if_pos (by omega)
  have kAll : Kp (ownC col) w (w4.setCell ⟨D, 1, none⟩ (.slice q4 (s.size + k) c4)) := by
    refine (k23.mono fun i _ hi => ?_).then k35 fun i hi hh => ?_
    · rcases hi with hi | hi
      · unfold ownC; omega
      · unfold ownC; rw [hi, h.colD]; omega
    · unfold ownC
      rcases hh with hh | hh
      · rw [g1 i hi] at hh; omega
      · rw [hh, h.colD]; omega
  refine ⟨_, rfl, rfl, kAll, col4, ⟨fun i hi => (g5 i (by omega)).trans (g1 i hi), fun i hi => ?_⟩, ?_⟩
  · have : (w4.setCell ⟨D, 1, none⟩ (.slice q4 (s.size + k) c4)).heap.size = w4.heap.size := by simp [World.setCell]
    rcases g6 i hi with h | h <;> omega
  rw [gr]
  refine ⟨(g5 D hD3).trans hcD, fun i hi => ?_, fun o => by rw [frozen_set]; exact fz4 o, ⟨q2, c2, cEo 0 _ (by omega) cD0, ?_⟩, ⟨q4, c4, xs ++ List.replicate k (.slice none 0 0), cell_set_same _ (k4.cell t1 hD4), OwnRow.kpc r5 kE (fun i _ hh => by have e : i = D := hh; rw [e, g5 D hD3, hcD]; omega) (fun _ _ => rfl), fun i hi => ?_⟩, ?_, ⟨hm, fun p => ?_, h.ok.safe, fun e he => ⟨?_, (h.ok.wait e he).2⟩⟩⟩
  · have : (w4.setCell ⟨D, 1, none⟩ (.slice q4 (s.size + k) c4)).heap.size = w4.heap.size := by simp [World.setCell]
    rcases g6 i hi with h | h <;> omega
  · have e : ((512 * s.size : Nat) : Int) = 512 * (s.size : Int) := by omega
    rw [e] at r3D
    exact OwnRow.kpc r3D k35 (fun i _ hh => ne2 i 2 hh (by omega) (by omega)) g5
  · have hxl : xs.length = s.size := by have := t2.1; omega
    by_cases hi' : i < s.size
    · have := t3 i hi'
      simp only [hi', if_true]
      rw [List.getElem?_append_left (by omega)]
      refine ⟨this.1, fun hh => ?_⟩
      obtain ⟨a, c', x1, x2, x3⟩ := this.2 hh
      exact ⟨a, c', x1, x2, Sec.kpc x3 k35 (fun i _ hh => ne2 i 5 hh (by omega) (by omega)) g5⟩
    · simp only [hi', if_false]
      have hi : i < s.size + k := hi
      refine ⟨fun _ => ?_, fun h => (by cases h)⟩
      rw [List.getElem?_append_right (by omega), List.getElem?_replicate, if_pos (by omega)]
  · obtain ⟨q6, c6, ys, u1, u2, u3⟩ := hw3
    refine ⟨q6, c6, ys, cEo 2 _ (by omega) u1, OwnRow.kpc u2 k35 (fun i _ hh => ne2 i 4 hh (by omega) (by omega)) g5, fun j e he => ?_⟩
    obtain ⟨a, c', x0, x1, x2, x3⟩ := u3 j e he
    exact ⟨a, c', x0, x1, x2, Sec.kpc x3 k35 (fun i _ hh => ne2 i 5 hh (by omega) (by omega)) g5⟩
  · show isByte (if _ then _ else _)
    split
    · exact h.ok.now p
    · unfold isByte; omega
  · have := (h.ok.wait e he).1
    show e.1 < s.size + k
    omega
end
end Go.Proofs.YtlgkcbdpaffigaaGreat

namespace Go.Proofs.YtlgkcbdpaffigaaGreat
open Go Go.SX Go.Proofs
set_option maxRecDepth 100000
set_option linter.unusedVariables false
set_option linter.unusedSimpArgs false
section
variable {w w' : World} {col col' : Col} {D : Nat} {s : St} {S : Nat → Prop}
/-- An element of a row of one's own is set. -/
theorem OwnRow.setAt {own : Nat → Prop} {e : TypeId} {q : Option Addr} {n c : Nat} {xs : List Value} (h : OwnRow w own e 1 (.slice q n c) n xs) {i : Nat} (hi : i < n) :
    ∃ g, q = some ⟨g, 0, none⟩ ∧ own g ∧ (∃ u, w.cell? ⟨g, i, none⟩ = some u) ∧ w.frozen? ⟨g, i, none⟩ = false ∧ ∀ v, OwnRow (w.setCell ⟨g, i, none⟩ v) own e 1 (.slice q n c) n (xs.set i v) ∧ Kp own w (w.setCell ⟨g, i, none⟩ v) := by
  obtain ⟨g, cur, rfl, _, ho, hg, hnc, hcm, hcs, ht⟩ := h.parts (by omega)
  have hxl : xs.length = n := by have := h.1; omega
  refine ⟨g, rfl, ho, ⟨cur[i]'(by omega), ?_⟩, ?_, fun v => ⟨⟨by simp [hxl], .inr ⟨g, c, cur.setIfInBounds i v, rfl, ho, heap_setCell_same w g i cur e v hg, hnc, hcm, by simp [hcs], ?_⟩⟩, Kp.setCell (Kp.refl own w) v (.inl ho)⟩⟩
  · simp only [World.cell?, hg]
    exact Array.getElem?_eq_getElem _
  · simp only [World.frozen?, hg]
    simp
  · rw [← ht, Nat.mul_one]
    simp only [Array.toList_setIfInBounds, List.take_set]
/-- A sector's bytes, where the slice says. -/
theorem Dsk.sector (h : Dsk w col D s) {i : Nat} (hi : i < s.size) {g c : Nat} (hg : w.cell? ⟨D, 0, none⟩ = some (.slice (some ⟨g, 0, none⟩) (512 * s.size) c)) : ∀ j : Nat, j < 512 → w.cell? ⟨g, 512 * i + j, none⟩ = some (.int .u8 (secAt s.now i j)) := by
  intro j hj
  obtain ⟨q1, c1, n1, n2⟩ := h.now
  rw [hg] at n1
  cases n1
  obtain ⟨a, e, ha⟩ := n2.at (j := 512 * i + j) (u := .int .u8 (s.now ((512 * i + j : Nat) : Int))) (byF_get _ (by omega))
  cases e
  rw [ad_add, Nat.zero_add] at ha
  rw [ha]
  unfold secAt
  congr 3
/-- What 'strange' says. -/
def strangeF (i : Nat) (fill : Int) (j : Int) : Int := (fill + 7 * i + j) % 256
theorem wrap8 (z : Int) : IntKind.wrap .u8 z = z % 256 := by simp [IntKind.wrap, IntKind.bits, IntKind.signed]
/-- What is safe of one more sector. -/
def setSafe (s : St) (i : Nat) (f : Int → Int) : St := { s with has := fun j => if j = i then true else s.has j, safe := fun p => if 512 * i ≤ p ∧ p < 512 * i + 512 then f (p - 512 * i) else s.safe p }
theorem setSafeK (h : Dsk w col D s) {i : Nat} (hi : i < s.size) {f : Int → Int} (hf : ∀ j, isByte (f j)) {w2 : World} (k2 : Kp none_ w w2) {g2 c2 : Nat} (hrow : OwnRow w2 (fresh w) 5 1 (.slice (some ⟨g2, 0, none⟩) 512 c2) 512 (byF f 512)) :
    ∃ q c, w2.cell? ⟨D, 1, none⟩ = some (.slice q s.size c) ∧ ∃ g, q = some ⟨g, 0, none⟩ ∧ (∃ u, w2.cell? ⟨g, i, none⟩ = some u) ∧ w2.frozen? ⟨g, i, none⟩ = false ∧
      Kp (ownC col) w (w2.setCell ⟨g, i, none⟩ (.slice (some ⟨g2, 0, none⟩) 512 c2)) ∧ ∃ col', Grow col col' w (w2.setCell ⟨g, i, none⟩ (.slice (some ⟨g2, 0, none⟩) 512 c2)) ∧ Dsk (w2.setCell ⟨g, i, none⟩ (.slice (some ⟨g2, 0, none⟩) 512 c2)) col' D (setSafe s i f) := by
  obtain ⟨q, c, xs, t1, t2, t3⟩ := h.safe
  have hD := h.dlt
  have z2 := k2.size
  obtain ⟨g, rfl, hg, hu, hfz, hset⟩ := OwnRow.setAt (t2.kp k2 fun _ _ _ _ _ => id) hi
  have hgc : col g = 3 := hg
  have gl : g < w.heap.size := h.lt g (by omega)
  have hfr : fresh w g2 ∧ g2 < w2.heap.size ∧ 512 ≤ c2 := by
    obtain ⟨g', cur, e, _, ho, hh, hc', _⟩ := hrow.parts (by omega)
    cases e
    exact ⟨ho, (Array.getElem?_eq_some_iff.1 hh).1, hc'⟩
  have hf2 : w.heap.size ≤ g2 := hfr.1
  refine ⟨_, c, k2.cell0 t1, g, rfl, hu, hfz, ?_⟩
  obtain ⟨r1, k3⟩ := hset (.slice (some ⟨g2, 0, none⟩) 512 c2)
  have s3 : (w2.setCell ⟨g, i, none⟩ (.slice (some ⟨g2, 0, none⟩) 512 c2)).heap.size = w2.heap.size := by simp [World.setCell]
  have k13 : Kp (one_ g) w (w2.setCell ⟨g, i, none⟩ (.slice (some ⟨g2, 0, none⟩) 512 c2)) := Kp.setCell (x := ⟨g, i, none⟩) (k2.mono fun _ _ h => h.elim) _ (.inl rfl)
  have k23 : Kp (one_ g) w2 (w2.setCell ⟨g, i, none⟩ (.slice (some ⟨g2, 0, none⟩) 512 c2)) := Kp.setCell (S := one_ g) (x := ⟨g, i, none⟩) (Kp.refl (one_ g) w2) _ (.inl rfl)
  let col' : Col := fun j => if j = g2 then 5 else col j
  have hc' : ∀ j, j < w.heap.size → col' j = col j := fun j hj => if_neg (by omega)
  have hDg : D ≠ g := fun e => by have h1 := h.colD; rw [e, hgc] at h1; omega
  have hd : ∀ o v, w.cell? ⟨D, o, none⟩ = some v → (w2.setCell ⟨g, i, none⟩ (.slice (some ⟨g2, 0, none⟩) 512 c2)).cell? ⟨D, o, none⟩ = some v := fun o v hv => k13.cell hv (fun e => hDg e)
  have ne : ∀ j k, one_ g j → k ≠ 3 → col j ≠ k := fun j k e hk => by have e : j = g := e; rw [e, hgc]; omega
  refine ⟨k13.mono fun j _ hj => by have e : j = g := hj; show col j ≠ 0; rw [e, hgc]; omega, col', ⟨hc', fun j hj => ?_⟩, ?_⟩
  · by_cases e : j = g2
    · rw [s3, e]; exact hfr.2.1
    · have : col j ≠ 0 := by simpa [col', e] using hj
      have := h.lt j this
      omega
  refine ⟨(hc' D hD).trans h.colD, fun j hj => ?_, fun o => by rw [frozen_set, k2.frz ⟨D, o, none⟩ hD]; exact h.frz o, h.nowK k13 (fun j _ e => ne j 2 e (by omega)) hc' (hd 0), ⟨_, c, xs.set i (.slice (some ⟨g2, 0, none⟩) 512 c2), hd 1 _ t1, ?_, fun j hj => ?_⟩, ?_, ⟨h.ok.size, h.ok.now, fun p => ?_, h.ok.wait⟩⟩
  · by_cases e : j = g2
    · rw [s3, e]; exact hfr.2.1
    · have : col j ≠ 0 := by simpa [col', e] using hj
      have := h.lt j this
      omega
  · refine r1.mono fun j hj hl => ?_
    have hj' : col j = 3 := hj
    have := h.lt j (by omega)
    exact (hc' j this).trans hj'
  · by_cases e : j = i
    · subst e
      refine ⟨fun hh => ?_, fun _ => ⟨⟨g2, 0, none⟩, c2, ?_, hfr.2.2, ?_, fun k hk => ?_⟩⟩
      · simp [setSafe] at hh
      · have hxl : xs.length = s.size := by have := t2.1; omega
        rw [List.getElem?_set_self (by omega)]
      · show col' g2 = 5
        exact if_pos rfl
      · obtain ⟨a, ea, ha⟩ := hrow.at (j := k) (u := .int .u8 (f k)) (byF_get _ hk)
        cases ea
        have hgg : g2 ≠ g := by omega
        have : (w2.setCell ⟨g, j, none⟩ (.slice (some ⟨g2, 0, none⟩) 512 c2)).cell? ((⟨g2, 0, none⟩ : Addr).add k) = some (.int .u8 (f k)) := k23.cell ha (by rw [add_block]; exact fun e => hgg e)
        rw [this]
        have : secAt (setSafe s j f).safe j k = f k := by
          unfold secAt setSafe
          dsimp only
          rw [if_pos (by omega)]
          congr 1; omega
        rw [this]
    · have := t3 j hj
      have e1 : (setSafe s i f).has j = s.has j := if_neg e
      rw [e1, List.getElem?_set_ne (fun h => e h.symm)]
      refine ⟨this.1, fun hh => ?_⟩
      obtain ⟨a, c', x1, x2, x3⟩ := this.2 hh
      refine ⟨a, c', x1, x2, ?_⟩
      have x4 := Sec.kpc (col' := col') x3 k13 (fun j _ e => ne j 5 e (by omega)) hc'
      refine ⟨x4.1, fun k hk => ?_⟩
      rw [x4.2 k hk]
      have : secAt (setSafe s i f).safe j k = secAt s.safe j k := by
        unfold secAt setSafe
        dsimp only
        rw [if_neg (by omega)]
      rw [this]
  · exact h.waitK k13 (fun j _ e => ⟨ne j 4 e (by omega), ne j 5 e (by omega)⟩) hc' (hd 2)
  · show isByte (if _ then _ else _)
    split
    · exact hf _
    · exact h.ok.safe p
end
end Go.Proofs.YtlgkcbdpaffigaaGreat

namespace Go.Proofs.YtlgkcbdpaffigaaGreat
open Go Go.SX Go.Proofs
set_option maxRecDepth 100000
set_option linter.unusedVariables false
set_option linter.unusedSimpArgs false
theorem byF_set (f : Int → Int) (n k : Nat) (x : Int) : (byF f n).set k (.int .u8 x) = byF (fun p => if p = (k : Int) then x else f p) n := by
  apply List.ext_getElem
  · simp [byF]
  · intro i h1 h2
    rw [List.getElem_set]
    simp only [byF, List.getElem_map, List.getElem_range]
    by_cases e : k = i
    · rw [if_pos e, if_pos (by omega)]
    · rw [if_neg e, if_neg (by omega)]
theorem byF_congr {f g : Int → Int} {n : Nat} (h : ∀ i : Nat, i < n → f i = g i) : byF f n = byF g n := by
  unfold byF
  apply List.map_congr_left
  intro i hi
  rw [h i (List.mem_range.1 hi)]
section
variable {w w' : World} {col col' : Col} {D : Nat} {s : St} {S : Nat → Prop}
/-- Only bytes of the row were changed. -/
theorem Dsk.nowSet (h : Dsk w col D s) {g c : Nat} {now' : Int → Int} (hD : w.cell? ⟨D, 0, none⟩ = some (.slice (some ⟨g, 0, none⟩) (512 * s.size) c)) (hk : Kp (cl col 2) w w') (hr : OwnRow w' (cl col 2) 5 1 (.slice (some ⟨g, 0, none⟩) (512 * s.size) c) (512 * s.size) (byF now' (512 * s.size))) (hb : ∀ p, isByte (now' p)) : Dsk w' col D { s with now := now' } := by
  have hd := h.dlt
  have nD : ¬ cl col 2 D := fun hh => by have := h.colD; unfold cl at hh; omega
  have ne : ∀ i k, cl col 2 i → k ≠ 2 → col i ≠ k := fun i k hi hk => by unfold cl at hi; omega
  exact ⟨h.colD, fun i hi => Nat.lt_of_lt_of_le (h.lt i hi) hk.size, fun o => (hk.frz ⟨D, o, none⟩ hd).trans (h.frz o), ⟨_, c, hk.cell hD nD, hr⟩, h.safeK hk (fun i _ hi => ⟨ne i 3 hi (by omega), ne i 5 hi (by omega)⟩) (fun _ _ => rfl) (fun v hv => hk.cell hv nD), h.waitK hk (fun i _ hi => ⟨ne i 4 hi (by omega), ne i 5 hi (by omega)⟩) (fun _ _ => rfl) (fun v hv => hk.cell hv nD), ⟨h.ok.size, hb, h.ok.safe, h.ok.wait⟩⟩
/-- A sector's bytes are others. -/
def setNow (s : St) (i : Nat) (f : Int → Int) : St := { s with now := fun p => if 512 * i ≤ p ∧ p < 512 * i + 512 then f (p - 512 * i) else s.now p }
theorem Dsk.nowRow (h : Dsk w col D s) {g c : Nat} (hD : w.cell? ⟨D, 0, none⟩ = some (.slice (some ⟨g, 0, none⟩) (512 * s.size) c)) : OwnRow w (cl col 2) 5 1 (.slice (some ⟨g, 0, none⟩) (512 * s.size) c) (512 * s.size) (byF s.now (512 * s.size)) := by
  obtain ⟨q, c', h1, h2⟩ := h.now
  rw [hD] at h1
  cases h1
  exact h2
theorem c64 (h : Dsk w col D s) {i : Nat} (hi : i < s.size) {g c : Nat} (hD : w.cell? ⟨D, 0, none⟩ = some (.slice (some ⟨g, 0, none⟩) (512 * s.size) c)) (fill : Int) (hf : isByte fill) :
    Rets Tryz.prog 83 #[.slice (some ⟨g, 512 * i, none⟩) 512 512, .int .i64 i, .int .u8 fill] w fun v w' => v = .tuple #[] ∧ Kp (cl col 2) w w' ∧ Dsk w' col D (setNow s i (strangeF i fill)) := by
  refine ent [_, _, _] Tryz.func83 ((vcTryz83 _ _ _ _ _ w _).mpr ?_)
  unfold VCTryz83
  have hs := h.ok.size
  refine ⟨fun j w' => (0 ≤ j ∧ j ≤ 512) ∧ Kp (cl col 2) w w' ∧ OwnRow w' (cl col 2) 5 1 (.slice (some ⟨g, 0, none⟩) (512 * s.size) c) (512 * s.size) (byF (fun p => if 512 * i ≤ p ∧ p < 512 * i + j then strangeF i fill (p - 512 * i) else s.now p) (512 * s.size)), fun j _ => (512 - j).toNat, ⟨by omega, Kp.refl _ _, ?_⟩, ?_⟩
  · rw [byF_congr (g := s.now) (fun k _ => if_neg (by omega))]
    exact h.nowRow hD
  rintro j w1 ⟨hj, k1, r1⟩
  refine bif_dec (fun hlt => ?_) (fun hge => ?_)
  rotate_left
  · refine ⟨_, rfl, rfl, k1, ?_⟩
    have : j = 512 := by omega
    subst this
    refine h.nowSet hD k1 r1 fun p => ?_
    show isByte (if _ then _ else _)
    split
    · exact ⟨Int.emod_nonneg _ (by decide), Int.emod_lt_of_pos _ (by decide)⟩
    · exact h.ok.now p
  obtain ⟨J, rfl⟩ := Int.eq_ofNat_of_zero_le hj.1
  obtain ⟨g', e, hog, hu, hfz, hset⟩ := OwnRow.setAt r1 (i := 512 * i + J) (by omega)
  cases e
  unfold isByte at hf
  refine wr64 (by omega) ?_
  simp only [Wr, wrap8, ptr_some, ad_add, Nat.mul_one, Nat.zero_add, Nat.add_zero, Int.toNat_natCast]
  obtain ⟨r2, k2⟩ := hset (.int .u8 (((fill + 7 * (i : Int) % 256) % 256 + (J : Int) % 256) % 256))
  have hw : IntKind.wrap .i64 ((J : Int) + 1) = J + 1 := wrap64 (by omega)
  rw [hw]
  refine ⟨by omega, hu, hfz, ⟨⟨by omega, k1.trans k2, ?_⟩, by first | omega | (dsimp only; omega)⟩⟩
  rw [byF_set] at r2
  rw [byF_congr (g := fun p => if p = ((512 * i + J : Nat) : Int) then (((fill + 7 * (i : Int) % 256) % 256 + (J : Int) % 256) % 256) else if 512 * (i : Int) ≤ p ∧ p < 512 * i + J then strangeF i fill (p - 512 * i) else s.now p)]
  · exact r2
  · intro k hk
    by_cases e : (k : Int) = ((512 * i + J : Nat) : Int)
    · rw [if_pos e, if_pos (by omega)]
      unfold strangeF
      omega
    · rw [if_neg e]
      by_cases e2 : 512 * (i : Int) ≤ k ∧ (k : Int) < 512 * i + J
      · rw [if_pos e2, if_pos (by omega)]
      · rw [if_neg e2, if_neg (by omega)]
/-- What is safe, up to a sector. -/
def syncTo (s : St) (k : Nat) : St := { s with has := fun j => if j < k then true else s.has j, safe := fun p => if 0 ≤ p ∧ p < 512 * k then s.now p else s.safe p }
def syncSt (s : St) : St := { syncTo s s.size with wait := [] }
theorem syncTo_next' (s : St) (k : Nat) : setSafe (syncTo s k) k (secAt s.now k) = syncTo s (k + 1) := by
  simp only [setSafe, syncTo, secAt, St.mk.injEq, true_and, and_true]
  refine ⟨funext fun j => ?_, funext fun p => ?_⟩
  · by_cases h1 : j = k
    · rw [if_pos h1, if_pos (by omega)]
    · rw [if_neg h1]
      by_cases h2 : j < k
      · rw [if_pos h2, if_pos (by omega)]
      · rw [if_neg h2, if_neg (by omega)]
  · by_cases h1 : 512 * (k : Int) ≤ p ∧ p < 512 * k + 512
    · rw [if_pos h1, if_pos (by omega)]; congr 1; omega
    · rw [if_neg h1]
      by_cases h2 : 0 ≤ p ∧ p < 512 * (k : Int)
      · rw [if_pos h2, if_pos (by omega)]
      · rw [if_neg h2, if_neg (by omega)]
theorem info5e : ∃ i, Tryz.prog.info? 5 = some i := by obtain ⟨i, h, _⟩ := info5; exact ⟨i, h⟩
/-- A sector's copy, in a block of its own. -/
theorem secCopy (h : Dsk w col D s) {i : Nat} (hi : i < s.size) {g c : Nat} (hD : w.cell? ⟨D, 0, none⟩ = some (.slice (some ⟨g, 0, none⟩) (512 * s.size) c)) {b0 : Addr} {K : Value → World → Prop}
    (hK : ∀ g2 c2 w2, OwnRow w2 (fresh w) 5 1 (.slice (some ⟨g2, 0, none⟩) 512 c2) 512 (byF (secAt s.now i) 512) → Kp none_ w w2 → K (.slice (some ⟨g2, 0, none⟩) 512 c2) w2) :
    Runs Tryz.prog (Builtin.append_ #[30, 30] 30 #[.slice (some b0) 0 0, .slice (some ⟨g, 512 * i, none⟩) 512 512]) w K := by
  refine lit_append (news := byF (secAt s.now i) 512) Tryz.underlying30 elem5 (byF_len _ _) (fun j u hj => ?_) (by omega) (by omega) hK
  have hj' : j < 512 := by have := (List.getElem?_eq_some_iff.1 hj).1; rwa [byF_len] at this
  rw [byF_get _ hj'] at hj
  cases hj
  rw [ad_add]
  exact h.sector hi hD j hj'
theorem c16 (h : Dsk w col D s) : Rets Tryz.prog 50 #[.pointer (some ⟨D, 0, none⟩)] w fun v w' => v = .tuple #[] ∧ Kp (ownC col) w w' ∧ ∃ col', Grow col col' w w' ∧ Dsk w' col' D (syncSt s) := by
  refine ent [_] Tryz.func50 ((vcTryz50 _ w _).mpr ?_)
  unfold VCTryz50
  have hs := h.ok.size
  obtain ⟨q0, c0, xs0, t0, _, _⟩ := h.safe
  show cond false _ _
  simp only [cond_false, ptr_some, ad_add, Nat.zero_add, Nat.add_zero]
  have s0 : syncTo s 0 = s := by
    obtain ⟨a, b, c, d, e⟩ := s
    simp only [syncTo, St.mk.injEq, true_and, and_true]
    exact ⟨funext fun j => if_neg (by omega), funext fun p => if_neg (by omega)⟩
  refine ⟨_, _, _, t0, fun i w' => ∃ k : Nat, i = k ∧ k ≤ s.size ∧ Kp (ownC col) w w' ∧ ∃ col', Grow col col' w w' ∧ Dsk w' col' D (syncTo s k), fun i _ => (s.size - i).toNat, ⟨0, rfl, by omega, Kp.refl _ _, col, Grow.refl h.lt (Nat.le_refl _), by rw [s0]; exact h⟩, ?_⟩
  rintro i w1 ⟨k, rfl, hk, k1, col1, gr1, h1⟩
  refine bif_dec (fun hlt => ?_) (fun hge => ?_)
  rotate_left
  · -- nothing waits
    have : k = s.size := by omega
    subst this
    obtain ⟨q4, c4, ys, u1, u2, u3⟩ := h1.wait
    have hd := h1.dlt
    have kD : Kp (one_ D) w1 (w1.setCell ⟨D, 2, none⟩ (.slice none 0 0)) := Kp.setCell (S := one_ D) (x := ⟨D, 2, none⟩) (Kp.refl (one_ D) w1) _ (.inl rfl)
    have ne : ∀ i c, one_ D i → c ≠ 1 → col1 i ≠ c := fun i c hi hc => by have e : i = D := hi; rw [e, h1.colD]; omega
    have cD : ∀ o v, o ≠ 2 → w1.cell? ⟨D, o, none⟩ = some v → (w1.setCell ⟨D, 2, none⟩ (.slice none 0 0)).cell? ⟨D, o, none⟩ = some v := fun o v ho hv => by rw [cell_set_off _ (Ne.symm ho)]; exact hv
    have sz : (w1.setCell ⟨D, 2, none⟩ (.slice none 0 0)).heap.size = w1.heap.size := by simp [World.setCell]
    refine ⟨⟨_, u1⟩, h1.frz 2, _, rfl, rfl, k1.then kD (fun i hi hh => ?_), col1, ⟨gr1.1, fun i hi => by rw [sz]; exact gr1.2 i hi⟩, ?_⟩
    · have e : i = D := hh
      show col i ≠ 0
      rw [← gr1.1 i hi, e, h1.colD]
      omega
    · exact ⟨h1.colD, fun i hi => by rw [sz]; exact h1.lt i hi, fun o => by rw [frozen_set]; exact h1.frz o, h1.nowK kD (fun i _ hi => ne i 2 hi (by omega)) (fun _ _ => rfl) (cD 0 · (by omega)), h1.safeK kD (fun i _ hi => ⟨ne i 3 hi (by omega), ne i 5 hi (by omega)⟩) (fun _ _ => rfl) (cD 1 · (by omega)), ⟨none, 0, [], cell_set_same _ u1, OwnRow.nil _ _ _ _, fun k e he => by simp [syncSt] at he⟩, ⟨h1.ok.size, h1.ok.now, h1.ok.safe, fun e he => by simp [syncSt] at he⟩⟩
  obtain ⟨q1, c1, xs, t1, t2, t3⟩ := h1.safe
  have hki : k < (syncTo s k).size := by show k < s.size; omega
  obtain ⟨qn, cn, n1, n2⟩ := h1.now
  obtain ⟨g, cur, rfl, _, hgc, _, hcn, _⟩ := n2.parts (by omega)
  -- the round's end
  have fin : ∀ w2 g2 c2, Kp none_ w1 w2 → OwnRow w2 (fresh w1) 5 1 (.slice (some ⟨g2, 0, none⟩) 512 c2) 512 (byF (secAt s.now k) 512) →
      w2.cell? ⟨D, 1, none⟩ = some (.slice q1 s.size c1) ∧ (0 ≤ (k : Int) ∧ (k : Int) < (s.size : Int)) ∧ Ptr q1 fun a27 => (∃ v28, w2.cell? ((a27.add ((k : Int).toNat * 1)).add 0) = some v28) ∧ w2.frozen? ((a27.add ((k : Int).toNat * 1)).add 0) = false ∧
        Wr .i64 ((k : Int) + 1) fun i29 => (∃ k' : Nat, i29 = k' ∧ k' ≤ s.size ∧ Kp (ownC col) w (w2.setCell ((a27.add ((k : Int).toNat * 1)).add 0) (.slice (some ⟨g2, 0, none⟩) 512 c2)) ∧ ∃ col', Grow col col' w (w2.setCell ((a27.add ((k : Int).toNat * 1)).add 0) (.slice (some ⟨g2, 0, none⟩) 512 c2)) ∧ Dsk (w2.setCell ((a27.add ((k : Int).toNat * 1)).add 0) (.slice (some ⟨g2, 0, none⟩) 512 c2)) col' D (syncTo s k')) ∧
          (s.size - i29).toNat < (s.size - (k : Int)).toNat := by
    intro w2 g2 c2 k2 r2
    obtain ⟨q', c', x1, g', rfl, x2, x3, x4, col2, x5, x6⟩ := setSafeK h1 hki (f := secAt s.now k) (fun j => h.ok.now _) k2 r2
    have e := x1.symm.trans (k2.cell0 t1)
    cases e
    rw [syncTo_next'] at x6
    simp only [ptr_some, ad_add, Nat.mul_one, Nat.zero_add, Nat.add_zero, Int.toNat_natCast]
    refine ⟨x1, by omega, x2, x3, wr64 (by omega) ⟨⟨k + 1, by omega, by omega, k1.then x4 (fun i hi hh => ?_), col2, gr1.trans x5 k1.size, x6⟩, by omega⟩⟩
    have hh : col1 i ≠ 0 := hh
    show col i ≠ 0
    rw [← gr1.1 i hi]
    exact hh
  have lit := fun (w2 : World) => lit_run (P := Tryz.prog) w2 Tryz.underlying30 info5e
  refine ⟨_, _, _, t1, ⟨_, _, lit w1.drew, _, _, _, rfl, (((Kp.refl none_ w1.drew).alloc _ _).keeps0), ?_⟩, ?_⟩
  · have ka : Kp none_ w1 (w1.drew.alloc (.cells #[] 5)) := (Kp.refl none_ w1).drew.alloc _ _
    have h2 := h1.kp0 ka
    refine ⟨cell_alloc _ t1, (c62 h2 k hki).mono ?_⟩
    rintro v wx ⟨⟨g', c', y1, y2, _, rfl⟩, e⟩
    obtain rfl := e.symm
    refine ⟨_, _, _, rfl, (Kp.refl none_ _).keeps0, ka.cell0 t1, secCopy h2 hki y1 fun g2 c2 w2 r2 k2 => ?_⟩
    obtain ⟨f1, f2⟩ := fin w2 g2 c2 (ka.trans k2) (r2.mono fun i hi _ => Nat.le_trans ka.size hi)
    exact ⟨_, _, _, rfl, k2.keeps0, f1, f2⟩
  · have h2 := h1.drew
    refine (c62 h2 k hki).mono ?_
    rintro v wx ⟨⟨g', c', y1, y2, _, rfl⟩, e⟩
    obtain rfl := e.symm
    have ka : Kp none_ w1.drew (w1.drew.alloc (.cells #[] 5)) := (Kp.refl none_ w1.drew).alloc _ _
    have h3 := h2.kp0 ka
    refine ⟨_, _, _, rfl, (Kp.refl none_ _).keeps0, t1, _, _, lit w1.drew, _, _, _, rfl, ka.keeps0, ka.cell0 t1, secCopy h3 hki (ka.cell0 y1) fun g2 c2 w2 r2 k2 => ?_⟩
    obtain ⟨f1, f2⟩ := fin w2 g2 c2 (((Kp.refl none_ w1).drew.trans ka).trans k2) (r2.mono fun i hi _ => Nat.le_trans ka.size hi)
    exact ⟨_, _, _, rfl, k2.keeps0, f1, f2⟩
end
end Go.Proofs.YtlgkcbdpaffigaaGreat

namespace Go.Proofs.YtlgkcbdpaffigaaGreat
open Go Go.SX Go.Proofs
set_option maxRecDepth 100000
set_option linter.unusedVariables false
set_option linter.unusedSimpArgs false
theorem ok5 (x : Int) : Value.oneCell' (.int .u8 x) = true := by simp [Value.oneCell']
theorem byF_one (f : Int → Int) (n : Nat) : ∀ u ∈ byF f n, u.oneCell' = true := fun u hu => by
  obtain ⟨i, _, rfl⟩ := List.mem_map.1 hu
  exact ok5 _
theorem cut0 (g c : Nat) : cutA (some ⟨g, 0, none⟩) c 0 1 = some ⟨g, 0, none⟩ := by
  unfold cutA
  split
  · rfl
  · simp [ad_add]
theorem cutn {g c o : Nat} (h : o ≠ c) : cutA (some ⟨g, 0, none⟩) c o 1 = some ⟨g, o, none⟩ := by
  unfold cutA
  rw [if_neg (by omega)]
  simp [ad_add]
/-- Bytes laid over others, in a row. -/
theorem byF_over (f g : Int → Int) (n o m : Nat) (h : o + m ≤ n) : (byF f n).take o ++ byF g m ++ (byF f n).drop (o + m) = byF (fun p => if (o : Int) ≤ p ∧ p < o + m then g (p - o) else f p) n := by
  apply List.ext_getElem
  · simp only [List.length_append, List.length_take, List.length_drop, byF_len]; omega
  · intro i h1 h2
    rw [byF_len] at h2
    simp only [byF, List.getElem_map, List.getElem_range]
    by_cases c1 : i < o
    · rw [List.getElem_append_left (by simp; omega), List.getElem_append_left (by simp; omega), List.getElem_take]
      simp only [List.getElem_map, List.getElem_range]
      rw [if_neg (by omega)]
    · by_cases c2 : i < o + m
      · rw [List.getElem_append_left (by simp; omega), List.getElem_append_right (by simp; omega)]
        simp only [List.getElem_map, List.getElem_range, List.length_take, List.length_map, List.length_range]
        rw [if_pos (by omega)]
        congr 2
        omega
      · rw [List.getElem_append_right (by simp; omega), List.getElem_drop]
        simp only [List.getElem_map, List.getElem_range, List.length_append, List.length_take, List.length_map, List.length_range]
        rw [if_neg (by omega)]
        congr 2
        omega
section
variable {w w' : World} {col col' : Col} {D : Nat} {s : St} {S : Nat → Prop}
/-- The bytes from a place on. -/
def readF (s : St) (at_ : Int) : Int → Int := fun p => if at_ + p < 512 * s.size then s.now (at_ + p) else 0
theorem c17 (h : Dsk w col D s) (at_ : Int) (n : Nat) (hr : rightF at_ n = true) (hn : n = 0 → s.size = 0) : Rets Tryz.prog 64 #[.pointer (some ⟨D, 0, none⟩), .int .i64 at_, .int .i64 n] w fun v w' =>
    ∃ q c, v = .tuple #[.slice q n c, .int .i64 0] ∧ Kp none_ w w' ∧ OwnRow w' (fresh w) 5 1 (.slice q n c) n (byF (readF s at_) n) := by
  refine ent [_, _, _] Tryz.func64 ((vcTryz64 _ _ _ w _).mpr ?_)
  unfold VCTryz64
  have hs := h.ok.size
  have hr' := hr
  unfold rightF at hr'
  have hr' := of_decide_eq_true hr'
  show cond false _ _
  simp only [cond_false]
  refine (c63 w at_ n).mono ?_
  rintro v wx ⟨rfl, e⟩
  obtain rfl := e.symm
  rw [hr]
  refine ⟨_, rfl, (Kp.refl none_ _).keeps0, bif_b (fun h => by cases h) (fun _ => ?_)⟩
  obtain ⟨i5, i51, i52, i53, i54⟩ := info5
  refine make_own Tryz.underlying30 ⟨i5, .int .u8 0, i51, i52, i53, rfl, by omega, fun w2 r2 k2 => ?_⟩ (by omega)
  obtain ⟨q1, c1, n1, n2⟩ := h.now
  have zrow : List.replicate n (Value.int .u8 0) = byF (fun _ => 0) n := by
    apply List.ext_getElem
    · simp [byF]
    · intro i h1 h2; simp [byF]
  rw [zrow] at r2
  simp only [ptr_some, ad_add, Nat.zero_add]
  refine ⟨_, _, _, rfl, k2.keeps0, _, _, _, k2.cell0 n1, bif_dec (fun hlt => ?_) (fun hge => ⟨_, rfl, _, _, rfl, k2, ?_⟩)⟩
  rotate_left
  · rw [byF_congr (g := fun _ => 0)]
    · exact r2
    · intro i hi
      exact if_neg (by omega)
  obtain ⟨g, cur, rfl, _, hgc, _, hcn, _⟩ := n2.parts (by omega)
  have e1 : cutA (some ⟨g, 0, none⟩) c1 at_.toNat 1 = some ⟨g, at_.toNat, none⟩ := cutn (by omega)
  refine ⟨_, _, _, k2.cell0 n1, by omega, ?_⟩
  rw [e1, ← cut0 w.heap.size n]
  have h2 := h.kp0 k2
  have hm : (byF (fun p => s.now (at_ + p)) (min (512 * s.size - at_.toNat) n)).length = Nat.min (512 * s.size - at_.toNat) n := byF_len _ _
  refine copy_own (own := fresh w) (n := n) (xs := byF (fun _ => 0) n) (cs := byF (fun p => s.now (at_ + p)) (min (512 * s.size - at_.toNat) n)) Tryz.underlying30 (by kernel_rfl) r2 hm (by rw [byF_len]; omega) (by omega) (fun j v hj => ?_) (byF_one _ _) (fun w3 r3 k3 => ?_)
  · have hj' : j < min (512 * s.size - at_.toNat) n := by have := (List.getElem?_eq_some_iff.1 hj).1; rwa [byF_len] at this
    rw [byF_get _ hj'] at hj
    cases hj
    have n1' := k2.cell0 n1
    obtain ⟨a, ea, ha⟩ := (h2.nowRow n1').at (j := at_.toNat + j) (u := .int .u8 (s.now ((at_.toNat + j : Nat) : Int))) (byF_get _ (by omega))
    cases ea
    rw [ad_add, Nat.zero_add] at ha
    rw [ad_add, ha]
    congr 3
    omega
  · rw [cut0]
    refine ⟨_, rfl, k3.keeps0, _, rfl, _, _, rfl, k2.then k3 (fun i hi hf => by unfold fresh at hf; omega), ?_⟩
    have := byF_over (fun _ => 0) (fun p => s.now (at_ + p)) n 0 (min (512 * s.size - at_.toNat) n) (by omega)
    rw [byF_len] at r3
    rw [this] at r3
    rw [byF_congr (g := fun p => if ((0 : Nat) : Int) ≤ p ∧ p < ((0 : Nat) : Int) + ((min (512 * s.size - at_.toNat) n : Nat) : Int) then s.now (at_ + (p - ((0 : Nat) : Int))) else 0)]
    · exact r3
    · intro i hi
      unfold readF
      by_cases c1 : at_ + (i : Int) < 512 * s.size
      · rw [if_pos c1, if_pos (by omega)]
        congr 1
      · rw [if_neg c1, if_neg (by omega)]
/-- One more sector waits. -/
def pushSt (s : St) (k : Nat) (f : Int → Int) : St := { s with wait := s.wait ++ [(k, f)] }
theorem pushWaitK (h : Dsk w col D s) {k : Nat} (hk : k < s.size) {f : Int → Int} (hf : ∀ p, isByte (f p)) (hl : s.wait.length ≤ 100000) {w2 : World} (k2 : Kp none_ w w2) {g2 c2 : Nat} (hrow : OwnRow w2 (fresh w) 5 1 (.slice (some ⟨g2, 0, none⟩) 512 c2) 512 (byF (secAt f k) 512)) :
    ∃ q c, w2.cell? ⟨D, 2, none⟩ = some (.slice q s.wait.length c) ∧ (w2.alloc (.cells #[.int .i64 k, .slice (some ⟨g2, 0, none⟩) 512 c2] 111)).cell? ⟨D, 2, none⟩ = some (.slice q s.wait.length c) ∧
      Runs Tryz.prog (Builtin.append_ #[84, 84] 84 #[.slice q s.wait.length c, .slice (some ⟨w2.heap.size, 0, none⟩) 1 1]) (w2.alloc (.cells #[.int .i64 k, .slice (some ⟨g2, 0, none⟩) 512 c2] 111)) fun v w3 =>
        ∃ q' c', v = .slice q' (s.wait.length + 1) c' ∧ Keeps (w2.alloc (.cells #[.int .i64 k, .slice (some ⟨g2, 0, none⟩) 512 c2] 111)) w3 [] ∧ (∃ u, w3.cell? ⟨D, 2, none⟩ = some u) ∧ w3.frozen? ⟨D, 2, none⟩ = false ∧
          Kp (ownC col) w (w3.setCell ⟨D, 2, none⟩ (.slice q' (s.wait.length + 1) c')) ∧ ∃ col', Grow col col' w (w3.setCell ⟨D, 2, none⟩ (.slice q' (s.wait.length + 1) c')) ∧ Dsk (w3.setCell ⟨D, 2, none⟩ (.slice q' (s.wait.length + 1) c')) col' D (pushSt s k f) := by
  obtain ⟨q, c, ys, t1, t2, t3⟩ := h.wait
  have hD := h.dlt
  have z2 := k2.size
  have hfr : fresh w g2 ∧ g2 < w2.heap.size ∧ 512 ≤ c2 := by
    obtain ⟨g', cur, e, _, ho, hh, hc', _⟩ := hrow.parts (by omega)
    cases e
    exact ⟨ho, (Array.getElem?_eq_some_iff.1 hh).1, hc'⟩
  have hf2 : w.heap.size ≤ g2 := hfr.1
  refine ⟨q, c, k2.cell0 t1, cell_alloc _ (k2.cell0 t1), ?_⟩
  refine append_new (own := cl col 4) (xs := ys) #[.int .i64 k, .slice (some ⟨g2, 0, none⟩) 512 c2] Tryz.underlying84 elem118 (by omega) (t2.kp k2 fun _ _ _ _ _ => id) rfl (by simp [Value.oneCell']) (by omega) ?_
  intro q3 c3 w3 r3 k3 k3a
  have z3 := k3.size
  have z3a := k3a.size
  have sA : (w2.alloc (.cells #[Value.int .i64 k, .slice (some ⟨g2, 0, none⟩) 512 c2] 111)).heap.size = w2.heap.size + 1 := alloc_size _ _
  have hD4 : ¬ cl col 4 D := fun hh => by have := h.colD; unfold cl at hh; omega
  have cD2 : w3.cell? ⟨D, 2, none⟩ = some (.slice q s.wait.length c) := k3.cell (k2.cell0 t1) hD4
  refine ⟨q3, c3, rfl, k3a.keeps0, ⟨_, cD2⟩, (k3.frz ⟨D, 2, none⟩ (show D < w2.heap.size by omega)).trans ((k2.frz ⟨D, 2, none⟩ hD).trans (h.frz 2)), ?_⟩
  have k13 : Kp (cl col 4) w w3 := (k2.mono fun _ _ h => h.elim).trans k3
  obtain ⟨col1, g1, g1', r4⟩ := recolor (w := w) (k := 4) h.lt (Nat.le_trans z2 z3) (r3.mono fun i hi _ => hi.imp id fun hh => Nat.le_trans z2 hh)
  -- the copy's own block
  have hg2ne : col1 g2 ≠ 4 ∨ True := .inr trivial
  have kD : Kp (one_ D) w3 (w3.setCell ⟨D, 2, none⟩ (.slice q3 (s.wait.length + 1) c3)) := Kp.setCell (S := one_ D) (x := ⟨D, 2, none⟩) (Kp.refl (one_ D) w3) _ (.inl rfl)
  have k14 : Kp (fun i => col i = 4 ∨ i = D) w (w3.setCell ⟨D, 2, none⟩ (.slice q3 (s.wait.length + 1) c3)) := (k13.mono fun _ _ h => .inl h).trans (kD.mono fun _ _ h => .inr h)
  have sS : (w3.setCell ⟨D, 2, none⟩ (.slice q3 (s.wait.length + 1) c3)).heap.size = w3.heap.size := by simp [World.setCell]
  have ne : ∀ i c, (col i = 4 ∨ i = D) → c ≠ 1 → c ≠ 4 → col i ≠ c := fun i c hi h1 h2 => by
    rcases hi with hi | hi
    · omega
    · rw [hi, h.colD]; omega
  have kAll : Kp (ownC col) w (w3.setCell ⟨D, 2, none⟩ (.slice q3 (s.wait.length + 1) c3)) := k14.mono fun i _ hi => by
    show col i ≠ 0
    rcases hi with hi | hi
    · omega
    · rw [hi, h.colD]; omega
  -- the row's block and the copy's are two
  have two : ∀ g, q3 = some ⟨g, 0, none⟩ → g ≠ g2 := by
    intro g e e2
    subst e2
    obtain ⟨g', cur, e', _, ho, hh, _⟩ := r3.parts (by omega)
    rw [e] at e'
    cases e'
    rcases ho with ho | ho
    · have := h.lt g (by have : col g = 4 := ho; omega)
      omega
    · unfold fresh at ho; omega
  let col2 : Col := fun j => if j = g2 then 5 else col1 j
  have hc2 : ∀ j, j < w.heap.size → col2 j = col j := fun j hj => (if_neg (by omega)).trans (g1 j hj)
  refine ⟨kAll, col2, ⟨hc2, fun j hj => ?_⟩, ?_⟩
  · by_cases e : j = g2
    · rw [sS, e]; omega
    · have : col1 j ≠ 0 := by simpa [col2, e] using hj
      rcases g1' j this with h | h <;> omega
  have hd : ∀ o v, o ≠ 2 → w.cell? ⟨D, o, none⟩ = some v → (w3.setCell ⟨D, 2, none⟩ (.slice q3 (s.wait.length + 1) c3)).cell? ⟨D, o, none⟩ = some v := fun o v ho hv => by rw [cell_set_off _ (Ne.symm ho)]; exact k13.cell hv hD4
  have r5 := r4.kp kD fun g _ _ _ hg hh => by
    have e : g = D := hh
    have hg : col1 g = 4 := hg
    rw [e, g1 D hD, h.colD] at hg
    omega
  refine ⟨(hc2 D hD).trans h.colD, fun j hj => ?_, fun o => ?_, h.nowK k14 (fun i _ hi => ne i 2 hi (by omega) (by omega)) hc2 (hd 0 · (by omega)), h.safeK k14 (fun i _ hi => ⟨ne i 3 hi (by omega) (by omega), ne i 5 hi (by omega) (by omega)⟩) hc2 (hd 1 · (by omega)),
    ⟨q3, c3, ys ++ [.int .i64 k, .slice (some ⟨g2, 0, none⟩) 512 c2], ?_, ?_, fun j e he => ?_⟩, ⟨h.ok.size, h.ok.now, h.ok.safe, fun e he => ?_⟩⟩
  · by_cases e : j = g2
    · rw [sS, e]; omega
    · have : col1 j ≠ 0 := by simpa [col2, e] using hj
      rcases g1' j this with h | h <;> omega
  · rw [frozen_set, k13.frz ⟨D, o, none⟩ hD]; exact h.frz o
  · have : (pushSt s k f).wait.length = s.wait.length + 1 := by simp [pushSt]
    rw [this]
    exact cell_set_same _ cD2
  · have : (pushSt s k f).wait.length = s.wait.length + 1 := by simp [pushSt]
    rw [this]
    rcases r5.2 with ⟨e1, e2⟩ | ⟨g, cap, cur, e1, e2, e3, e4⟩
    · exact ⟨r5.1, .inl ⟨e1, e2⟩⟩
    · refine ⟨r5.1, .inr ⟨g, cap, cur, e1, ?_, e3, e4⟩⟩
      cases e1
      show (if g = g2 then 5 else col1 g) = 4
      rw [if_neg (two g rfl)]
      exact e2
  · have hyl : ys.length = s.wait.length * 2 := t2.1
    by_cases hj : j < s.wait.length
    · have he' : s.wait[j]? = some e := by
        have : (s.wait ++ [(k, f)])[j]? = some e := he
        rwa [List.getElem?_append_left hj] at this
      obtain ⟨a, c', x0, x1, x2, x3⟩ := t3 j e he'
      refine ⟨a, c', ?_, ?_, x2, Sec.kpc x3 k14 (fun i _ hi => ne i 5 hi (by omega) (by omega)) hc2⟩
      · rw [List.getElem?_append_left (by omega)]; exact x0
      · rw [List.getElem?_append_left (by omega)]; exact x1
    · have hjl : j = s.wait.length := by
        have : j < (s.wait ++ [(k, f)]).length := (List.getElem?_eq_some_iff.1 he).1
        rw [List.length_append] at this
        simp at this
        omega
      subst hjl
      have he' : e = (k, f) := by
        have : (s.wait ++ [(k, f)])[s.wait.length]? = some e := he
        simp at this
        exact this.symm
      subst he'
      refine ⟨⟨g2, 0, none⟩, c2, ?_, ?_, hfr.2.2, if_pos rfl, fun i hi => ?_⟩
      · rw [List.getElem?_append_right (by omega), hyl, Nat.sub_self]; rfl
      · rw [List.getElem?_append_right (by omega), hyl, show s.wait.length * 2 + 1 - s.wait.length * 2 = 1 by omega]; rfl
      · obtain ⟨a, ea, ha⟩ := hrow.at (j := i) (u := .int .u8 (secAt f k i)) (byF_get _ hi)
        cases ea
        have hgD : g2 ≠ D := by omega
        refine kD.cell (k3.cell ha ?_) ?_
        · rw [add_block]
          intro hh
          have hh : col g2 = 4 := hh
          have := h.lt g2 (by omega)
          omega
        · rw [add_block]; exact fun e => hgD e
  · have he : e ∈ s.wait ++ [(k, f)] := he
    simp only [List.mem_append, List.mem_singleton] at he
    rcases he with he | rfl
    · exact h.ok.wait e he
    · exact ⟨hk, hf⟩
end
end Go.Proofs.YtlgkcbdpaffigaaGreat

namespace Go.Proofs.YtlgkcbdpaffigaaGreat
open Go Go.SX Go.Proofs
set_option maxRecDepth 100000
set_option linter.unusedVariables false
set_option linter.unusedSimpArgs false
section
variable {w w' : World} {col col' : Col} {D : Nat} {s : St} {S : Nat → Prop}
/-- What is written. -/
def overF (f b : Int → Int) (at_ : Int) (n : Nat) : Int → Int := fun p => if at_ ≤ p ∧ p < at_ + n then b (p - at_) else f p
/-- So many sectors, from one on, wait. -/
def waits (lo k : Nat) (f : Int → Int) : List (Nat × (Int → Int)) := (List.range k).map fun j => (lo + j, f)
theorem waits_succ (lo k : Nat) (f : Int → Int) : waits lo (k + 1) f = waits lo k f ++ [(lo + k, f)] := by simp [waits, List.range_succ]
def loF (at_ : Int) : Nat := (at_ / 512).toNat
def hiF (at_ : Int) (n : Nat) : Nat := ((at_ + n + 511) / 512).toNat
def writeSt (s : St) (at_ : Int) (n : Nat) (b : Int → Int) : St :=
  { growSt s (hiF at_ n) with now := overF (growSt s (hiF at_ n)).now b at_ n, wait := s.wait ++ waits (loF at_) (hiF at_ n - loF at_) (overF (growSt s (hiF at_ n)).now b at_ n) }
theorem growSt_wait (s : St) (m : Nat) : (growSt s m).wait = s.wait := by unfold growSt; split <;> rfl
theorem growSt_size (s : St) (m : Nat) : (growSt s m).size = max s.size m := by
  unfold growSt
  split
  · show m = _; omega
  · omega
theorem growSt_max (s : St) (m : Nat) : growSt s (max s.size m) = growSt s m := by
  unfold growSt
  by_cases h : s.size < m
  · rw [if_pos h, if_pos (by omega)]
    have : max s.size m = m := by omega
    rw [this]
  · rw [if_neg h, if_neg (by omega)]
theorem c20 (h : Dsk w col D s) {q : Option Addr} {n cp : Nat} {b : Int → Int} (hb : Ints w .u8 q n b) (hby : ∀ i : Int, 0 ≤ i → i < n → isByte (b i)) (hq : 0 < n → ∀ a, q = some a → col a.block = 0) (hl : s.wait.length ≤ 90000) (at_ : Int) :
    Rets Tryz.prog 44 #[.pointer (some ⟨D, 0, none⟩), .int .i64 at_, .slice q n cp] w fun v w' =>
      v = .int .i64 (if rightF at_ n = true then 0 else 1) ∧ Kp (ownC col) w w' ∧ ∃ col', Grow col col' w w' ∧ Dsk w' col' D (if rightF at_ n = true ∧ n ≠ 0 then writeSt s at_ n b else s) := by
  refine ent [_, _, _] Tryz.func44 ((vcTryz44 _ _ _ _ _ w _).mpr ?_)
  unfold VCTryz44
  have hs := h.ok.size
  refine (c65 h at_ n).mono ?_
  rintro v wx ⟨rfl, e⟩
  obtain rfl := e.symm
  refine ⟨_, _, rfl, (Kp.refl none_ _).keeps0, bif_not (fun hr => ?_) (fun hr => ?_)⟩
  · rw [hr]
    exact ⟨_, rfl, rfl, Kp.refl _ _, col, Grow.refl h.lt (Nat.le_refl _), h⟩
  refine bif_eq (fun h0 => ?_) (fun h0 => ?_)
  · have hn0 : n = 0 := by omega
    rw [hr, if_pos rfl, if_neg (fun hh => hh.2 hn0)]
    exact ⟨_, rfl, rfl, Kp.refl _ _, col, Grow.refl h.lt (Nat.le_refl _), h⟩
  have hn0 : n ≠ 0 := by omega
  have hr' := hr
  unfold rightF at hr'
  have hr' := of_decide_eq_true hr'
  rw [hr, if_pos rfl, if_pos rfl, if_pos ⟨rfl, hn0⟩]
  have hneed : needF s at_ n = ((max s.size (hiF at_ n) : Nat) : Int) := by unfold needF hiF; rw [if_neg h0]; omega
  have hhi : hiF at_ n ≤ 4096 := by unfold hiF; omega
  rw [hneed]
  refine (c66 h (max s.size (hiF at_ n)) (by omega)).mono ?_
  rintro v w5 ⟨rfl, k5, col5, gr5, h5⟩
  rw [growSt_max] at h5
  have hsz := growSt_size s (hiF at_ n)
  have hwt := growSt_wait s (hiF at_ n)
  refine ⟨rfl, k5.keeps0, ?_⟩
  unfold writeSt
  generalize growSt s (hiF at_ n) = s1 at *
  have hs1 := h5.ok.size
  have hlo : loF at_ < hiF at_ n ∧ hiF at_ n ≤ s1.size := by unfold loF hiF at *; omega
  have hend : at_ + n ≤ 512 * s1.size := by unfold hiF at hlo; omega
  obtain ⟨q1, c1, n1, n2⟩ := h5.now
  obtain ⟨g, cur, rfl, _, hgc, _, hcn, _⟩ := n2.parts (by omega)
  simp only [ptr_some, ad_add, Nat.zero_add, Nat.add_zero]
  have hb5 : Ints w5 .u8 q n b := hb.kp k5 fun h0 a ha hh => hh (hq h0 a ha)
  obtain ⟨a, rfl, _⟩ := hb5 0 (by omega) (by omega)
  have hmin : (byF b n).length = Nat.min n (512 * s1.size - at_.toNat) := by rw [byF_len]; exact (Nat.min_eq_left (by omega)).symm
  refine ⟨_, _, _, n1, by omega, copy_own (own := cl col5 2) (n := 512 * s1.size) (cs := byF b n) Tryz.underlying30 (by kernel_rfl) n2 hmin (by rw [byF_len]; omega) (by omega) (fun j v hj => ?_) (byF_one _ _) (fun w6 r6 k6 => ?_)⟩
  · have hj' : j < n := by have := (List.getElem?_eq_some_iff.1 hj).1; rwa [byF_len] at this
    rw [byF_get _ hj'] at hj
    cases hj
    obtain ⟨a', e, hc⟩ := hb5 j (by omega) (by omega)
    cases e
    rw [← hc]
    congr 2
  rw [byF_len, byF_over _ _ _ _ _ (by omega)] at r6
  have hnow : byF (fun p => if ((at_.toNat : Nat) : Int) ≤ p ∧ p < ((at_.toNat : Nat) : Int) + (n : Int) then b (p - ((at_.toNat : Nat) : Int)) else s1.now p) (512 * s1.size) = byF (overF s1.now b at_ n) (512 * s1.size) := by
    have e : ((at_.toNat : Nat) : Int) = at_ := by omega
    rw [e]; rfl
  rw [hnow] at r6
  have hnb : ∀ p, isByte (overF s1.now b at_ n p) := fun p => by
    unfold overF
    split
    · exact hby _ (by omega) (by omega)
    · exact h5.ok.now p
  have h6 := h5.nowSet n1 k6 r6 hnb
  have ko : ∀ {i}, i < w.heap.size → ownC col5 i → ownC col i := fun {i} hi hh => by
    show col i ≠ 0
    rw [← gr5.1 i hi]
    exact hh
  have kw6 : Kp (ownC col) w w6 := k5.then k6 fun i hi hh => ko hi (by have hh : col5 i = 2 := hh; show col5 i ≠ 0; omega)
  have gr6 : Grow col col5 w w6 := ⟨gr5.1, fun i hi => Nat.lt_of_lt_of_le (gr5.2 i hi) k6.size⟩
  have e512 : at_.tdiv 512 = (loF at_ : Nat) := by unfold loF; rw [Int.tdiv_eq_ediv_of_nonneg (by omega)]; omega
  rw [e512]
  refine ⟨_, rfl, k6.keeps0, by omega, wr64 (by omega) ?_⟩
  refine ⟨fun i w' => ∃ k : Nat, i = (loF at_ : Nat) + (k : Int) ∧ k ≤ hiF at_ n - loF at_ ∧ Kp (ownC col) w w' ∧ ∃ col', Grow col col' w w' ∧ Dsk w' col' D { s1 with now := overF s1.now b at_ n, wait := s.wait ++ waits (loF at_) k (overF s1.now b at_ n) }, fun i _ => (hiF at_ n - i).toNat,
    ⟨0, by omega, by omega, kw6, col5, gr6, by rw [← hwt]; simpa [waits] using h6⟩, ?_⟩
  rintro i w7 ⟨k, rfl, hk, k7, col7, gr7, h7⟩
  refine wr64 (by omega) ((c67 w7 (at_ + n) (by omega)).mono ?_)
  rintro v wx ⟨rfl, e⟩
  obtain rfl := e.symm
  have ehi : (at_ + (n : Int) + 511) / 512 = (hiF at_ n : Nat) := by unfold hiF; omega
  rw [ehi]
  refine ⟨_, rfl, (Kp.refl none_ _).keeps0, bif_dec (fun hlt => ?_) (fun hge => ?_)⟩
  rotate_left
  · have : k = hiF at_ n - loF at_ := by omega
    subst this
    exact ⟨_, rfl, rfl, k7, col7, gr7, h7⟩
  have hki : loF at_ + k < ({ s1 with now := overF s1.now b at_ n, wait := s.wait ++ waits (loF at_) k (overF s1.now b at_ n) } : St).size := by show loF at_ + k < s1.size; omega
  have ei : ((loF at_ : Nat) : Int) + (k : Int) = ((loF at_ + k : Nat) : Int) := by omega
  rw [ei]
  obtain ⟨qw, cw, ys, u1, u2, u3⟩ := h7.wait
  have hlen : (s.wait ++ waits (loF at_) k (overF s1.now b at_ n)).length ≤ 100000 := by simp [waits]; omega
  -- the round's end
  have fin : ∀ w2 g2 c2, Kp none_ w7 w2 → OwnRow w2 (fresh w7) 5 1 (.slice (some ⟨g2, 0, none⟩) 512 c2) 512 (byF (secAt (overF s1.now b at_ n) (loF at_ + k)) 512) →
      w2.cell? ⟨D, 2, none⟩ = some (.slice qw (s.wait ++ waits (loF at_) k (overF s1.now b at_ n)).length cw) ∧ (w2.alloc (.cells #[.int .i64 ((loF at_ + k : Nat) : Int), .slice (some ⟨g2, 0, none⟩) 512 c2] 111)).cell? ⟨D, 2, none⟩ = some (.slice qw (s.wait ++ waits (loF at_) k (overF s1.now b at_ n)).length cw) ∧
      Runs Tryz.prog (Builtin.append_ #[84, 84] 84 #[.slice qw (s.wait ++ waits (loF at_) k (overF s1.now b at_ n)).length cw, .slice (some ⟨w2.heap.size, 0, none⟩) 1 1]) (w2.alloc (.cells #[.int .i64 ((loF at_ + k : Nat) : Int), .slice (some ⟨g2, 0, none⟩) 512 c2] 111)) fun v w3 =>
        ∃ q' n' c', v = .slice q' n' c' ∧ Keeps (w2.alloc (.cells #[.int .i64 ((loF at_ + k : Nat) : Int), .slice (some ⟨g2, 0, none⟩) 512 c2] 111)) w3 [] ∧ (∃ u, w3.cell? ⟨D, 2, none⟩ = some u) ∧ w3.frozen? ⟨D, 2, none⟩ = false ∧
          Wr .i64 (((loF at_ + k : Nat) : Int) + 1) fun i48 => (∃ k' : Nat, i48 = (loF at_ : Nat) + (k' : Int) ∧ k' ≤ hiF at_ n - loF at_ ∧ Kp (ownC col) w (w3.setCell ⟨D, 2, none⟩ (.slice q' n' c')) ∧ ∃ col', Grow col col' w (w3.setCell ⟨D, 2, none⟩ (.slice q' n' c')) ∧ Dsk (w3.setCell ⟨D, 2, none⟩ (.slice q' n' c')) col' D { s1 with now := overF s1.now b at_ n, wait := s.wait ++ waits (loF at_) k' (overF s1.now b at_ n) }) ∧
            (hiF at_ n - i48).toNat < (hiF at_ n - ((loF at_ + k : Nat) : Int)).toNat := by
    intro w2 g2 c2 k2 r2
    obtain ⟨q', c', x1, x2, v', w3, x3, q3, c3, rfl, x5, x6, x7, x8, col8, x9, x10⟩ := pushWaitK h7 hki (f := overF s1.now b at_ n) hnb hlen k2 r2
    have e := x1.symm.trans (k2.cell0 u1)
    cases e
    refine ⟨x1, x2, _, _, x3, q3, _, c3, rfl, x5, x6, x7, wr64 (by omega) ⟨⟨k + 1, by omega, by omega, k7.then x8 (fun i hi hh => ?_), col8, gr7.trans x9 k7.size, ?_⟩, by omega⟩⟩
    · have hh : col7 i ≠ 0 := hh
      show col i ≠ 0
      rw [← gr7.1 i hi]
      exact hh
    · have : pushSt { s1 with now := overF s1.now b at_ n, wait := s.wait ++ waits (loF at_) k (overF s1.now b at_ n) } (loF at_ + k) (overF s1.now b at_ n) = { s1 with now := overF s1.now b at_ n, wait := s.wait ++ waits (loF at_) (k + 1) (overF s1.now b at_ n) } := by
        unfold pushSt
        simp only [waits_succ, List.append_assoc]
      rw [this] at x10
      exact x10
  have lit := fun (w2 : World) => lit_run (P := Tryz.prog) w2 Tryz.underlying30 info5e
  refine ⟨_, _, _, u1, ⟨_, _, lit w7.drew, _, _, _, rfl, (((Kp.refl none_ w7.drew).alloc _ _).keeps0), ?_⟩, ?_⟩
  · have ka : Kp none_ w7 (w7.drew.alloc (.cells #[] 5)) := (Kp.refl none_ w7).drew.alloc _ _
    have h2 := h7.kp0 ka
    refine ⟨cell_alloc _ u1, (c62 h2 (loF at_ + k) hki).mono ?_⟩
    rintro v wx ⟨⟨g', c', y1, y2, _, rfl⟩, e⟩
    obtain rfl := e.symm
    refine ⟨_, _, _, rfl, (Kp.refl none_ _).keeps0, ka.cell0 u1, secCopy h2 hki y1 fun g2 c2 w2 r2 k2 => ?_⟩
    obtain ⟨f1, f2, f3⟩ := fin w2 g2 c2 (ka.trans k2) (r2.mono fun i hi _ => Nat.le_trans ka.size hi)
    exact ⟨_, _, _, rfl, k2.keeps0, f1, f2, f3⟩
  · have h2 := h7.drew
    refine (c62 h2 (loF at_ + k) hki).mono ?_
    rintro v wx ⟨⟨g', c', y1, y2, _, rfl⟩, e⟩
    obtain rfl := e.symm
    have ka : Kp none_ w7.drew (w7.drew.alloc (.cells #[] 5)) := (Kp.refl none_ w7.drew).alloc _ _
    have h3 := h2.kp0 ka
    refine ⟨_, _, _, rfl, (Kp.refl none_ _).keeps0, u1, _, _, lit w7.drew, _, _, _, rfl, ka.keeps0, ka.cell0 u1, secCopy h3 hki (ka.cell0 y1) fun g2 c2 w2 r2 k2 => ?_⟩
    obtain ⟨f1, f2, f3⟩ := fin w2 g2 c2 (((Kp.refl none_ w7).drew.trans ka).trans k2) (r2.mono fun i hi _ => Nat.le_trans ka.size hi)
    exact ⟨_, _, _, rfl, k2.keeps0, f1, f2, f3⟩
end
end Go.Proofs.YtlgkcbdpaffigaaGreat

namespace Go.Proofs.YtlgkcbdpaffigaaGreat
open Go Go.SX Go.Proofs
set_option maxRecDepth 100000
set_option linter.unusedVariables false
set_option linter.unusedSimpArgs false
/-- A crash: what was safe comes back, sector by sector; then what is kept of what waits. -/
def crashA (s : St) (fill : Int) : Nat → St
  | 0 => s
  | k + 1 => setNow (crashA s fill k) k (if s.has k = true then secAt s.safe k else strangeF k fill)
def keepsA (s : St) (n : Nat) (kb : Nat → Bool) : Nat → St
  | 0 => s
  | k + 1 => match s.wait[k]? with
    | some e => if k < n ∧ kb k = true then setNow (keepsA s n kb k) e.1 (secAt e.2 e.1) else keepsA s n kb k
    | none => keepsA s n kb k
theorem crashA_same (s : St) (fill : Int) : ∀ k, (crashA s fill k).size = s.size ∧ (crashA s fill k).has = s.has ∧ (crashA s fill k).safe = s.safe ∧ (crashA s fill k).wait = s.wait
  | 0 => ⟨rfl, rfl, rfl, rfl⟩
  | k + 1 => crashA_same s fill k
theorem keepsA_same (s : St) (n : Nat) (kb : Nat → Bool) : ∀ k, (keepsA s n kb k).size = s.size ∧ (keepsA s n kb k).has = s.has ∧ (keepsA s n kb k).safe = s.safe ∧ (keepsA s n kb k).wait = s.wait
  | 0 => ⟨rfl, rfl, rfl, rfl⟩
  | k + 1 => by
    have h := keepsA_same s n kb k
    unfold keepsA
    split
    · split
      · exact h
      · exact h
    · exact h
def crashSt (s : St) (n : Nat) (kb : Nat → Bool) (fill : Int) : St := syncSt (keepsA (crashA s fill s.size) n kb s.wait.length)
/-- A row of bools. -/
def Bools (w : World) (q : Option Addr) (n : Nat) (kb : Nat → Bool) : Prop := ∀ i, i < n → ∃ a, q = some a ∧ w.cell? (a.add i) = some (.bool (kb i))
theorem Bools.kp {S : Nat → Prop} {w w' : World} {q : Option Addr} {n : Nat} {kb : Nat → Bool} (h : Bools w q n kb) (hk : Kp S w w') (hs : 0 < n → ∀ a, q = some a → ¬ S a.block) : Bools w' q n kb := fun i hi => by
  obtain ⟨a, e, hc⟩ := h i hi
  exact ⟨a, e, hk.cell hc (by rw [add_block]; exact hs (by omega) a e)⟩
section
variable {w w' : World} {col col' : Col} {D : Nat} {s : St} {S : Nat → Prop}
theorem secPut (h : Dsk w col D s) {i : Nat} (hi : i < s.size) {g c : Nat} (hD : w.cell? ⟨D, 0, none⟩ = some (.slice (some ⟨g, 0, none⟩) (512 * s.size) c)) {a : Addr} {c' : Nat} {f : Int → Int} (hs : Sec w col a f) (hf : ∀ j, isByte (f j)) {K : Value → World → Prop}
    (hK : ∀ w2, Kp (cl col 2) w w2 → Dsk w2 col D (setNow s i f) → K (.int .i64 512) w2) :
    Runs Tryz.prog (Builtin.copy_ #[30, 30] 3 #[.slice (some ⟨g, 512 * i, none⟩) 512 512, .slice (some a) 512 c']) w K := by
  have hrow := h.nowRow hD
  have hc : 512 * s.size ≤ c := (hrow.lens).2
  rw [← cutn (g := g) (c := c) (o := 512 * i) (by omega)]
  refine copy_own (own := cl col 2) (n := 512 * s.size) (cs := byF f 512) Tryz.underlying30 (by kernel_rfl) hrow (by rw [byF_len]; rfl) (by rw [byF_len]; omega) (by omega) (fun j v hj => ?_) (byF_one _ _) (fun w2 r2 k2 => ?_)
  · have hj' : j < 512 := by have := (List.getElem?_eq_some_iff.1 hj).1; rwa [byF_len] at this
    rw [byF_get _ hj'] at hj
    cases hj
    exact hs.2 j hj'
  · rw [byF_len, byF_over _ _ _ _ _ (by omega)] at r2
    have e : byF (fun p => if ((512 * i : Nat) : Int) ≤ p ∧ p < ((512 * i : Nat) : Int) + ((512 : Nat) : Int) then f (p - ((512 * i : Nat) : Int)) else s.now p) (512 * s.size) = byF (setNow s i f).now (512 * s.size) := by
      refine byF_congr fun j hj => ?_
      simp only [setNow]
      by_cases h1 : 512 * (i : Int) ≤ (j : Int) ∧ (j : Int) < 512 * i + 512
      · rw [if_pos h1, if_pos (by omega)]; congr 1
      · rw [if_neg h1, if_neg (by omega)]
    rw [e] at r2
    rw [byF_len]
    refine hK w2 k2 (h.nowSet hD k2 r2 fun p => ?_)
    show isByte (if _ then _ else _)
    split
    · exact hf _
    · exact h.ok.now p
theorem c19 (h : Dsk w col D s) {q : Option Addr} {n cp : Nat} {kb : Nat → Bool} (hb : Bools w q n kb) (hq : 0 < n → ∀ a, q = some a → col a.block = 0) (fill : Int) (hf : isByte fill) (hl : s.wait.length ≤ 100000) :
    Rets Tryz.prog 57 #[.pointer (some ⟨D, 0, none⟩), .slice q n cp, .int .u8 fill] w fun v w' => v = .tuple #[] ∧ Kp (ownC col) w w' ∧ ∃ col', Grow col col' w w' ∧ Dsk w' col' D (crashSt s n kb fill) := by
  refine ent [_, _, _] Tryz.func57 ((vcTryz57 _ _ _ _ _ w _).mpr ?_)
  unfold VCTryz57
  have hs := h.ok.size
  obtain ⟨q0, c0, xs0, t0, r0, m0⟩ := h.safe
  show cond false _ _
  simp only [cond_false, ptr_some, ad_add, Nat.zero_add, Nat.add_zero]
  have own2 : ∀ i, cl col 2 i → ownC col i := fun i hi => by have hi : col i = 2 := hi; show col i ≠ 0; omega
  refine ⟨_, _, _, t0, fun i w' => ∃ k : Nat, i = k ∧ k ≤ s.size ∧ Kp (cl col 2) w w' ∧ Dsk w' col D (crashA s fill k), fun i _ => (s.size - i).toNat, ⟨0, rfl, by omega, Kp.refl _ _, h⟩, ?_⟩
  rintro i w1 ⟨k, rfl, hk, k1, h1⟩
  obtain ⟨a1, a2, a3, a4⟩ := crashA_same s fill k
  have r1 := OwnRow.kpc (col' := col) r0 k1 (fun i _ hi => by have hi : col i = 2 := hi; omega) (fun _ _ => rfl)
  refine bif_dec (fun hlt => ?_) (fun hge => ?_)
  · have hki : k < s.size := by omega
    have hki1 : k < (crashA s fill k).size := by omega
    obtain ⟨g, eg, _⟩ := OwnRow.setAt r1 hki
    subst eg
    have hm := m0 k hki
    refine ⟨by omega, ?_⟩
    simp only [ptr_some, ad_add, Nat.zero_add, Nat.mul_one, Int.toNat_natCast]
    have next : crashA s fill (k + 1) = setNow (crashA s fill k) k (if s.has k = true then secAt s.safe k else strangeF k fill) := rfl
    cases hh : s.has k with
    | false =>
      obtain ⟨a, ea, ha⟩ := r1.at (hm.1 hh)
      cases ea
      rw [ad_add, Nat.zero_add] at ha
      refine ⟨_, _, _, ha, ?_⟩
      show cond true _ _
      simp only [cond_true]
      refine (c62 h1 k hki1).mono ?_
      rintro v wx ⟨⟨g', c', y1, y2, _, rfl⟩, e⟩
      obtain rfl := e.symm
      refine ⟨_, _, _, rfl, (Kp.refl none_ _).keeps0, (c64 h1 hki1 y1 fill hf).mono ?_⟩
      rintro v w2 ⟨rfl, k2, h2⟩
      rw [hh, if_neg (by decide)] at next
      exact ⟨rfl, k2.keeps0, wr64 (by omega) ⟨⟨k + 1, by omega, by omega, k1.trans k2, by rw [next]; exact h2⟩, by first | omega | (dsimp only; omega)⟩⟩
    | true =>
      obtain ⟨a, c', x1, x2, x3⟩ := hm.2 hh
      obtain ⟨a', ea, ha⟩ := r1.at x1
      cases ea
      rw [ad_add, Nat.zero_add] at ha
      refine ⟨_, _, _, ha, ?_⟩
      show cond false _ _
      simp only [cond_false]
      refine (c62 h1 k hki1).mono ?_
      rintro v wx ⟨⟨g', c'', y1, y2, _, rfl⟩, e⟩
      obtain rfl := e.symm
      have x4 := Sec.kpc (col' := col) x3 k1 (fun i _ hi => by have hi : col i = 2 := hi; omega) (fun _ _ => rfl)
      refine ⟨_, _, _, rfl, (Kp.refl none_ _).keeps0, secPut h1 hki1 y1 x4 (fun j => h.ok.safe _) fun w2 k2 h2 => ?_⟩
      rw [hh, if_pos rfl] at next
      exact ⟨_, rfl, k2.keeps0, wr64 (by omega) ⟨⟨k + 1, by omega, by omega, k1.trans k2, by rw [next]; exact h2⟩, by first | omega | (dsimp only; omega)⟩⟩
  -- what is kept
  have : k = s.size := by omega
  subst this
  generalize hsa : crashA s fill s.size = sa at *
  have hbase : sa.wait = s.wait ∧ sa.size = s.size := ⟨a4, a1⟩
  obtain ⟨q4, c4, ys, u1, u2, u3⟩ := h1.wait
  have hneq : 0 < n → ∀ a, q = some a → ¬ cl col 2 a.block := fun h0 a ha hh => by have := hq h0 a ha; unfold cl at hh; omega
  refine ⟨_, _, _, u1, fun i w' => ∃ k : Nat, i = k ∧ k ≤ s.wait.length ∧ Kp (cl col 2) w1 w' ∧ Dsk w' col D (keepsA sa n kb k), fun i _ => (s.wait.length - i).toNat, ⟨0, rfl, by omega, Kp.refl _ _, h1⟩, ?_⟩
  rintro i w2 ⟨k, rfl, hk2, k2, h2⟩
  obtain ⟨b1, b2, b3, b4⟩ := keepsA_same sa n kb k
  have kw : Kp (ownC col) w w2 := (k1.trans k2).mono fun i _ hi => own2 i hi
  refine bif_dec (fun hlt => ?_) (fun hge => ?_)
  rotate_left
  · have : k = s.wait.length := by rw [hbase.1] at hge; omega
    subst this
    refine (c16 h2).mono ?_
    rintro v w3 ⟨rfl, k3, col3, gr3, h3⟩
    refine ⟨rfl, k3.keeps0, _, rfl, rfl, kw.trans k3, col3, ⟨fun i hi => gr3.1 i (Nat.lt_of_lt_of_le hi kw.size), gr3.2⟩, ?_⟩
    unfold crashSt
    rw [hsa]
    exact h3
  rw [hbase.1] at hlt u1 u2
  have hkw : k < s.wait.length := by omega
  have u2' := OwnRow.kpc (col' := col) u2 k2 (fun i _ hi => by have hi : col i = 2 := hi; omega) (fun _ _ => rfl)
  obtain ⟨e, he⟩ : ∃ e, s.wait[k]? = some e := ⟨s.wait[k]'hkw, List.getElem?_eq_getElem _⟩
  obtain ⟨a, c', x0, x1, x2, x3⟩ := u3 k e (by rw [hbase.1]; exact he)
  obtain ⟨a1', ea, ha0⟩ := u2'.at x0
  obtain ⟨a2', ea2, ha1⟩ := u2'.at x1
  rw [ea] at ea2
  cases ea2
  subst ea
  have hmem := h.ok.wait e (List.mem_of_getElem? he)
  have next : keepsA sa n kb (k + 1) = if k < n ∧ kb k = true then setNow (keepsA sa n kb k) e.1 (secAt e.2 e.1) else keepsA sa n kb k := by
    show (match sa.wait[k]? with | some e => _ | none => _) = _
    rw [hbase.1, he]
  refine ⟨by rw [hbase.1]; omega, ?_⟩
  simp only [ptr_some, add_add, Int.toNat_natCast, Nat.add_zero]
  refine ⟨_, _, _, _, ⟨ha0, ha1, trivial⟩, ?_⟩
  have kT : Kp none_ w2 (((w2.alloc (.cells #[Value.int .i64 0, .slice none 0 0] 111)).setCell ⟨w2.heap.size, 0, none⟩ (.int .i64 e.1)).setCell ⟨w2.heap.size, 1, none⟩ (.slice (some a) 512 c')) :=
    Kp.setCell (Kp.setCell ((Kp.refl none_ w2).alloc1 _) _ (.inr (Nat.le_refl _))) _ (.inr (Nat.le_refl _))
  have cT : (((w2.alloc (.cells #[Value.int .i64 0, .slice none 0 0] 111)).setCell ⟨w2.heap.size, 0, none⟩ (.int .i64 e.1)).setCell ⟨w2.heap.size, 1, none⟩ (.slice (some a) 512 c')).cell? ⟨w2.heap.size, 1, none⟩ = some (.slice (some a) 512 c') := by
    refine cell_set_same _ (u := .slice none 0 0) ?_
    rw [cell_set_off _ (by omega)]
    exact cell_alloc_new rfl
  have sT : (((w2.alloc (.cells #[Value.int .i64 0, .slice none 0 0] 111)).setCell ⟨w2.heap.size, 0, none⟩ (.int .i64 e.1)).setCell ⟨w2.heap.size, 1, none⟩ (.slice (some a) 512 c')).heap.size = w2.heap.size + 1 := by simp [World.setCell, alloc_size]
  generalize (((w2.alloc (.cells #[Value.int .i64 0, .slice none 0 0] 111)).setCell ⟨w2.heap.size, 0, none⟩ (.int .i64 e.1)).setCell ⟨w2.heap.size, 1, none⟩ (.slice (some a) 512 c')) = WT at *
  have h3 := h2.kp0 kT
  have k2T : Kp (cl col 2) w1 WT := k2.trans (kT.mono fun _ _ h => h.elim)
  have hno : ∀ hh : ¬ (k < n ∧ kb k = true), (∃ k' : Nat, (k : Int) + 1 = k' ∧ k' ≤ s.wait.length ∧ Kp (cl col 2) w1 WT ∧ Dsk WT col D (keepsA sa n kb k')) ∧ (s.wait.length - ((k : Int) + 1)).toNat < (s.wait.length - (k : Int)).toNat := fun hh =>
    ⟨⟨k + 1, by omega, by omega, k2T, by rw [next, if_neg hh]; exact h3⟩, by omega⟩
  refine bif_dec (fun hn => ?_) (fun hn => wr64 (by omega) (hno (by omega)))
  have hbw : Bools WT q n kb := ((hb.kp k1 hneq).kp k2 hneq).kp kT fun _ _ _ => id
  obtain ⟨aq, rfl, hbc⟩ := hbw k (by omega)
  refine ⟨by omega, ?_⟩
  simp only [ptr_some, Nat.mul_one]
  refine ⟨_, hbc, bif_b (fun hkb _ => ?_) (fun hkb => wr64 (by omega) (hno (by rw [hkb]; simp)))⟩
  have hes : e.1 < (keepsA sa n kb k).size := by rw [b1, hbase.2]; exact hmem.1
  refine (c62 h3.drew e.1 hes).mono ?_
  rintro v wx ⟨⟨g', c'', y1, y2, _, rfl⟩, ew⟩
  obtain rfl := ew.symm
  have x4 : Sec WT.drew col a (secAt e.2 e.1) := Sec.kpc (col' := col) x3 k2T.drew (fun i _ hi => by have hi : col i = 2 := hi; omega) (fun _ _ => rfl)
  refine ⟨_, _, _, rfl, (Kp.refl none_ WT.drew).keeps (fun i hi => ⟨by simp at hi; show i < WT.heap.size; omega, id⟩), cT, secPut h3.drew hes y1 x4 (fun j => hmem.2 _) fun w5 k5 h5 => ?_⟩
  refine ⟨_, rfl, k5.keeps (fun i hi => ⟨by simp at hi; show i < WT.heap.size; omega, fun hh => ?_⟩), wr64 (by omega) ⟨⟨k + 1, by omega, by omega, k2T.drew.trans k5, by rw [next, if_pos ⟨by omega, hkb⟩]; exact h5⟩, by first | omega | (dsimp only; omega)⟩⟩
  simp at hi
  have hh : col i = 2 := hh
  have := h2.lt i (by omega)
  omega
end
end Go.Proofs.YtlgkcbdpaffigaaGreat

namespace Go.Proofs.YtlgkcbdpaffigaaGreat
open Go Go.SX Go.Proofs
set_option maxRecDepth 100000
set_option linter.unusedVariables false
def VCTryz49 (p0 : Option Addr) (p1 : Int) (p2 : Option Addr) (n2 c2 : Nat) (w : World) (R : Ending → World → Prop) : Prop :=
Rets Tryz.prog (47 : Nat) #[Value.int IntKind.i64 p1, Value.int IntKind.i64 (↑n2 : Int)] w fun (v0 : Value) (w1 : World) =>
 ∃ (t2 : Bool),
  v0 = Value.bool t2 ∧
   Keeps w w1 [] ∧
    bif !t2 then R (Ending.returned (Value.int IntKind.i64 (1 : Int))) w1
    else
     bif (↑n2 : Int) == (0 : Int) then R (Ending.returned (Value.int IntKind.i64 (0 : Int))) w1
     else
      Rets Tryz.prog (48 : Nat) #[Value.pointer p0, Value.int IntKind.i64 p1, Value.int IntKind.i64 (↑n2 : Int)] w1 fun (v3 : Value) (w4 : World) =>
       ∃ (i5 : Int),
        v3 = Value.int IntKind.i64 i5 ∧
         Keeps w1 w4 [] ∧
          ∃ (I6 : World → Prop),
           ∃ (I7 : World → Nat),
            I6 w4 ∧
             ∀ (w8 : World),
              I6 w8 →
               SX.Ptr p0 fun (a9 : Addr) =>
                ∃ (q10 : Option Addr),
                 ∃ (n11 : Nat),
                  ∃ (n12 : Nat),
                   w8.cell? (a9.add (0 : Nat)) = some (Value.slice q10 n11 n12) ∧
                    bif decide ((↑n11 : Int) < i5) then
                     SX.Ptr p0 fun (a13 : Addr) =>
                      ∃ (q14 : Option Addr),
                       ∃ (n15 : Nat),
                        ∃ (n16 : Nat),
                         w8.drew.cell? (a13.add (0 : Nat)) = some (Value.slice q14 n15 n16) ∧
                          Rets Tryz.prog (80 : Nat) #[] w8.drew fun (v17 : Value) (w18 : World) =>
                           ∃ (s19 : ByteArray),
                            v17 = Value.string s19 ∧
                             Keeps w8.drew w18 [] ∧
                              w18.cell? (a13.add (0 : Nat)) = some (Value.slice q14 n15 n16) ∧
                               (w18.alloc (Obj.cells #[Value.string s19] (9 : Nat))).cell? (a13.add (0 : Nat)) = some (Value.slice q14 n15 n16) ∧
                                Runs Tryz.prog
                                 (Builtin.append_ #[(67 : Nat), (67 : Nat)] (67 : Nat)
                                  #[Value.slice q14 n15 n16, Value.slice (some { block := w18.heap.size, off := (0 : Nat) }) (1 : Nat) (1 : Nat)])
                                 (w18.alloc (Obj.cells #[Value.string s19] (9 : Nat))) fun (v20 : Value) (w21 : World) =>
                                 ∃ (q22 : Option Addr),
                                  ∃ (n23 : Nat),
                                   ∃ (n24 : Nat),
                                    v20 = Value.slice q22 n23 n24 ∧
                                     Keeps (w18.alloc (Obj.cells #[Value.string s19] (9 : Nat))) w21 [] ∧
                                      SX.Ptr p0 fun (a25 : Addr) =>
                                       (∃ (v26 : Value), w21.cell? ((a25.add (0 : Nat)).add (0 : Nat)) = some v26) ∧
                                        w21.frozen? ((a25.add (0 : Nat)).add (0 : Nat)) = false ∧
                                         SX.Ptr p0 fun (a27 : Addr) =>
                                          ∃ (q28 : Option Addr),
                                           ∃ (n29 : Nat),
                                            ∃ (n30 : Nat),
                                             (w21.setCell ((a25.add (0 : Nat)).add (0 : Nat)) (Value.slice q22 n23 n24)).cell? (a27.add (1 : Nat)) =
                                               some (Value.slice q28 n29 n30) ∧
                                              Runs Tryz.prog
                                               (Builtin.append_ #[(67 : Nat), (67 : Nat)] (67 : Nat)
                                                #[Value.slice q28 n29 n30,
                                                 Value.slice
                                                  (some
                                                   {block := (w21.setCell ((a25.add (0 : Nat)).add (0 : Nat)) (Value.slice q22 n23 n24)).heap.size, off := (0 : Nat) })
                                                  (1 : Nat) (1 : Nat)])
                                               ((w21.setCell ((a25.add (0 : Nat)).add (0 : Nat)) (Value.slice q22 n23 n24)).alloc
                                                (Obj.cells #[Value.string { data := #[] }] (9 : Nat)))
                                               fun (v31 : Value) (w32 : World) =>
                                               ∃ (q33 : Option Addr),
                                                ∃ (n34 : Nat),
                                                 ∃ (n35 : Nat),
                                                  v31 = Value.slice q33 n34 n35 ∧
                                                   Keeps
                                                     ((w21.setCell ((a25.add (0 : Nat)).add (0 : Nat)) (Value.slice q22 n23 n24)).alloc
                                                      (Obj.cells #[Value.string { data := #[] }] (9 : Nat)))
                                                     w32 [] ∧
                                                    SX.Ptr p0 fun (a36 : Addr) =>
                                                     (∃ (v37 : Value), w32.cell? ((a36.add (1 : Nat)).add (0 : Nat)) = some v37) ∧
                                                      w32.frozen? ((a36.add (1 : Nat)).add (0 : Nat)) = false ∧
                                                       SX.Ptr p0 fun (a38 : Addr) =>
                                                        ∃ (q39 : Option Addr),
                                                         ∃ (n40 : Nat),
                                                          ∃ (n41 : Nat),
                                                           (w32.setCell ((a36.add (1 : Nat)).add (0 : Nat)) (Value.slice q33 n34 n35)).cell?
                                                              (a38.add (2 : Nat)) =
                                                             some (Value.slice q39 n40 n41) ∧
                                                            Runs Tryz.prog
                                                             (Builtin.append_ #[(31 : Nat), (31 : Nat)] (31 : Nat)
                                                              #[Value.slice q39 n40 n41,
                                                               Value.slice
                                                                (some
                                                                 {
                                                                  block :=
                                                                   (w32.setCell ((a36.add (1 : Nat)).add (0 : Nat)) (Value.slice q33 n34 n35)).heap.size,
                                                                  off := (0 : Nat) })
                                                                (1 : Nat) (1 : Nat)])
                                                             ((w32.setCell ((a36.add (1 : Nat)).add (0 : Nat)) (Value.slice q33 n34 n35)).alloc
                                                              (Obj.cells #[Value.bool false] (4 : Nat)))
                                                             fun (v42 : Value) (w43 : World) =>
                                                             ∃ (q44 : Option Addr),
                                                              ∃ (n45 : Nat),
                                                               ∃ (n46 : Nat),
                                                                v42 = Value.slice q44 n45 n46 ∧
                                                                 Keeps
                                                                   ((w32.setCell ((a36.add (1 : Nat)).add (0 : Nat)) (Value.slice q33 n34 n35)).alloc
                                                                    (Obj.cells #[Value.bool false] (4 : Nat)))
                                                                   w43 [] ∧
                                                                  SX.Ptr p0 fun (a47 : Addr) =>
                                                                   (∃ (v48 : Value), w43.cell? ((a47.add (2 : Nat)).add (0 : Nat)) = some v48) ∧
                                                                    w43.frozen? ((a47.add (2 : Nat)).add (0 : Nat)) = false ∧
                                                                     I6 (w43.setCell ((a47.add (2 : Nat)).add (0 : Nat)) (Value.slice q44 n45 n46)) ∧
                                                                      I7 (w43.setCell ((a47.add (2 : Nat)).add (0 : Nat)) (Value.slice q44 n45 n46)) <
                                                                       I7 w8
                    else
                     (512 : Int) ≠ (0 : Int) ∧
                      Wr IntKind.i64 (p1.tdiv (512 : Int)) fun (i49 : Int) =>
                       ∃ (I50 : Int → World → Prop),
                        ∃ (I51 : Int → World → Nat),
                         I50 i49 w8 ∧
                          ∀ (i52 : Int) (w53 : World),
                           I50 i52 w53 →
                            bif decide (i52 < i5) then
                             Wr IntKind.i64 ((512 : Int) * i52) fun (i54 : Int) =>
                              Wr IntKind.i64 (p1 + (↑n2 : Int)) fun (i55 : Int) =>
                               bif decide (i54 < i55) then
                                Wr IntKind.i64 ((512 : Int) * i52) fun (i56 : Int) =>
                                 Wr IntKind.i64 ((512 : Int) * i52) fun (i57 : Int) =>
                                  Wr IntKind.i64 (i57 + (512 : Int)) fun (i58 : Int) =>
                                   bif decide (i56 < p1) then
                                    Wr IntKind.i64 (p1 + (↑n2 : Int)) fun (i59 : Int) =>
                                     bif decide (i58 > i59) then
                                      Wr IntKind.i64 (p1 + (↑n2 : Int)) fun (i60 : Int) =>
                                       SX.Ptr p0 fun (a61 : Addr) =>
                                        ∃ (q62 : Option Addr),
                                         ∃ (n63 : Nat),
                                          ∃ (n64 : Nat),
                                           w53.cell? (a61.add (0 : Nat)) = some (Value.slice q62 n63 n64) ∧
                                            ((0 : Int) ≤ i52 ∧ i52 < (↑n63 : Int)) ∧
                                             SX.Ptr q62 fun (a65 : Addr) =>
                                              ∃ (s66 : ByteArray),
                                               w53.cell? (a65.add (i52.toNat * (1 : Nat))) = some (Value.string s66) ∧
                                                Wr IntKind.i64 ((512 : Int) * i52) fun (i67 : Int) =>
                                                 Wr IntKind.i64 (p1 - i67) fun (i68 : Int) =>
                                                  ((0 : Int) ≤ i68 ∧ i68 ≤ (↑s66.size : Int)) ∧
                                                   Wr IntKind.i64 (p1 - p1) fun (i69 : Int) =>
                                                    Wr IntKind.i64 (i60 - p1) fun (i70 : Int) =>
                                                     ((0 : Int) ≤ i70 ∧ i70 ≤ (↑c2 : Int)) ∧
                                                      ((0 : Int) ≤ i69 ∧ i69 ≤ (↑i70.toNat : Int)) ∧
                                                       ∃ (s71 : ByteArray),
                                                        s71.size = i70.toNat - i69.toNat ∧
                                                         BytesAt w53.drew (cutA p2 c2 i69.toNat (1 : Nat)) s71 ∧
                                                          (s66.extract (0 : Nat) i68.toNat).size + s71.size ≤ (9223372036854775807 : Nat) ∧
                                                           Wr IntKind.i64 ((512 : Int) * i52) fun (i72 : Int) =>
                                                            Wr IntKind.i64 (i60 - i72) fun (i73 : Int) =>
                                                             ((0 : Int) ≤ i73 ∧ i73 ≤ (↑s66.size : Int)) ∧
                                                              (s66.extract (0 : Nat) i68.toNat ++ s71).size + (s66.extract i73.toNat s66.size).size ≤
                                                                (9223372036854775807 : Nat) ∧
                                                               SX.Ptr p0 fun (a74 : Addr) =>
                                                                ∃ (q75 : Option Addr),
                                                                 ∃ (n76 : Nat),
                                                                  ∃ (n77 : Nat),
                                                                   w53.drew.cell? (a74.add (0 : Nat)) = some (Value.slice q75 n76 n77) ∧
                                                                    ((0 : Int) ≤ i52 ∧ i52 < (↑n76 : Int)) ∧
                                                                     SX.Ptr q75 fun (a78 : Addr) =>
                                                                      (∃ (v79 : Value),
                                                                        w53.drew.cell? ((a78.add (i52.toNat * (1 : Nat))).add (0 : Nat)) =
                                                                         some v79) ∧
                                                                       w53.drew.frozen? ((a78.add (i52.toNat * (1 : Nat))).add (0 : Nat)) = false ∧
                                                                        SX.Ptr p0 fun (a80 : Addr) =>
                                                                         ∃ (q81 : Option Addr),
                                                                          ∃ (n82 : Nat),
                                                                           ∃ (n83 : Nat),
                                                                            (w53.drew.setCell ((a78.add (i52.toNat * (1 : Nat))).add (0 : Nat))
                                                                                 (Value.string
                                                                                  (s66.extract (0 : Nat) i68.toNat ++ s71 ++
                                                                                   s66.extract i73.toNat s66.size))).cell?
                                                                               (a80.add (3 : Nat)) =
                                                                              some (Value.slice q81 n82 n83) ∧
                                                                             Runs Tryz.prog
                                                                              (Builtin.append_ #[(69 : Nat), (69 : Nat)] (69 : Nat)
                                                                               #[Value.slice q81 n82 n83,
                                                                                Value.slice
                                                                                 (some
                                                                                  {
                                                                                   block :=
                                                                                    (w53.drew.setCell
                                                                                       ((a78.add (i52.toNat * (1 : Nat))).add
                                                                                        (0 : Nat))
                                                                                       (Value.string
                                                                                        (s66.extract (0 : Nat) i68.toNat ++ s71 ++
                                                                                         s66.extract i73.toNat
                                                                                          s66.size))).heap.size,
                                                                                   off := (0 : Nat) })
                                                                                 (1 : Nat) (1 : Nat)])
                                                                              ((w53.drew.setCell
                                                                                 ((a78.add (i52.toNat * (1 : Nat))).add (0 : Nat))
                                                                                 (Value.string
                                                                                  (s66.extract (0 : Nat) i68.toNat ++ s71 ++
                                                                                   s66.extract i73.toNat s66.size))).alloc
                                                                               (Obj.cells
                                                                                #[Value.int IntKind.i64 i52,
                                                                                 Value.string
                                                                                  (s66.extract (0 : Nat) i68.toNat ++ s71 ++
                                                                                   s66.extract i73.toNat s66.size)] (118 : Nat)))
                                                                              fun (v84 : Value) (w85 : World) =>
                                                                              ∃ (q86 : Option Addr),
                                                                               ∃ (n87 : Nat),
                                                                                ∃ (n88 : Nat),
                                                                                 v84 = Value.slice q86 n87 n88 ∧
                                                                                  Keeps
                                                                                    ((w53.drew.setCell
                                                                                       ((a78.add (i52.toNat * (1 : Nat))).add
                                                                                        (0 : Nat))
                                                                                       (Value.string
                                                                                        (s66.extract (0 : Nat) i68.toNat ++ s71 ++
                                                                                         s66.extract i73.toNat s66.size))).alloc
                                                                                     (Obj.cells
                                                                                      #[Value.int IntKind.i64 i52,
                                                                                       Value.string
                                                                                        (s66.extract (0 : Nat) i68.toNat ++ s71 ++
                                                                                         s66.extract i73.toNat s66.size)] (118 : Nat)))
                                                                                    w85 [] ∧
                                                                                   SX.Ptr p0 fun (a89 : Addr) =>
                                                                                    (∃ (v90 : Value),
                                                                                      w85.cell? ((a89.add (3 : Nat)).add (0 : Nat)) =
                                                                                       some v90) ∧
                                                                                     w85.frozen? ((a89.add (3 : Nat)).add (0 : Nat)) =
                                                                                       false ∧
                                                                                      Wr IntKind.i64 (i52 + (1 : Int))
                                                                                       fun (i91 : Int) =>
                                                                                       I50 i91
                                                                                         (w85.setCell
                                                                                          ((a89.add (3 : Nat)).add (0 : Nat))
                                                                                          (Value.slice q86 n87 n88)) ∧
                                                                                        I51 i91
                                                                                          (w85.setCell
                                                                                           ((a89.add (3 : Nat)).add (0 : Nat))
                                                                                           (Value.slice q86 n87 n88)) <
                                                                                         I51 i52 w53
                                     else
                                      SX.Ptr p0 fun (a92 : Addr) =>
                                       ∃ (q93 : Option Addr),
                                        ∃ (n94 : Nat),
                                         ∃ (n95 : Nat),
                                          w53.cell? (a92.add (0 : Nat)) = some (Value.slice q93 n94 n95) ∧
                                           ((0 : Int) ≤ i52 ∧ i52 < (↑n94 : Int)) ∧
                                            SX.Ptr q93 fun (a96 : Addr) =>
                                             ∃ (s97 : ByteArray),
                                              w53.cell? (a96.add (i52.toNat * (1 : Nat))) = some (Value.string s97) ∧
                                               Wr IntKind.i64 ((512 : Int) * i52) fun (i98 : Int) =>
                                                Wr IntKind.i64 (p1 - i98) fun (i99 : Int) =>
                                                 ((0 : Int) ≤ i99 ∧ i99 ≤ (↑s97.size : Int)) ∧
                                                  Wr IntKind.i64 (p1 - p1) fun (i100 : Int) =>
                                                   Wr IntKind.i64 (i58 - p1) fun (i101 : Int) =>
                                                    ((0 : Int) ≤ i101 ∧ i101 ≤ (↑c2 : Int)) ∧
                                                     ((0 : Int) ≤ i100 ∧ i100 ≤ (↑i101.toNat : Int)) ∧
                                                      ∃ (s102 : ByteArray),
                                                       s102.size = i101.toNat - i100.toNat ∧
                                                        BytesAt w53.drew (cutA p2 c2 i100.toNat (1 : Nat)) s102 ∧
                                                         (s97.extract (0 : Nat) i99.toNat).size + s102.size ≤ (9223372036854775807 : Nat) ∧
                                                          Wr IntKind.i64 ((512 : Int) * i52) fun (i103 : Int) =>
                                                           Wr IntKind.i64 (i58 - i103) fun (i104 : Int) =>
                                                            ((0 : Int) ≤ i104 ∧ i104 ≤ (↑s97.size : Int)) ∧
                                                             (s97.extract (0 : Nat) i99.toNat ++ s102).size + (s97.extract i104.toNat s97.size).size ≤
                                                               (9223372036854775807 : Nat) ∧
                                                              SX.Ptr p0 fun (a105 : Addr) =>
                                                               ∃ (q106 : Option Addr),
                                                                ∃ (n107 : Nat),
                                                                 ∃ (n108 : Nat),
                                                                  w53.drew.cell? (a105.add (0 : Nat)) = some (Value.slice q106 n107 n108) ∧
                                                                   ((0 : Int) ≤ i52 ∧ i52 < (↑n107 : Int)) ∧
                                                                    SX.Ptr q106 fun (a109 : Addr) =>
                                                                     (∃ (v110 : Value),
                                                                       w53.drew.cell? ((a109.add (i52.toNat * (1 : Nat))).add (0 : Nat)) =
                                                                        some v110) ∧
                                                                      w53.drew.frozen? ((a109.add (i52.toNat * (1 : Nat))).add (0 : Nat)) = false ∧
                                                                       SX.Ptr p0 fun (a111 : Addr) =>
                                                                        ∃ (q112 : Option Addr),
                                                                         ∃ (n113 : Nat),
                                                                          ∃ (n114 : Nat),
                                                                           (w53.drew.setCell ((a109.add (i52.toNat * (1 : Nat))).add (0 : Nat))
                                                                                (Value.string
                                                                                 (s97.extract (0 : Nat) i99.toNat ++ s102 ++
                                                                                  s97.extract i104.toNat s97.size))).cell?
                                                                              (a111.add (3 : Nat)) =
                                                                             some (Value.slice q112 n113 n114) ∧
                                                                            Runs Tryz.prog
                                                                             (Builtin.append_ #[(69 : Nat), (69 : Nat)] (69 : Nat)
                                                                              #[Value.slice q112 n113 n114,
                                                                               Value.slice
                                                                                (some
                                                                                 {
                                                                                  block :=
                                                                                   (w53.drew.setCell
                                                                                      ((a109.add (i52.toNat * (1 : Nat))).add
                                                                                       (0 : Nat))
                                                                                      (Value.string
                                                                                       (s97.extract (0 : Nat) i99.toNat ++ s102 ++
                                                                                        s97.extract i104.toNat
                                                                                         s97.size))).heap.size,
                                                                                  off := (0 : Nat) })
                                                                                (1 : Nat) (1 : Nat)])
                                                                             ((w53.drew.setCell
                                                                                ((a109.add (i52.toNat * (1 : Nat))).add (0 : Nat))
                                                                                (Value.string
                                                                                 (s97.extract (0 : Nat) i99.toNat ++ s102 ++
                                                                                  s97.extract i104.toNat s97.size))).alloc
                                                                              (Obj.cells
                                                                               #[Value.int IntKind.i64 i52,
                                                                                Value.string
                                                                                 (s97.extract (0 : Nat) i99.toNat ++ s102 ++
                                                                                  s97.extract i104.toNat s97.size)] (118 : Nat)))
                                                                             fun (v115 : Value) (w116 : World) =>
                                                                             ∃ (q117 : Option Addr),
                                                                              ∃ (n118 : Nat),
                                                                               ∃ (n119 : Nat),
                                                                                v115 = Value.slice q117 n118 n119 ∧
                                                                                 Keeps
                                                                                   ((w53.drew.setCell
                                                                                      ((a109.add (i52.toNat * (1 : Nat))).add
                                                                                       (0 : Nat))
                                                                                      (Value.string
                                                                                       (s97.extract (0 : Nat) i99.toNat ++ s102 ++
                                                                                        s97.extract i104.toNat s97.size))).alloc
                                                                                    (Obj.cells
                                                                                     #[Value.int IntKind.i64 i52,
                                                                                      Value.string
                                                                                       (s97.extract (0 : Nat) i99.toNat ++ s102 ++
                                                                                        s97.extract i104.toNat s97.size)] (118 : Nat)))
                                                                                   w116 [] ∧
                                                                                  SX.Ptr p0 fun (a120 : Addr) =>
                                                                                   (∃ (v121 : Value),
                                                                                     w116.cell? ((a120.add (3 : Nat)).add (0 : Nat)) =
                                                                                      some v121) ∧
                                                                                    w116.frozen? ((a120.add (3 : Nat)).add (0 : Nat)) =
                                                                                      false ∧
                                                                                     Wr IntKind.i64 (i52 + (1 : Int))
                                                                                      fun (i122 : Int) =>
                                                                                      I50 i122
                                                                                        (w116.setCell
                                                                                         ((a120.add (3 : Nat)).add (0 : Nat))
                                                                                         (Value.slice q117 n118 n119)) ∧
                                                                                       I51 i122
                                                                                         (w116.setCell
                                                                                          ((a120.add (3 : Nat)).add (0 : Nat))
                                                                                          (Value.slice q117 n118 n119)) <
                                                                                        I51 i52 w53
                                   else
                                    Wr IntKind.i64 (p1 + (↑n2 : Int)) fun (i123 : Int) =>
                                     bif decide (i58 > i123) then
                                      Wr IntKind.i64 (p1 + (↑n2 : Int)) fun (i124 : Int) =>
                                       SX.Ptr p0 fun (a125 : Addr) =>
                                        ∃ (q126 : Option Addr),
                                         ∃ (n127 : Nat),
                                          ∃ (n128 : Nat),
                                           w53.cell? (a125.add (0 : Nat)) = some (Value.slice q126 n127 n128) ∧
                                            ((0 : Int) ≤ i52 ∧ i52 < (↑n127 : Int)) ∧
                                             SX.Ptr q126 fun (a129 : Addr) =>
                                              ∃ (s130 : ByteArray),
                                               w53.cell? (a129.add (i52.toNat * (1 : Nat))) = some (Value.string s130) ∧
                                                Wr IntKind.i64 ((512 : Int) * i52) fun (i131 : Int) =>
                                                 Wr IntKind.i64 (i56 - i131) fun (i132 : Int) =>
                                                  ((0 : Int) ≤ i132 ∧ i132 ≤ (↑s130.size : Int)) ∧
                                                   Wr IntKind.i64 (i56 - p1) fun (i133 : Int) =>
                                                    Wr IntKind.i64 (i124 - p1) fun (i134 : Int) =>
                                                     ((0 : Int) ≤ i134 ∧ i134 ≤ (↑c2 : Int)) ∧
                                                      ((0 : Int) ≤ i133 ∧ i133 ≤ (↑i134.toNat : Int)) ∧
                                                       ∃ (s135 : ByteArray),
                                                        s135.size = i134.toNat - i133.toNat ∧
                                                         BytesAt w53.drew (cutA p2 c2 i133.toNat (1 : Nat)) s135 ∧
                                                          (s130.extract (0 : Nat) i132.toNat).size + s135.size ≤ (9223372036854775807 : Nat) ∧
                                                           Wr IntKind.i64 ((512 : Int) * i52) fun (i136 : Int) =>
                                                            Wr IntKind.i64 (i124 - i136) fun (i137 : Int) =>
                                                             ((0 : Int) ≤ i137 ∧ i137 ≤ (↑s130.size : Int)) ∧
                                                              (s130.extract (0 : Nat) i132.toNat ++ s135).size + (s130.extract i137.toNat s130.size).size ≤
                                                                (9223372036854775807 : Nat) ∧
                                                               SX.Ptr p0 fun (a138 : Addr) =>
                                                                ∃ (q139 : Option Addr),
                                                                 ∃ (n140 : Nat),
                                                                  ∃ (n141 : Nat),
                                                                   w53.drew.cell? (a138.add (0 : Nat)) = some (Value.slice q139 n140 n141) ∧
                                                                    ((0 : Int) ≤ i52 ∧ i52 < (↑n140 : Int)) ∧
                                                                     SX.Ptr q139 fun (a142 : Addr) =>
                                                                      (∃ (v143 : Value),
                                                                        w53.drew.cell? ((a142.add (i52.toNat * (1 : Nat))).add (0 : Nat)) =
                                                                         some v143) ∧
                                                                       w53.drew.frozen? ((a142.add (i52.toNat * (1 : Nat))).add (0 : Nat)) = false ∧
                                                                        SX.Ptr p0 fun (a144 : Addr) =>
                                                                         ∃ (q145 : Option Addr),
                                                                          ∃ (n146 : Nat),
                                                                           ∃ (n147 : Nat),
                                                                            (w53.drew.setCell ((a142.add (i52.toNat * (1 : Nat))).add (0 : Nat))
                                                                                 (Value.string
                                                                                  (s130.extract (0 : Nat) i132.toNat ++ s135 ++
                                                                                   s130.extract i137.toNat s130.size))).cell?
                                                                               (a144.add (3 : Nat)) =
                                                                              some (Value.slice q145 n146 n147) ∧
                                                                             Runs Tryz.prog
                                                                              (Builtin.append_ #[(69 : Nat), (69 : Nat)] (69 : Nat)
                                                                               #[Value.slice q145 n146 n147,
                                                                                Value.slice
                                                                                 (some
                                                                                  {
                                                                                   block :=
                                                                                    (w53.drew.setCell
                                                                                       ((a142.add (i52.toNat * (1 : Nat))).add
                                                                                        (0 : Nat))
                                                                                       (Value.string
                                                                                        (s130.extract (0 : Nat) i132.toNat ++
                                                                                          s135 ++
                                                                                         s130.extract i137.toNat
                                                                                          s130.size))).heap.size,
                                                                                   off := (0 : Nat) })
                                                                                 (1 : Nat) (1 : Nat)])
                                                                              ((w53.drew.setCell
                                                                                 ((a142.add (i52.toNat * (1 : Nat))).add (0 : Nat))
                                                                                 (Value.string
                                                                                  (s130.extract (0 : Nat) i132.toNat ++ s135 ++
                                                                                   s130.extract i137.toNat s130.size))).alloc
                                                                               (Obj.cells
                                                                                #[Value.int IntKind.i64 i52,
                                                                                 Value.string
                                                                                  (s130.extract (0 : Nat) i132.toNat ++ s135 ++
                                                                                   s130.extract i137.toNat s130.size)] (118 : Nat)))
                                                                              fun (v148 : Value) (w149 : World) =>
                                                                              ∃ (q150 : Option Addr),
                                                                               ∃ (n151 : Nat),
                                                                                ∃ (n152 : Nat),
                                                                                 v148 = Value.slice q150 n151 n152 ∧
                                                                                  Keeps
                                                                                    ((w53.drew.setCell
                                                                                       ((a142.add (i52.toNat * (1 : Nat))).add
                                                                                        (0 : Nat))
                                                                                       (Value.string
                                                                                        (s130.extract (0 : Nat) i132.toNat ++
                                                                                          s135 ++
                                                                                         s130.extract i137.toNat s130.size))).alloc
                                                                                     (Obj.cells
                                                                                      #[Value.int IntKind.i64 i52,
                                                                                       Value.string
                                                                                        (s130.extract (0 : Nat) i132.toNat ++
                                                                                          s135 ++
                                                                                         s130.extract i137.toNat s130.size)] (118 : Nat)))
                                                                                    w149 [] ∧
                                                                                   SX.Ptr p0 fun (a153 : Addr) =>
                                                                                    (∃ (v154 : Value),
                                                                                      w149.cell?
                                                                                        ((a153.add (3 : Nat)).add (0 : Nat)) =
                                                                                       some v154) ∧
                                                                                     w149.frozen?
                                                                                        ((a153.add (3 : Nat)).add (0 : Nat)) =
                                                                                       false ∧
                                                                                      Wr IntKind.i64 (i52 + (1 : Int))
                                                                                       fun (i155 : Int) =>
                                                                                       I50 i155
                                                                                         (w149.setCell
                                                                                          ((a153.add (3 : Nat)).add (0 : Nat))
                                                                                          (Value.slice q150 n151 n152)) ∧
                                                                                        I51 i155
                                                                                          (w149.setCell
                                                                                           ((a153.add (3 : Nat)).add (0 : Nat))
                                                                                           (Value.slice q150 n151 n152)) <
                                                                                         I51 i52 w53
                                     else
                                      SX.Ptr p0 fun (a156 : Addr) =>
                                       ∃ (q157 : Option Addr),
                                        ∃ (n158 : Nat),
                                         ∃ (n159 : Nat),
                                          w53.cell? (a156.add (0 : Nat)) = some (Value.slice q157 n158 n159) ∧
                                           ((0 : Int) ≤ i52 ∧ i52 < (↑n158 : Int)) ∧
                                            SX.Ptr q157 fun (a160 : Addr) =>
                                             ∃ (s161 : ByteArray),
                                              w53.cell? (a160.add (i52.toNat * (1 : Nat))) = some (Value.string s161) ∧
                                               Wr IntKind.i64 ((512 : Int) * i52) fun (i162 : Int) =>
                                                Wr IntKind.i64 (i56 - i162) fun (i163 : Int) =>
                                                 ((0 : Int) ≤ i163 ∧ i163 ≤ (↑s161.size : Int)) ∧
                                                  Wr IntKind.i64 (i56 - p1) fun (i164 : Int) =>
                                                   Wr IntKind.i64 (i58 - p1) fun (i165 : Int) =>
                                                    ((0 : Int) ≤ i165 ∧ i165 ≤ (↑c2 : Int)) ∧
                                                     ((0 : Int) ≤ i164 ∧ i164 ≤ (↑i165.toNat : Int)) ∧
                                                      ∃ (s166 : ByteArray),
                                                       s166.size = i165.toNat - i164.toNat ∧
                                                        BytesAt w53.drew (cutA p2 c2 i164.toNat (1 : Nat)) s166 ∧
                                                         (s161.extract (0 : Nat) i163.toNat).size + s166.size ≤ (9223372036854775807 : Nat) ∧
                                                          Wr IntKind.i64 ((512 : Int) * i52) fun (i167 : Int) =>
                                                           Wr IntKind.i64 (i58 - i167) fun (i168 : Int) =>
                                                            ((0 : Int) ≤ i168 ∧ i168 ≤ (↑s161.size : Int)) ∧
                                                             (s161.extract (0 : Nat) i163.toNat ++ s166).size + (s161.extract i168.toNat s161.size).size ≤
                                                               (9223372036854775807 : Nat) ∧
                                                              SX.Ptr p0 fun (a169 : Addr) =>
                                                               ∃ (q170 : Option Addr),
                                                                ∃ (n171 : Nat),
                                                                 ∃ (n172 : Nat),
                                                                  w53.drew.cell? (a169.add (0 : Nat)) = some (Value.slice q170 n171 n172) ∧
                                                                   ((0 : Int) ≤ i52 ∧ i52 < (↑n171 : Int)) ∧
                                                                    SX.Ptr q170 fun (a173 : Addr) =>
                                                                     (∃ (v174 : Value),
                                                                       w53.drew.cell? ((a173.add (i52.toNat * (1 : Nat))).add (0 : Nat)) =
                                                                        some v174) ∧
                                                                      w53.drew.frozen? ((a173.add (i52.toNat * (1 : Nat))).add (0 : Nat)) = false ∧
                                                                       SX.Ptr p0 fun (a175 : Addr) =>
                                                                        ∃ (q176 : Option Addr),
                                                                         ∃ (n177 : Nat),
                                                                          ∃ (n178 : Nat),
                                                                           (w53.drew.setCell ((a173.add (i52.toNat * (1 : Nat))).add (0 : Nat))
                                                                                (Value.string
                                                                                 (s161.extract (0 : Nat) i163.toNat ++ s166 ++
                                                                                  s161.extract i168.toNat s161.size))).cell?
                                                                              (a175.add (3 : Nat)) =
                                                                             some (Value.slice q176 n177 n178) ∧
                                                                            Runs Tryz.prog
                                                                             (Builtin.append_ #[(69 : Nat), (69 : Nat)] (69 : Nat)
                                                                              #[Value.slice q176 n177 n178,
                                                                               Value.slice
                                                                                (some
                                                                                 {
                                                                                  block :=
                                                                                   (w53.drew.setCell
                                                                                      ((a173.add (i52.toNat * (1 : Nat))).add
                                                                                       (0 : Nat))
                                                                                      (Value.string
                                                                                       (s161.extract (0 : Nat) i163.toNat ++ s166 ++
                                                                                        s161.extract i168.toNat
                                                                                         s161.size))).heap.size,
                                                                                  off := (0 : Nat) })
                                                                                (1 : Nat) (1 : Nat)])
                                                                             ((w53.drew.setCell
                                                                                ((a173.add (i52.toNat * (1 : Nat))).add (0 : Nat))
                                                                                (Value.string
                                                                                 (s161.extract (0 : Nat) i163.toNat ++ s166 ++
                                                                                  s161.extract i168.toNat s161.size))).alloc
                                                                              (Obj.cells
                                                                               #[Value.int IntKind.i64 i52,
                                                                                Value.string
                                                                                 (s161.extract (0 : Nat) i163.toNat ++ s166 ++
                                                                                  s161.extract i168.toNat s161.size)] (118 : Nat)))
                                                                             fun (v179 : Value) (w180 : World) =>
                                                                             ∃ (q181 : Option Addr),
                                                                              ∃ (n182 : Nat),
                                                                               ∃ (n183 : Nat),
                                                                                v179 = Value.slice q181 n182 n183 ∧
                                                                                 Keeps
                                                                                   ((w53.drew.setCell
                                                                                      ((a173.add (i52.toNat * (1 : Nat))).add
                                                                                       (0 : Nat))
                                                                                      (Value.string
                                                                                       (s161.extract (0 : Nat) i163.toNat ++ s166 ++
                                                                                        s161.extract i168.toNat s161.size))).alloc
                                                                                    (Obj.cells
                                                                                     #[Value.int IntKind.i64 i52,
                                                                                      Value.string
                                                                                       (s161.extract (0 : Nat) i163.toNat ++ s166 ++
                                                                                        s161.extract i168.toNat s161.size)] (118 : Nat)))
                                                                                   w180 [] ∧
                                                                                  SX.Ptr p0 fun (a184 : Addr) =>
                                                                                   (∃ (v185 : Value),
                                                                                     w180.cell? ((a184.add (3 : Nat)).add (0 : Nat)) =
                                                                                      some v185) ∧
                                                                                    w180.frozen? ((a184.add (3 : Nat)).add (0 : Nat)) =
                                                                                      false ∧
                                                                                     Wr IntKind.i64 (i52 + (1 : Int))
                                                                                      fun (i186 : Int) =>
                                                                                      I50 i186
                                                                                        (w180.setCell
                                                                                         ((a184.add (3 : Nat)).add (0 : Nat))
                                                                                         (Value.slice q181 n182 n183)) ∧
                                                                                       I51 i186
                                                                                         (w180.setCell
                                                                                          ((a184.add (3 : Nat)).add (0 : Nat))
                                                                                          (Value.slice q181 n182 n183)) <
                                                                                        I51 i52 w53
                               else R (Ending.returned (Value.int IntKind.i64 (0 : Int))) w53
                            else R (Ending.returned (Value.int IntKind.i64 (0 : Int))) w53
theorem vcTryz49 (p0 : Option Addr) (p1 : Int) (p2 : Option Addr) (n2 c2 : Nat) (w : World) (R : Ending → World → Prop) : SX.vcFn Tryz.prog [(11, ⟨[(8, .int .i64)], [0, 1, 2, 7], []⟩), (6, ⟨[], [0, 1, 2, 7], []⟩)] Tryz.f49 [.v (.pointer p0), .v (.int .i64 p1), .v (.slice p2 n2 c2)] [] w R = VCTryz49 p0 p1 p2 n2 c2 w R := by kernel_rfl
end Go.Proofs.YtlgkcbdpaffigaaGreat

namespace Go.Proofs.YtlgkcbdpaffigaaGreat
open Go Go.SX Go.Proofs
set_option maxRecDepth 100000
set_option linter.unusedVariables false
set_option linter.unusedSimpArgs false
/-! ### The document's disk -/
def strL (f : Int → Int) (n : Nat) : List Value := (List.range n).map fun i : Nat => .string (SX.strOf f (512 * i) 512)
def boolL (h : Nat → Bool) (n : Nat) : List Value := (List.range n).map fun i : Nat => .bool (h i)
def waitC (e : Nat × (Int → Int)) : List Value := [.int .i64 e.1, .string (SX.strOf e.2 (512 * e.1) 512)]
def waitL (l : List (Nat × (Int → Int))) : List Value := l.flatMap waitC
theorem strL_get (f : Int → Int) {n i : Nat} (h : i < n) : (strL f n)[i]? = some (.string (SX.strOf f (512 * i) 512)) := by simp [strL, h]
theorem boolL_get (f : Nat → Bool) {n i : Nat} (h : i < n) : (boolL f n)[i]? = some (.bool (f i)) := by simp [boolL, h]
theorem strOf_eq {f g : Int → Int} {a c : Int} {k : Nat} (h : ∀ i : Nat, i < k → f (a + i) = g (c + i)) : SX.strOf f a k = SX.strOf g c k := by
  unfold SX.strOf
  congr 2
  apply List.map_congr_left
  intro i hi
  rw [h i (List.mem_range.1 hi)]
theorem strL_set (f g : Int → Int) (n k : Nat) : (strL f n).set k (.string (SX.strOf g 0 512)) = strL (fun p => if 512 * (k : Int) ≤ p ∧ p < 512 * k + 512 then g (p - 512 * k) else f p) n := by
  apply List.ext_getElem
  · simp [strL]
  · intro i h1 h2
    rw [List.getElem_set]
    simp only [strL, List.getElem_map, List.getElem_range]
    by_cases e : k = i
    · subst e
      rw [if_pos rfl]
      congr 1
      refine strOf_eq fun j hj => ?_
      rw [if_pos (by omega)]
      congr 1; omega
    · rw [if_neg e]
      congr 1
      refine strOf_eq fun j hj => ?_
      rw [if_neg (by omega)]
theorem boolL_set (f : Nat → Bool) (n k : Nat) (t : Bool) : (boolL f n).set k (.bool t) = boolL (fun j => if j = k then t else f j) n := by
  apply List.ext_getElem
  · simp [boolL]
  · intro i h1 h2
    rw [List.getElem_set]
    simp only [boolL, List.getElem_map, List.getElem_range]
    by_cases e : k = i
    · rw [if_pos e, if_pos e.symm]
    · rw [if_neg e, if_neg (fun h => e h.symm)]
/-- A row that a struct's cell points at. -/
def Row0 (w : World) (col : Col) (D o k : Nat) (e : TypeId) (size n : Nat) (xs : List Value) : Prop := ∃ q c, w.cell? ⟨D, o, none⟩ = some (.slice q n c) ∧ OwnRow w (cl col k) e size (.slice q n c) n xs
structure RDsk (w : World) (col : Col) (D : Nat) (s : St) : Prop where
  colD : col D = 1
  lt : ∀ i, col i ≠ 0 → i < w.heap.size
  frz : ∀ o, w.frozen? ⟨D, o, none⟩ = false
  now : Row0 w col D 0 2 9 1 s.size (strL s.now s.size)
  safe : ∃ xs, Row0 w col D 1 3 9 1 s.size xs ∧ ∀ i, i < s.size → (∃ t, xs[i]? = some (.string t)) ∧ (s.has i = true → xs[i]? = some (.string (SX.strOf s.safe (512 * i) 512)))
  has : Row0 w col D 2 4 4 1 s.size (boolL s.has s.size)
  wait : Row0 w col D 3 5 118 2 s.wait.length (waitL s.wait)
  ok : s.Ok
section
variable {w w' : World} {col col' : Col} {D : Nat} {s : St} {S : Nat → Prop}
theorem Row0.kpc {o k : Nat} {e : TypeId} {size n : Nat} {xs : List Value} (h : Row0 w col D o k e size n xs) (hk : Kp S w w') (hs : ∀ i, i < w.heap.size → S i → col i ≠ k) (hc : ∀ i, i < w.heap.size → col' i = col i) (hd : ∀ v, w.cell? ⟨D, o, none⟩ = some v → w'.cell? ⟨D, o, none⟩ = some v) : Row0 w' col' D o k e size n xs := by
  obtain ⟨q, c, h1, h2⟩ := h
  exact ⟨q, c, hd _ h1, OwnRow.kpc h2 hk hs hc⟩
theorem Row0.setAt {o k : Nat} {e : TypeId} {n : Nat} {xs : List Value} (h : Row0 w col D o k e 1 n xs) (hD : col D ≠ k) {i : Nat} (hi : i < n) :
    ∃ g c, w.cell? ⟨D, o, none⟩ = some (.slice (some ⟨g, 0, none⟩) n c) ∧ col g = k ∧ (∃ u, w.cell? ⟨g, i, none⟩ = some u) ∧ w.frozen? ⟨g, i, none⟩ = false ∧
      ∀ v, Row0 (w.setCell ⟨g, i, none⟩ v) col D o k e 1 n (xs.set i v) ∧ Kp (cl col k) w (w.setCell ⟨g, i, none⟩ v) := by
  obtain ⟨q, c, h1, h2⟩ := h
  obtain ⟨g, rfl, hg, hu, hf, hset⟩ := OwnRow.setAt h2 hi
  have hg' : col g = k := hg
  refine ⟨g, c, h1, hg', hu, hf, fun v => ⟨⟨_, c, ?_, (hset v).1⟩, (hset v).2⟩⟩
  exact (hset v).2.cell h1 (fun hh => hD hh)
theorem Row0.at {o k : Nat} {e : TypeId} {size n : Nat} {xs : List Value} (h : Row0 w col D o k e size n xs) : ∃ q c, w.cell? ⟨D, o, none⟩ = some (.slice q n c) ∧ ∀ j u, xs[j]? = some u → ∃ a, q = some a ∧ w.cell? (a.add j) = some u := by
  obtain ⟨q, c, h1, h2⟩ := h
  exact ⟨q, c, h1, fun j u hj => h2.at hj⟩
theorem RDsk.dlt (h : RDsk w col D s) : D < w.heap.size := h.lt D (by rw [h.colD]; omega)
theorem RDsk.kp (h : RDsk w col D s) (hk : Kp S w w') (hs : ∀ i, S i → col i = 0) : RDsk w' col D s := by
  have hd := h.dlt
  have nD : ¬ S D := fun hh => by have := hs D hh; rw [h.colD] at this; omega
  have ne : ∀ (k : Nat), k ≠ 0 → ∀ i, i < w.heap.size → S i → col i ≠ k := fun k hk i _ hh => by rw [hs i hh]; omega
  have hc : ∀ o v, w.cell? ⟨D, o, none⟩ = some v → w'.cell? ⟨D, o, none⟩ = some v := fun o v hv => hk.cell hv nD
  obtain ⟨xs, x1, x2⟩ := h.safe
  exact ⟨h.colD, fun i hi => Nat.lt_of_lt_of_le (h.lt i hi) hk.size, fun o => (hk.frz ⟨D, o, none⟩ hd).trans (h.frz o), h.now.kpc hk (ne 2 (by omega)) (fun _ _ => rfl) (hc 0), ⟨xs, x1.kpc hk (ne 3 (by omega)) (fun _ _ => rfl) (hc 1), x2⟩, h.has.kpc hk (ne 4 (by omega)) (fun _ _ => rfl) (hc 2), h.wait.kpc hk (ne 5 (by omega)) (fun _ _ => rfl) (hc 3), h.ok⟩
theorem RDsk.kp0 (h : RDsk w col D s) (hk : Kp none_ w w') : RDsk w' col D s := h.kp hk fun _ h => h.elim
theorem RDsk.drew (h : RDsk w col D s) : RDsk w.drew col D s := h.kp0 (Kp.refl none_ w).drew
/-- Only strings of 'Now' were changed. -/
theorem RDsk.nowSet (h : RDsk w col D s) {now' : Int → Int} (hk : Kp (cl col 2) w w') (hr : Row0 w' col D 0 2 9 1 s.size (strL now' s.size)) (hb : ∀ p, isByte (now' p)) : RDsk w' col D { s with now := now' } := by
  have hd := h.dlt
  have nD : ¬ cl col 2 D := fun hh => by have := h.colD; unfold cl at hh; omega
  have ne : ∀ (k : Nat), k ≠ 2 → ∀ i, i < w.heap.size → cl col 2 i → col i ≠ k := fun k hk i _ hh => by unfold cl at hh; omega
  have hc : ∀ o v, w.cell? ⟨D, o, none⟩ = some v → w'.cell? ⟨D, o, none⟩ = some v := fun o v hv => hk.cell hv nD
  obtain ⟨xs, x1, x2⟩ := h.safe
  exact ⟨h.colD, fun i hi => Nat.lt_of_lt_of_le (h.lt i hi) hk.size, fun o => (hk.frz ⟨D, o, none⟩ hd).trans (h.frz o), hr, ⟨xs, x1.kpc hk (ne 3 (by omega)) (fun _ _ => rfl) (hc 1), x2⟩, h.has.kpc hk (ne 4 (by omega)) (fun _ _ => rfl) (hc 2), h.wait.kpc hk (ne 5 (by omega)) (fun _ _ => rfl) (hc 3), ⟨h.ok.size, hb, h.ok.safe, h.ok.wait⟩⟩
theorem c96 (h : RDsk w col D s) (at_ n : Int) (hr : rightF at_ n = true) : Rets Tryz.prog 48 #[.pointer (some ⟨D, 0, none⟩), .int .i64 at_, .int .i64 n] w fun v w' => v = .int .i64 (needF s at_ n) ∧ w' = w := by
  refine ent [_, _, _] Tryz.func48 ((vcTryz48 _ _ _ w _).mpr ?_)
  unfold VCTryz48
  have hs := h.ok.size
  unfold rightF at hr
  have hr' := of_decide_eq_true hr
  obtain ⟨q, c, h1, _⟩ := h.now
  have e : (at_ + n + 511).tdiv 512 = (at_ + n + 511) / 512 := by rw [Int.tdiv_eq_ediv_of_nonneg (by omega)]
  simp only [ptr_some, ad_add, Nat.zero_add]
  refine ⟨_, _, _, h1, bif_dec (fun hp => wr64 (by omega) (wr64 (by omega) ⟨by omega, ?_⟩)) (fun hp => ⟨_, rfl, ?_, trivial⟩)⟩
  · rw [e]
    refine wr64 (by omega) (bif_dec (fun hx => wr64 (by omega) (wr64 (by omega) ⟨by omega, wr64 (by omega) ⟨_, rfl, ?_, trivial⟩⟩)) (fun hx => ⟨_, rfl, ?_, trivial⟩))
    · unfold needF; rw [if_neg (by omega)]; congr 1; omega
    · unfold needF; rw [if_neg (by omega)]; congr 1; omega
  · unfold needF; rw [if_pos (by omega)]
theorem row_bytes {own : Nat → Prop} {f : Int → Int} {q : Option Addr} {n m c : Nat} (h : OwnRow w own 5 1 (.slice q m c) n (byF f n)) (hf : ∀ p, isByte (f p)) : BytesAt w q (SX.strOf f 0 n) := by
  intro i hi
  have hik : i < n := by rw [strOf_size] at hi; exact hi
  obtain ⟨a, e, hc⟩ := h.at (j := i) (u := .int .u8 (f i)) (byF_get _ hik)
  refine ⟨a, e, ?_⟩
  rw [hc, strOf_get]
  have hx := hf i
  unfold isByte at hx
  congr 2
  rw [UInt8.toNat_ofNat']
  simp only [Int.zero_add]
  omega
theorem c97 (w : World) : Rets Tryz.prog 80 #[] w fun v w' => v = .string (SX.strOf (fun _ => 0) 0 512) ∧ Kp none_ w w' := by
  refine ent [] Tryz.func80 ((vcTryz80 w _).mpr ?_)
  unfold VCTryz80
  obtain ⟨i5, i51, i52, i53, i54⟩ := info5
  refine make_own (n := 512) Tryz.underlying30 ⟨i5, .int .u8 0, i51, i52, i53, rfl, by omega, fun w2 r2 k2 => ?_⟩ (by omega)
  have zrow : List.replicate 512 (Value.int .u8 0) = byF (fun _ => 0) 512 := by
    apply List.ext_getElem
    · rw [byF_len, List.length_replicate]
    · intro i h1 h2; simp only [byF, List.getElem_map, List.getElem_range, List.getElem_replicate]
  rw [zrow] at r2
  exact ⟨_, _, _, rfl, k2.keeps0, _, strOf_size _ _ _, row_bytes r2 (fun _ => by unfold isByte; omega), _, rfl, rfl, k2⟩
theorem strange_byte (i : Nat) (fill p : Int) : isByte (strangeF i fill p) := ⟨Int.emod_nonneg _ (by decide), Int.emod_lt_of_pos _ (by decide)⟩
theorem c98 (w : World) (i : Nat) (hi : i ≤ 4096) (fill : Int) (hf : isByte fill) : Rets Tryz.prog 86 #[.int .i64 i, .int .u8 fill] w fun v w' => v = .string (SX.strOf (strangeF i fill) 0 512) ∧ Kp none_ w w' := by
  refine ent [_, _] Tryz.func86 ((vcTryz86 _ _ w _).mpr ?_)
  unfold VCTryz86
  obtain ⟨i5, i51, i52, i53, i54⟩ := info5
  refine make_own (n := 512) Tryz.underlying30 ⟨i5, .int .u8 0, i51, i52, i53, rfl, by omega, fun w2 r2 k2 => ?_⟩ (by omega)
  have zrow : List.replicate 512 (Value.int .u8 0) = byF (fun p => if p < 0 then strangeF i fill p else 0) 512 := by
    apply List.ext_getElem
    · rw [byF_len, List.length_replicate]
    · intro j h1 h2
      simp only [byF, List.getElem_map, List.getElem_range, List.getElem_replicate]
      rw [if_neg (by omega)]
  rw [zrow] at r2
  unfold isByte at hf
  refine ⟨_, _, _, rfl, k2.keeps0, fun j w' => (0 ≤ j ∧ j ≤ 512) ∧ Kp none_ w w' ∧ OwnRow w' (fresh w) 5 1 (.slice (some ⟨w.heap.size, 0, none⟩) 512 512) 512 (byF (fun p => if p < j then strangeF i fill p else 0) 512), fun j _ => (512 - j).toNat, ⟨by omega, k2, r2⟩, ?_⟩
  rintro j w3 ⟨hj, k3, r3⟩
  refine bif_dec (fun hlt => ?_) (fun hge => ?_)
  rotate_left
  · have : j = 512 := by omega
    subst this
    rw [byF_congr (g := strangeF i fill) (fun k hk => if_pos (by omega))] at r3
    exact ⟨_, strOf_size _ _ _, row_bytes r3 (strange_byte i fill), _, rfl, rfl, k3⟩
  obtain ⟨J, rfl⟩ := Int.eq_ofNat_of_zero_le hj.1
  obtain ⟨g, e, hog, hu, hfz, hset⟩ := OwnRow.setAt r3 (i := J) (by omega)
  cases e
  have ew : (fill + 7 * (i : Int) + (J : Int)).tmod 256 = (fill + 7 * (i : Int) + (J : Int)) % 256 := Int.tmod_eq_emod_of_nonneg (by omega)
  refine wr64 (by omega) (wr64 (by omega) (wr64 (by omega) (wr64 (by omega) ⟨by omega, ?_⟩)))
  rw [ew]
  refine wr8 (by omega) ⟨by omega, ?_⟩
  simp only [ptr_some, ad_add, Nat.mul_one, Nat.zero_add, Nat.add_zero, Int.toNat_natCast]
  obtain ⟨r4, k4⟩ := hset (.int .u8 ((fill + 7 * (i : Int) + (J : Int)) % 256))
  refine ⟨hu, hfz, wr64 (by omega) ⟨⟨by omega, k3.then k4 (fun i hi hh => by unfold fresh at hh; omega), ?_⟩, by first | omega | (dsimp only; omega)⟩⟩
  rw [byF_set] at r4
  rw [byF_congr (g := fun p => if p = (J : Int) then (fill + 7 * (i : Int) + (J : Int)) % 256 else if p < (J : Int) then strangeF i fill p else 0)]
  · exact r4
  · intro k hk
    by_cases e : (k : Int) = (J : Int)
    · rw [if_pos e, if_pos (by omega), e]; rfl
    · rw [if_neg e]
      by_cases e2 : (k : Int) < (J : Int)
      · rw [if_pos e2, if_pos (by omega)]
      · rw [if_neg e2, if_neg (by omega)]
end
end Go.Proofs.YtlgkcbdpaffigaaGreat

namespace Go.Proofs.YtlgkcbdpaffigaaGreat
open Go Go.SX Go.Proofs
set_option maxRecDepth 100000
set_option linter.unusedVariables false
set_option linter.unusedSimpArgs false
section
variable {w w' : World} {col col' : Col} {D : Nat} {s : St} {S : Nat → Prop}
theorem Row0.get {o k : Nat} {e : TypeId} {size n : Nat} {xs : List Value} (h : Row0 w col D o k e size n xs) (hn : 0 < n) : ∃ g c, w.cell? ⟨D, o, none⟩ = some (.slice (some ⟨g, 0, none⟩) n c) ∧ col g = k ∧ ∀ j u, xs[j]? = some u → w.cell? ⟨g, j, none⟩ = some u := by
  obtain ⟨q, c, h1, h2⟩ := h
  obtain ⟨g, cur, rfl, _, hg, _, _, _⟩ := h2.parts hn
  refine ⟨g, c, h1, hg, fun j u hj => ?_⟩
  obtain ⟨a, e, ha⟩ := h2.at hj
  cases e
  rwa [ad_add, Nat.zero_add] at ha
theorem Row0.len {o k : Nat} {e : TypeId} {size n : Nat} {xs : List Value} (h : Row0 w col D o k e size n xs) : ∃ q c, w.cell? ⟨D, o, none⟩ = some (.slice q n c) := by
  obtain ⟨q, c, h1, h2⟩ := h
  exact ⟨q, c, h1⟩
theorem Row0.xlen {o k : Nat} {e : TypeId} {size n : Nat} {xs : List Value} (h : Row0 w col D o k e size n xs) : xs.length = n * size := by
  obtain ⟨q, c, h1, h2⟩ := h
  exact h2.1
theorem setNow_byte {s : St} (h : s.Ok) {f : Int → Int} (hf : ∀ p, isByte (f p)) (i : Nat) : ∀ p, isByte ((setNow s i f).now p) := fun p => by
  show isByte (if _ then _ else _)
  split
  · exact hf _
  · exact h.now p
theorem setSafe_ok {s : St} (h : s.Ok) {f : Int → Int} (hf : ∀ p, isByte (f p)) (i : Nat) : (setSafe s i f).Ok := ⟨h.size, h.now, fun p => by
  show isByte (if _ then _ else _)
  split
  · exact hf _
  · exact h.safe p, h.wait⟩
theorem secAt_str (f : Int → Int) (i : Nat) : SX.strOf (secAt f i) 0 512 = SX.strOf f (512 * i) 512 := strOf_eq fun j _ => by
  unfold secAt
  congr 1
  omega
/-- 'Safe' and 'Has' of one sector are set. -/
theorem RDsk.setSafe (h : RDsk w col D s) {i : Nat} (hi : i < s.size) {f : Int → Int} (hf : ∀ j, isByte (f j)) :
    ∃ g c g' c', w.cell? ⟨D, 1, none⟩ = some (.slice (some ⟨g, 0, none⟩) s.size c) ∧ (∃ u, w.cell? ⟨g, i, none⟩ = some u) ∧ w.frozen? ⟨g, i, none⟩ = false ∧
      (w.setCell ⟨g, i, none⟩ (.string (SX.strOf f 0 512))).cell? ⟨D, 2, none⟩ = some (.slice (some ⟨g', 0, none⟩) s.size c') ∧ (∃ u, (w.setCell ⟨g, i, none⟩ (.string (SX.strOf f 0 512))).cell? ⟨g', i, none⟩ = some u) ∧ (w.setCell ⟨g, i, none⟩ (.string (SX.strOf f 0 512))).frozen? ⟨g', i, none⟩ = false ∧
      Kp (fun i => col i = 3 ∨ col i = 4) w ((w.setCell ⟨g, i, none⟩ (.string (SX.strOf f 0 512))).setCell ⟨g', i, none⟩ (.bool true)) ∧ RDsk ((w.setCell ⟨g, i, none⟩ (.string (SX.strOf f 0 512))).setCell ⟨g', i, none⟩ (.bool true)) col D (YtlgkcbdpaffigaaGreat.setSafe s i f) := by
  have hd := h.dlt
  obtain ⟨xs, x1, x2⟩ := h.safe
  obtain ⟨g, c, e1, e2, e3, e4, e5⟩ := x1.setAt (by rw [h.colD]; omega) hi
  obtain ⟨r1, k1⟩ := e5 (.string (SX.strOf f 0 512))
  have hx := x1.xlen
  generalize hw1 : w.setCell ⟨g, i, none⟩ (.string (SX.strOf f 0 512)) = w1 at *
  have nD3 : ¬ cl col 3 D := fun hh => by have := h.colD; unfold cl at hh; omega
  have hh1 : Row0 w1 col D 2 4 4 1 s.size (boolL s.has s.size) := h.has.kpc k1 (fun i _ hh => by unfold cl at hh; omega) (fun _ _ => rfl) (fun v hv => k1.cell hv nD3)
  obtain ⟨g', c', y1, y2, y3, y4, y5⟩ := hh1.setAt (by rw [h.colD]; omega) hi
  obtain ⟨r2, k2⟩ := y5 (.bool true)
  have nD4 : ¬ cl col 4 D := fun hh => by have := h.colD; unfold cl at hh; omega
  have kk : Kp (fun i => col i = 3 ∨ col i = 4) w (w1.setCell ⟨g', i, none⟩ (.bool true)) := (k1.mono fun _ _ h => .inl h).trans (k2.mono fun _ _ h => .inr h)
  have nD : ¬ (col D = 3 ∨ col D = 4) := by rw [h.colD]; omega
  have hc : ∀ o v, w.cell? ⟨D, o, none⟩ = some v → (w1.setCell ⟨g', i, none⟩ (.bool true)).cell? ⟨D, o, none⟩ = some v := fun o v hv => kk.cell hv nD
  rw [boolL_set] at r2
  subst hw1
  refine ⟨g, c, g', c', e1, e3, e4, y1, y3, y4, kk, h.colD, fun i hi => Nat.lt_of_lt_of_le (h.lt i hi) kk.size, fun o => (kk.frz ⟨D, o, none⟩ hd).trans (h.frz o), h.now.kpc kk (fun i _ hh => by omega) (fun _ _ => rfl) (hc 0), ⟨_, r1.kpc k2 (fun i _ hh => by unfold cl at hh; omega) (fun _ _ => rfl) (fun v hv => k2.cell hv nD4), fun j hj => ?_⟩, r2, h.wait.kpc kk (fun i _ hh => by omega) (fun _ _ => rfl) (hc 3), setSafe_ok h.ok hf i⟩
  by_cases e : j = i
  · subst e
    have : (xs.set j (.string (SX.strOf f 0 512)))[j]? = some (.string (SX.strOf f 0 512)) := by rw [List.getElem?_set_self]; omega
    refine ⟨⟨_, this⟩, fun _ => ?_⟩
    rw [this]
    congr 2
    refine strOf_eq fun p hp => ?_
    show _ = if _ then _ else _
    rw [if_pos (by omega)]
    congr 1
    omega
  · have : (xs.set i (.string (SX.strOf f 0 512)))[j]? = xs[j]? := List.getElem?_set_ne (fun h => e h.symm)
    rw [this]
    refine ⟨(x2 j hj).1, fun hh => ?_⟩
    have hh' : s.has j = true := by
      have : (if j = i then true else s.has j) = true := hh
      rwa [if_neg e] at this
    rw [(x2 j hj).2 hh']
    congr 2
    refine strOf_eq fun p hp => ?_
    show _ = if _ then _ else _
    rw [if_neg (by omega)]
theorem syncTo0 (s : St) : syncTo s 0 = s := by
  obtain ⟨a, b, c, d, e⟩ := s
  simp only [syncTo, St.mk.injEq, true_and, and_true]
  exact ⟨funext fun j => if_neg (by omega), funext fun p => if_neg (by omega)⟩
theorem c59 (h : RDsk w col D s) : Rets Tryz.prog 51 #[.pointer (some ⟨D, 0, none⟩)] w fun v w' => v = .tuple #[] ∧ Kp (ownC col) w w' ∧ RDsk w' col D (syncSt s) := by
  refine ent [_] Tryz.func51 ((vcTryz51 _ w _).mpr ?_)
  unfold VCTryz51
  have hs := h.ok.size
  simp only [ptr_some, ad_add, Nat.zero_add, Nat.add_zero]
  refine ⟨fun i w' => ∃ k : Nat, i = k ∧ k ≤ s.size ∧ Kp (ownC col) w w' ∧ RDsk w' col D (syncTo s k), fun i _ => (s.size - i).toNat, ⟨0, rfl, by omega, Kp.refl _ _, by rw [syncTo0]; exact h⟩, ?_⟩
  rintro i w1 ⟨k, rfl, hk, k1, h1⟩
  obtain ⟨q, c, l1⟩ := h1.now.len
  refine ⟨_, _, _, l1, bif_dec (fun hlt => ?_) (fun hge => ?_)⟩
  · have hki : k < s.size := by have : (k : Int) < (s.size : Int) := hlt; omega
    obtain ⟨g0, c0, z1, z2, z3⟩ := h1.now.get (show 0 < (syncTo s k).size from (by show 0 < s.size; omega))
    rw [l1] at z1
    cases z1
    obtain ⟨g, c, g', c', e1, e2, e3, e4, e5, e6, e7, e8⟩ := h1.drew.setSafe (i := k) hki (f := secAt s.now k) (fun j => h.ok.now _)
    have hn : w1.cell? ⟨g0, k, none⟩ = some (.string (SX.strOf (secAt s.now k) 0 512)) := by
      rw [secAt_str]
      exact z3 k _ (strL_get _ hki)
    refine ⟨_, _, _, e1, _, _, _, l1, by omega, ?_⟩
    simp only [ptr_some, ad_add, Nat.zero_add, Nat.add_zero, Nat.mul_one, Int.toNat_natCast]
    refine ⟨_, hn, ⟨by omega, hlt⟩, e2, e3, _, _, _, e4, ⟨by omega, hlt⟩, ?_⟩
    simp only [ptr_some, ad_add, Nat.zero_add, Nat.add_zero, Nat.mul_one, Int.toNat_natCast]
    rw [syncTo_next'] at e8
    exact ⟨e5, e6, wr64 (by omega) ⟨⟨k + 1, by omega, by omega, k1.trans ((Kp.refl _ w1).drew.trans (e7.mono fun i _ hi => by show col i ≠ 0; omega)), e8⟩, by first | omega | (dsimp only; omega)⟩⟩
  · have : k = s.size := by have : ¬ (k : Int) < (s.size : Int) := hge; omega
    subst this
    obtain ⟨q3, c3, l3⟩ := h1.wait.len
    have kD : Kp (one_ D) w1 (w1.setCell ⟨D, 3, none⟩ (.slice none 0 0)) := Kp.setCell (S := one_ D) (x := ⟨D, 3, none⟩) (Kp.refl (one_ D) w1) _ (.inl rfl)
    have ne : ∀ i c, one_ D i → c ≠ 1 → col i ≠ c := fun i c hi hc => by have e : i = D := hi; rw [e, h1.colD]; omega
    have cD : ∀ o v, o ≠ 3 → w1.cell? ⟨D, o, none⟩ = some v → (w1.setCell ⟨D, 3, none⟩ (.slice none 0 0)).cell? ⟨D, o, none⟩ = some v := fun o v ho hv => by rw [cell_set_off _ (Ne.symm ho)]; exact hv
    obtain ⟨xs, x1, x2⟩ := h1.safe
    refine ⟨⟨_, l3⟩, h1.frz 3, _, rfl, rfl, k1.trans (kD.mono fun i _ hi => by have e : i = D := hi; show col i ≠ 0; rw [e, h.colD]; omega), h1.colD, fun i hi => by rw [show (w1.setCell ⟨D, 3, none⟩ (.slice none 0 0)).heap.size = w1.heap.size by simp [World.setCell]]; exact h1.lt i hi, fun o => by rw [frozen_set]; exact h1.frz o, h1.now.kpc kD (fun i _ hh => ne i 2 hh (by omega)) (fun _ _ => rfl) (cD 0 · (by omega)), ⟨xs, x1.kpc kD (fun i _ hh => ne i 3 hh (by omega)) (fun _ _ => rfl) (cD 1 · (by omega)), x2⟩, h1.has.kpc kD (fun i _ hh => ne i 4 hh (by omega)) (fun _ _ => rfl) (cD 2 · (by omega)), ⟨none, 0, cell_set_same _ l3, OwnRow.nil _ _ _ _⟩, ⟨h1.ok.size, h1.ok.now, h1.ok.safe, fun e he => by simp [syncSt] at he⟩⟩
end
end Go.Proofs.YtlgkcbdpaffigaaGreat

namespace Go.Proofs.YtlgkcbdpaffigaaGreat
open Go Go.SX Go.Proofs
set_option maxRecDepth 100000
set_option linter.unusedVariables false
set_option linter.unusedSimpArgs false
section
variable {w w' : World} {col col' : Col} {D : Nat} {s : St} {S : Nat → Prop}
theorem keepsA_past (s : St) (n : Nat) (kb : Nat → Bool) (k : Nat) (hn : n ≤ k) : ∀ m, keepsA s n kb (k + m) = keepsA s n kb k
  | 0 => rfl
  | m + 1 => by
    have ih := keepsA_past s n kb k hn m
    have e : keepsA s n kb (k + m + 1) = keepsA s n kb (k + m) := by
      rw [keepsA]
      split
      · rw [if_neg (by omega)]
      · rfl
    exact e.trans ih
theorem RDsk.nowPut (h : RDsk w col D s) {i : Nat} (hi : i < s.size) {f : Int → Int} (hf : ∀ j, isByte (f j)) (hk : Kp (cl col 2) w w') {xs : List Value} (hr : Row0 w' col D 0 2 9 1 s.size xs) (hx : xs = (strL s.now s.size).set i (.string (SX.strOf f 0 512))) : RDsk w' col D (setNow s i f) := by
  subst hx
  rw [strL_set] at hr
  exact h.nowSet hk hr (setNow_byte h.ok hf i)
theorem waitL_get {l : List (Nat × (Int → Int))} {k : Nat} {e : Nat × (Int → Int)} (h : l[k]? = some e) : (waitL l)[k * 2]? = some (.int .i64 e.1) ∧ (waitL l)[k * 2 + 1]? = some (.string (SX.strOf e.2 (512 * e.1) 512)) := by
  induction l generalizing k with
  | nil => simp at h
  | cons a l ih =>
    cases k with
    | zero =>
      simp at h
      subst h
      exact ⟨rfl, rfl⟩
    | succ k =>
      have := ih (k := k) (by simpa using h)
      have e1 : (k + 1) * 2 = k * 2 + 2 := by omega
      rw [e1]
      exact this
theorem c60 (h : RDsk w col D s) {q : Option Addr} {n cp : Nat} {kb : Nat → Bool} (hb : Bools w q n kb) (hq : 0 < n → ∀ a, q = some a → col a.block = 0) (fill : Int) (hf : isByte fill) (hl : s.wait.length ≤ 100000) :
    Rets Tryz.prog 59 #[.pointer (some ⟨D, 0, none⟩), .slice q n cp, .int .u8 fill] w fun v w' => v = .tuple #[] ∧ Kp (ownC col) w w' ∧ RDsk w' col D (crashSt s n kb fill) := by
  refine ent [_, _, _] Tryz.func59 ((vcTryz59 _ _ _ _ _ w _).mpr ?_)
  unfold VCTryz59
  have hs := h.ok.size
  have own2 : ∀ i, cl col 2 i → ownC col i := fun i hi => by have hi : col i = 2 := hi; show col i ≠ 0; omega
  have nD2 : ¬ cl col 2 D := fun hh => by have := h.colD; unfold cl at hh; omega
  simp only [ptr_some, ad_add, Nat.zero_add, Nat.add_zero]
  refine ⟨fun i w' => ∃ k : Nat, i = k ∧ k ≤ s.size ∧ Kp (cl col 2) w w' ∧ RDsk w' col D (crashA s fill k), fun i _ => (s.size - i).toNat, ⟨0, rfl, by omega, Kp.refl _ _, h⟩, ?_⟩
  rintro i w1 ⟨k, rfl, hk, k1, h1⟩
  obtain ⟨a1, a2, a3, a4⟩ := crashA_same s fill k
  obtain ⟨q0, c0, l0⟩ := h1.now.len
  rw [a1] at l0
  refine ⟨_, _, _, l0, bif_dec (fun hlt => ?_) (fun hge => ?_)⟩
  · have hki : k < s.size := by omega
    have hki1 : k < (crashA s fill k).size := by omega
    obtain ⟨xs, x1, x2⟩ := h1.safe
    obtain ⟨g1, c1, y1, y2, y3⟩ := x1.get (by omega)
    obtain ⟨g2, c2, z1, z2, z3⟩ := h1.has.get (by omega)
    obtain ⟨g0, c0', t1, t2, t3, t4, t5⟩ := h1.drew.now.setAt (by rw [h1.colD]; omega) hki1
    rw [a1] at t1
    have t1' := l0.symm.trans t1
    cases t1'
    obtain ⟨⟨t, ht⟩, hhas⟩ := x2 k hki1
    obtain ⟨r1, kk1⟩ := t5 (.string t)
    have nb : ∀ i, cl col 2 i → col i ≠ 4 := fun i hi => by unfold cl at hi; omega
    have kd : Kp (cl col 2) w1 (w1.drew.setCell ⟨g0, k, none⟩ (.string t)) := kk1.of_drew
    refine ⟨_, _, _, l0, _, _, _, y1, ⟨by omega, by omega⟩, ?_⟩
    simp only [ptr_some, ad_add, Nat.zero_add, Nat.add_zero, Nat.mul_one, Int.toNat_natCast]
    refine ⟨_, y3 k _ ht, ⟨by omega, by omega⟩, t3, t4, _, _, _, kk1.cell (show w1.drew.cell? _ = _ from z1) nD2, ⟨by omega, by omega⟩, ?_⟩
    simp only [ptr_some, ad_add, Nat.zero_add, Nat.add_zero, Nat.mul_one, Int.toNat_natCast]
    refine ⟨_, kk1.cell (show w1.drew.cell? _ = _ from z3 k _ (boolL_get _ hki1)) (fun hh => by have : col g2 = 2 := hh; omega), ?_⟩
    have next : crashA s fill (k + 1) = setNow (crashA s fill k) k (if s.has k = true then secAt s.safe k else strangeF k fill) := rfl
    rw [a2]
    cases hh : s.has k with
    | true =>
      rw [hh, if_pos rfl] at next
      show cond false _ _
      simp only [cond_false]
      have e : t = SX.strOf (secAt s.safe k) 0 512 := by
        have := hhas (by rw [a2]; exact hh)
        rw [ht, a3] at this
        cases this
        exact (secAt_str _ _).symm
      refine wr64 (by omega) ⟨⟨k + 1, by omega, by omega, k1.trans kd, ?_⟩, by first | omega | (dsimp only; omega)⟩
      rw [next]
      exact h1.nowPut hki1 (f := secAt s.safe k) (fun j => h.ok.safe _) kd r1 (by rw [e])
    | false =>
      rw [hh, if_neg (by decide)] at next
      show cond true _ _
      simp only [cond_true]
      have l1 : (w1.drew.setCell ⟨g0, k, none⟩ (.string t)).cell? ⟨D, 0, none⟩ = some (.slice (some ⟨g0, 0, none⟩) s.size c0) := kd.cell l0 nD2
      have r1' : Row0 (w1.drew.setCell ⟨g0, k, none⟩ (.string t)) col D 0 2 9 1 (crashA s fill k).size ((strL (crashA s fill k).now (crashA s fill k).size).set k (.string t)) := r1
      generalize w1.drew.setCell ⟨g0, k, none⟩ (.string t) = w2 at *
      refine ⟨_, _, _, l1, (c98 w2.drew k (by omega) fill hf).mono ?_⟩
      rintro v w3 ⟨rfl, k3⟩
      have l3 := k3.cell0 (show w2.drew.cell? ⟨D, 0, none⟩ = _ from l1)
      have r3 := Row0.kpc (col' := col) (show Row0 w2.drew _ _ _ _ _ _ _ _ from r1') k3 (fun i _ h => h.elim) (fun _ _ => rfl) (fun v hv => k3.cell0 hv)
      obtain ⟨g3, c3, u1, u2, u3, u4, u5⟩ := r3.setAt (by rw [h1.colD]; omega) hki1
      rw [a1] at u1
      rw [l3] at u1
      cases u1
      obtain ⟨r4, k4⟩ := u5 (.string (SX.strOf (strangeF k fill) 0 512))
      have kall : Kp (cl col 2) w1 (w3.setCell ⟨g0, k, none⟩ (.string (SX.strOf (strangeF k fill) 0 512))) := (kd.drew.trans (k3.mono fun _ _ h => h.elim)).trans k4
      refine ⟨_, rfl, k3.keeps0, l3, ⟨by omega, by omega⟩, ?_⟩
      simp only [ptr_some, ad_add, Nat.zero_add, Nat.add_zero, Nat.mul_one, Int.toNat_natCast]
      refine ⟨u3, u4, wr64 (by omega) ⟨⟨k + 1, by omega, by omega, k1.trans kall, ?_⟩, by first | omega | (dsimp only; omega)⟩⟩
      rw [next]
      exact h1.nowPut hki1 (f := strangeF k fill) (fun j => strange_byte k fill j) kall r4 (by rw [List.set_set])
  -- what is kept
  have : k = s.size := by omega
  subst this
  generalize hsa : crashA s fill s.size = sa at *
  have hneq : 0 < n → ∀ a, q = some a → ¬ cl col 2 a.block := fun h0 a ha hh => by have := hq h0 a ha; unfold cl at hh; omega
  refine ⟨fun i w' => ∃ k : Nat, i = k ∧ k ≤ s.wait.length ∧ Kp (cl col 2) w1 w' ∧ RDsk w' col D (keepsA sa n kb k), fun i _ => (s.wait.length - i).toNat, ⟨0, rfl, by omega, Kp.refl _ _, h1⟩, ?_⟩
  rintro i w2 ⟨k, rfl, hk2, k2, h2⟩
  obtain ⟨b1, b2, b3, b4⟩ := keepsA_same sa n kb k
  have kw : Kp (ownC col) w w2 := (k1.trans k2).mono fun i _ hi => own2 i hi
  obtain ⟨q3, c3, l3⟩ := h2.wait.len
  rw [b4, a4] at l3
  have fin : keepsA sa n kb k = keepsA sa n kb s.wait.length → Rets Tryz.prog 51 #[.pointer (some ⟨D, 0, none⟩)] w2 fun v w' => v = .tuple #[] ∧ Keeps w2 w' [] ∧ (∃ v, Ending.returned (.tuple #[]) = .returned v ∧ v = .tuple #[] ∧ Kp (ownC col) w w' ∧ RDsk w' col D (crashSt s n kb fill)) := by
    intro e
    refine (c59 h2).mono ?_
    rintro v w3 ⟨rfl, k3, h3⟩
    refine ⟨rfl, k3.keeps0, _, rfl, rfl, kw.trans k3, ?_⟩
    unfold crashSt
    rw [hsa, ← e]
    exact h3
  refine ⟨_, _, _, l3, bif_dec (fun hlt => ?_) (fun hge => ?_)⟩
  rotate_left
  · exact fin (by congr 1; omega)
  refine bif_dec (fun hn => ?_) (fun hn => ?_)
  rotate_left
  · refine fin ?_
    have := keepsA_past sa n kb k (by omega) (s.wait.length - k)
    rw [← this]
    congr 1
    omega
  have hkw : k < s.wait.length := by omega
  obtain ⟨e, he⟩ : ∃ e, s.wait[k]? = some e := ⟨s.wait[k]'hkw, List.getElem?_eq_getElem _⟩
  have hmem := h.ok.wait e (List.mem_of_getElem? he)
  have next : keepsA sa n kb (k + 1) = if k < n ∧ kb k = true then setNow (keepsA sa n kb k) e.1 (secAt e.2 e.1) else keepsA sa n kb k := by
    show (match sa.wait[k]? with | some e => _ | none => _) = _
    rw [a4, he]
  obtain ⟨aq, rfl, hbc⟩ := ((hb.kp k1 hneq).kp k2 hneq) k (by omega)
  refine ⟨by omega, ?_⟩
  simp only [ptr_some, Nat.mul_one]
  refine ⟨_, hbc, bif_b (fun hkb => ?_) (fun hkb => wr64 (by omega) ⟨⟨k + 1, by omega, by omega, k2, by rw [next, if_neg (by rw [hkb]; simp)]; exact h2⟩, by first | omega | (dsimp only; omega)⟩)⟩
  obtain ⟨gw, cw, v1, v2, v3⟩ := h2.wait.get (by rw [b4, a4]; omega)
  rw [b4, a4] at v1
  rw [l3] at v1
  cases v1
  obtain ⟨f1, f2⟩ := waitL_get (show (keepsA sa n kb k).wait[k]? = some e by rw [b4, a4]; exact he)
  have hes : e.1 < (keepsA sa n kb k).size := by rw [b1, a1]; exact hmem.1
  obtain ⟨g0, c0', t1, t2, t3, t4, t5⟩ := h2.drew.now.setAt (by rw [h2.colD]; omega) hes
  obtain ⟨r1, kk0⟩ := t5 (.string (SX.strOf e.2 (512 * e.1) 512))
  have kk1 := kk0.of_drew
  refine ⟨_, _, _, t1, _, _, _, l3, ⟨by omega, by omega⟩, ?_⟩
  simp only [ptr_some, ad_add, Nat.zero_add, Nat.add_zero, Int.toNat_natCast]
  refine ⟨_, v3 _ _ f1, _, _, _, l3, ⟨by omega, by omega⟩, ?_⟩
  try simp only [ptr_some, ad_add, Nat.zero_add, Nat.add_zero, Int.toNat_natCast]
  refine ⟨_, v3 _ _ f2, ⟨by omega, by omega⟩, ?_⟩
  try simp only [ptr_some, ad_add, Nat.zero_add, Nat.add_zero, Int.toNat_natCast, Nat.mul_one]
  refine ⟨t3, t4, wr64 (by omega) ⟨⟨k + 1, by omega, by omega, k2.trans kk1, ?_⟩, by first | omega | (dsimp only; omega)⟩⟩
  rw [next, if_pos ⟨by omega, hkb⟩]
  exact h2.nowPut hes (f := secAt e.2 e.1) (fun j => hmem.2 _) kk1 r1 (by rw [secAt_str])
end
end Go.Proofs.YtlgkcbdpaffigaaGreat

namespace Go.Proofs.YtlgkcbdpaffigaaGreat
open Go Go.SX Go.Proofs Go.Lib
set_option maxRecDepth 100000
set_option linter.unusedVariables false
set_option linter.unusedSimpArgs false
section
variable {w w' : World} {col col' : Col} {D : Nat} {s : St} {S : Nat → Prop}
theorem byF_app (f g : Int → Int) (n m : Nat) (h : ∀ i : Nat, i < m → g i = f ((n : Int) + i)) : byF f n ++ byF g m = byF f (n + m) := by
  apply List.ext_getElem
  · rw [List.length_append, byF_len, byF_len, byF_len]
  · intro i h1 h2
    rw [byF_len] at h2
    by_cases c : i < n
    · rw [List.getElem_append_left (by rw [byF_len]; exact c)]
      simp only [byF, List.getElem_map, List.getElem_range]
    · rw [List.getElem_append_right (by rw [byF_len]; omega)]
      simp only [byF, List.getElem_map, List.getElem_range, List.length_map, List.length_range]
      rw [h _ (by omega)]
      congr 2
      omega
theorem byF_str (f : Int → Int) (hf : ∀ p, isByte (f p)) (a : Int) (k : Nat) : strCells (SX.strOf f a k) = byF (fun p => f (a + p)) k := strCells_of (fun p => hf p) a k
theorem u9 : Tryz.prog.underlying 9 = some .string := by kernel_rfl
theorem c61 (h : RDsk w col D s) (at_ : Int) (n : Nat) (hr : rightF at_ n = true) : Rets Tryz.prog 35 #[.pointer (some ⟨D, 0, none⟩), .int .i64 at_, .int .i64 n] w fun v w' =>
    ∃ q c, v = .slice q n c ∧ Kp none_ w w' ∧ OwnRow w' (fresh w) 5 1 (.slice q n c) n (byF (readF s at_) n) := by
  refine ent [_, _, _] Tryz.func35 ((vcTryz35 _ _ _ w _).mpr ?_)
  unfold VCTryz35
  have hs := h.ok.size
  unfold rightF at hr
  have hr' := of_decide_eq_true hr
  obtain ⟨i5, i51, i52, i53, i54⟩ := info5
  refine make_cap Tryz.underlying30 ⟨i5, .int .u8 0, i51, i52, i53, rfl, by omega⟩ (by omega) fun w1 r1 k1 => ?_
  refine ⟨_, _, _, rfl, k1.keeps0, fun q m c a w' => m ≤ n ∧ a = at_ + m ∧ Kp none_ w w' ∧ OwnRow w' (fresh w) 5 1 (.slice q m c) m (byF (readF s at_) m), fun _ m _ _ _ => n - m, ⟨by omega, by omega, k1, r1⟩, ?_⟩
  rintro q m c a w2 ⟨hm, rfl, k2, r2⟩
  refine bif_dec (fun hlt => ⟨by omega, ?_⟩) (fun hge => ?_)
  rotate_left
  · have : m = n := by omega
    subst this
    exact ⟨_, rfl, q, c, rfl, k2, r2⟩
  have h2 := h.kp0 k2
  have e1 : (at_ + (m : Int)).tdiv 512 = (at_ + m) / 512 := Int.tdiv_eq_ediv_of_nonneg (by omega)
  have e2 : (at_ + (m : Int)).tmod 512 = (at_ + m) % 512 := Int.tmod_eq_emod_of_nonneg (by omega)
  rw [e1, e2]
  obtain ⟨q0, c0, l0⟩ := h2.now.len
  simp only [ptr_some, ad_add, Nat.zero_add, Nat.add_zero]
  refine wr64 (by omega) ⟨_, _, _, l0, bif_dec (fun hp => wr64 (by omega) ?_) (fun hp => ⟨_, _, _, l0, by omega, ?_⟩)⟩
  · have ek : (n : Int) - m = ((n - m : Nat) : Int) := by omega
    rw [ek]
    refine zeros_own (own := fresh w) (size := 1) (bytes := 1) (z := .int .u8 0) Tryz.underlying30 Tryz.underlying3 info5 rfl (by omega) (by omega) (fun u hu => ?_) r2 (by omega) (by omega) (fun q3 c3 w3 r3 k3 => ?_)
    · rw [zerosL_one rfl] at hu
      rw [List.eq_of_mem_replicate hu]
      simp [Value.oneCell']
    · have en : m + (n - m) = n := by omega
      have z2 := k2.size
      rw [zerosL_one rfl, en] at r3
      have ez : List.replicate (n - m) (Value.int .u8 0) = byF (fun _ => 0) (n - m) := by
        apply List.ext_getElem
        · rw [byF_len, List.length_replicate]
        · intro i h1 h2; simp only [byF, List.getElem_map, List.getElem_range, List.getElem_replicate]
      rw [ez, byF_app (readF s at_) (fun _ => 0) m (n - m) (fun i hi => by unfold readF; rw [if_neg (by omega)]), en] at r3
      rw [en]
      exact ⟨_, _, _, rfl, k3.keeps (by intro b hb; cases hb), _, rfl, _, _, rfl, k2.then k3 (fun i hi hh => by unfold fresh at hh; omega), r3.mono fun i hi _ => by
        rcases hi with hi | hi
        · exact hi
        · unfold fresh at hi ⊢; omega⟩
  · obtain ⟨i, hi⟩ : ∃ i : Nat, (at_ + m) / 512 = i := ⟨((at_ + m) / 512).toNat, by omega⟩
    obtain ⟨o, ho⟩ : ∃ o : Nat, (at_ + m) % 512 = o := ⟨((at_ + m) % 512).toNat, by omega⟩
    rw [hi, ho]
    have his : i < s.size := by omega
    obtain ⟨g, cc, x1, x2, x3⟩ := h2.now.get (by omega)
    rw [l0] at x1
    cases x1
    simp only [ptr_some, ad_add, Nat.zero_add, Nat.add_zero, Nat.mul_one, Int.toNat_natCast]
    refine ⟨_, x3 i _ (strL_get _ his), by omega, ?_⟩
    have hcut : (SX.strOf s.now (512 * (i : Int)) 512).extract o 512 = SX.strOf s.now (512 * i + o) (512 - o) := strOf_cut _ _ _ _ _ (Nat.le_refl _) (by omega)
    simp only [strOf_size, Int.toNat_natCast, hcut]
    have next : ∀ k : Nat, 0 < k → k ≤ n - m → k ≤ 512 - o → ∀ (q' : Option Addr) (c' : Nat) (v : Value) (w3 : World),
        OwnRow w3 (fun i => fresh w i ∨ fresh w2 i) 5 1 v (m + k) (byF (readF s at_) m ++ strCells (SX.strOf s.now (512 * i + o) k)) → Kp (fresh w) w2 w3 → ∃ q' c', v = .slice q' (m + k) c' ∧ OwnRow w3 (fresh w) 5 1 (.slice q' (m + k) c') (m + k) (byF (readF s at_) (m + k)) ∧ Kp none_ w w3 := by
      intro k hk0 hk1 hk2 q' c' v w3 r3 k3
      have z2 := k2.size
      rw [byF_str _ h.ok.now, byF_app _ _ _ _ (fun j hj => by
        unfold readF
        rw [if_pos (by omega)]
        congr 1
        omega)] at r3
      obtain ⟨q4, c4, rfl⟩ : ∃ q4 c4, v = .slice q4 (m + k) c4 := by
        rcases r3.2 with ⟨h1, h2⟩ | ⟨g, cap, cur, h1, _⟩
        · omega
        · exact ⟨_, _, h1⟩
      exact ⟨q4, c4, rfl, r3.mono fun i hi _ => by
        rcases hi with hi | hi
        · exact hi
        · unfold fresh at hi ⊢; omega, k2.then k3 (fun i hi hh => by unfold fresh at hh; omega)⟩
    refine ⟨by omega, wr64 (by omega) (bif_dec (fun hgt => wr64 (by omega) ⟨?_, ?_⟩) (fun hle => ?_))⟩
    · omega
    · rw [strOf_cut _ _ _ _ _ (by omega) (by omega)]
      refine append_str Tryz.underlying30 u9 info5 r2 _ (by rw [strOf_size]; omega) fun v w3 r3 k3 => ?_
      have ek : ((n : Int) - m).toNat - 0 = n - m := by omega
      rw [ek, strOf_size] at r3
      obtain ⟨q4, c4, rfl, r4, k4⟩ := next (n - m) (by omega) (by omega) (by omega) none 0 v w3 (by simpa using r3) k3
      refine ⟨_, _, _, rfl, k3.keeps (by intro b hb; cases hb), ?_⟩
      rw [strOf_size, ek]
      exact wr64 (by omega) ⟨⟨by omega, by omega, k4, r4⟩, by first | omega | (dsimp only; omega)⟩
    · refine append_str Tryz.underlying30 u9 info5 r2 _ (by rw [strOf_size]; omega) fun v w3 r3 k3 => ?_
      rw [strOf_size] at r3
      obtain ⟨q4, c4, rfl, r4, k4⟩ := next (512 - o) (by omega) (by omega) (by omega) none 0 v w3 r3 k3
      refine ⟨_, _, _, rfl, k3.keeps (by intro b hb; cases hb), ?_⟩
      exact wr64 (by omega) ⟨⟨by omega, by omega, k4, r4⟩, by first | omega | (dsimp only; omega)⟩
end
end Go.Proofs.YtlgkcbdpaffigaaGreat

namespace Go.Proofs.YtlgkcbdpaffigaaGreat
open Go Go.SX Go.Proofs Go.Lib
set_option maxRecDepth 100000
set_option linter.unusedVariables false
set_option linter.unusedSimpArgs false
section
variable {w w' : World} {col col' : Col} {D : Nat} {s : St} {S : Nat → Prop}
theorem elem4 : elemOk Tryz.prog 4 1 = true := by kernel_rfl
theorem elem149 : elemOk Tryz.prog 118 2 = true := by kernel_rfl
/-- One element more in a row that a cell points at. -/
theorem Row0.push {o k : Nat} {e t ty : TypeId} {size n : Nat} {xs : List Value} (h : Row0 w col D o k e size n xs) (news : Array Value) (lt : ∀ i, col i ≠ 0 → i < w.heap.size) (frz : ∀ o, w.frozen? ⟨D, o, none⟩ = false) (hD : col D = 1) (hk : k ≠ 0 ∧ k ≠ 1)
    (ht : Tryz.prog.underlying t = some (.slice e)) (he : elemOk Tryz.prog e size = true) (hsz : 0 < size) (hl : news.size = size) (h1 : ∀ u ∈ news.toList, u.oneCell' = true) (hb : n + 1 ≤ 137438953472) :
    ∃ q c, w.cell? ⟨D, o, none⟩ = some (.slice q n c) ∧ (w.alloc (.cells news e)).cell? ⟨D, o, none⟩ = some (.slice q n c) ∧
      Runs Tryz.prog (Builtin.append_ #[t, t] ty #[.slice q n c, .slice (some ⟨w.heap.size, 0, none⟩) 1 1]) (w.alloc (.cells news e)) fun v w3 =>
        ∃ q' c', v = .slice q' (n + 1) c' ∧ Keeps (w.alloc (.cells news e)) w3 [] ∧ (∃ u, w3.cell? ⟨D, o, none⟩ = some u) ∧ w3.frozen? ⟨D, o, none⟩ = false ∧
          Kp (fun i => col i = k ∨ i = D) w (w3.setCell ⟨D, o, none⟩ (.slice q' (n + 1) c')) ∧ (∀ o' v, o' ≠ o → w.cell? ⟨D, o', none⟩ = some v → (w3.setCell ⟨D, o, none⟩ (.slice q' (n + 1) c')).cell? ⟨D, o', none⟩ = some v) ∧
          (∀ o', (w3.setCell ⟨D, o, none⟩ (.slice q' (n + 1) c')).frozen? ⟨D, o', none⟩ = false) ∧
          ∃ col', (∀ i, i < w.heap.size → col' i = col i) ∧ (∀ i, col' i ≠ 0 → i < (w3.setCell ⟨D, o, none⟩ (.slice q' (n + 1) c')).heap.size) ∧ Row0 (w3.setCell ⟨D, o, none⟩ (.slice q' (n + 1) c')) col' D o k e size (n + 1) (xs ++ news.toList) := by
  obtain ⟨q, c, l, r⟩ := h
  have hd : D < w.heap.size := lt D (by rw [hD]; omega)
  have nD : ¬ cl col k D := fun hh => by unfold cl at hh; omega
  refine ⟨q, c, l, cell_alloc _ l, ?_⟩
  refine append_new (own := cl col k) (xs := xs) news ht he hsz r hl h1 hb ?_
  intro q3 c3 w3 r3 k3 k3a
  have lD := k3.cell l nD
  obtain ⟨col1, g1, g2, r4⟩ := recolor lt k3.size r3
  have kD : Kp (one_ D) w3 (w3.setCell ⟨D, o, none⟩ (.slice q3 (n + 1) c3)) := Kp.setCell (S := one_ D) (x := ⟨D, o, none⟩) (Kp.refl (one_ D) w3) _ (.inl rfl)
  have sz : (w3.setCell ⟨D, o, none⟩ (.slice q3 (n + 1) c3)).heap.size = w3.heap.size := by simp [World.setCell]
  have hD1 : col1 D = 1 := (g1 D hd).trans hD
  refine ⟨q3, c3, rfl, k3a.keeps0, ⟨_, lD⟩, (k3.frz ⟨D, o, none⟩ hd).trans (frz o), (k3.mono fun i _ hi => .inl hi).trans (kD.mono fun i _ hi => .inr hi), fun o' v ho hv => by rw [cell_set_off _ (Ne.symm ho)]; exact k3.cell hv nD, fun o' => by rw [frozen_set]; exact (k3.frz ⟨D, o', none⟩ hd).trans (frz o'), col1, g1, fun i hi => ?_, ?_⟩
  · rw [sz]
    have := k3.size
    rcases g2 i hi with h | h <;> omega
  · exact ⟨q3, c3, cell_set_same _ lD, OwnRow.kpc r4 kD (fun i _ hh => by have e : i = D := hh; rw [e, hD1]; exact fun h => hk.2 h.symm) (fun _ _ => rfl)⟩
theorem grow_pos (s : St) (m : Nat) (h : s.size < m) : growSt s m = { s with size := m, now := fun p => if p < 512 * s.size then s.now p else 0, has := fun i => if i < s.size then s.has i else false } := if_pos h
theorem grow_grow (s : St) (m : Nat) (h : s.size ≤ m) : growSt (growSt s m) (m + 1) = growSt s (m + 1) := by
  have h2 : (growSt s m).size = m := by rw [growSt_size]; omega
  have e1 : growSt (growSt s m) (m + 1) = { growSt s m with size := m + 1, now := fun p => if p < 512 * m then (growSt s m).now p else 0, has := fun i => if i < m then (growSt s m).has i else false } := by
    rw [grow_pos _ _ (by rw [h2]; omega), h2]
  have e2 : growSt s (m + 1) = { s with size := m + 1, now := fun p => if p < 512 * s.size then s.now p else 0, has := fun i => if i < s.size then s.has i else false } := if_pos (by omega)
  rw [e1, e2]
  by_cases hm : s.size < m
  · have e3 : growSt s m = { s with size := m, now := fun p => if p < 512 * s.size then s.now p else 0, has := fun i => if i < s.size then s.has i else false } := if_pos hm
    rw [e3]
    simp only [St.mk.injEq, true_and, and_true]
    refine ⟨funext fun p => ?_, funext fun i => ?_⟩
    · by_cases c : p < 512 * (m : Int)
      · rw [if_pos c]
      · rw [if_neg c, if_neg (by omega)]
    · by_cases c : i < m
      · rw [if_pos c]
      · rw [if_neg c, if_neg (by omega)]
  · have e3 : growSt s m = s := if_neg hm
    have : m = s.size := by omega
    subst this
    rw [e3]
theorem strL_snoc (f g : Int → Int) (n : Nat) (t : ByteArray) (h : ∀ p : Int, p < 512 * n → g p = f p) (ht : SX.strOf g (512 * n) 512 = t) : strL f n ++ [.string t] = strL g (n + 1) := by
  unfold strL
  rw [List.range_succ, List.map_append, List.map_cons, List.map_nil, ht]
  congr 1
  apply List.map_congr_left
  intro i hi
  have := List.mem_range.1 hi
  congr 1
  exact strOf_eq fun j hj => (h _ (by omega)).symm
theorem boolL_snoc (f g : Nat → Bool) (n : Nat) (t : Bool) (h : ∀ i, i < n → g i = f i) (ht : g n = t) : boolL f n ++ [.bool t] = boolL g (n + 1) := by
  unfold boolL
  rw [List.range_succ, List.map_append, List.map_cons, List.map_nil, ht]
  congr 1
  apply List.map_congr_left
  intro i hi
  rw [h i (List.mem_range.1 hi)]
theorem waitL_snoc (l : List (Nat × (Int → Int))) (e : Nat × (Int → Int)) : waitL l ++ waitC e = waitL (l ++ [e]) := by
  unfold waitL
  rw [List.flatMap_append, List.flatMap_cons, List.flatMap_nil, List.append_nil]
theorem growSt_ok {s : St} (h : s.Ok) {m : Nat} (hm : m ≤ 4096) : (growSt s m).Ok := by
  unfold growSt
  split
  · refine ⟨hm, fun p => ?_, h.safe, fun e he => ⟨?_, (h.wait e he).2⟩⟩
    · show isByte (if _ then _ else _)
      split
      · exact h.now p
      · unfold isByte; omega
    · have := (h.wait e he).1
      show e.1 < m
      omega
  · exact h
end
end Go.Proofs.YtlgkcbdpaffigaaGreat


