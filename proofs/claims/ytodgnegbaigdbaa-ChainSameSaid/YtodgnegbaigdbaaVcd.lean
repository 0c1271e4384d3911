/- The conditions of functions, as the executor computes them: each is equal to what 'vcFn' says. -/
import Derived.Test.YtodgnegbaigdbaaSxLib
import Derived.Test.YtodgnegbaigdbaaProg
namespace Go.Proofs.Ytodgnegbaigdbaa
open Go Go.SX Go.Proofs
set_option maxRecDepth 100000
set_option linter.unusedVariables false
def VCTry30 (p0 : Option Addr) (n0 c0 : Nat) (p1 : Option Addr) (n1 c1 : Nat) (w : World) (R : Ending → World → Prop) : Prop :=
bif (↑n0 : Int) != (↑n1 : Int) then R (Ending.returned (Value.bool false)) w
else
  ∃ (I0 : Int → World → Prop),
    ∃ (I1 : Int → World → Nat),
      I0 (0 : Int) w ∧
        ∀ (i2 : Int) (w3 : World),
          I0 i2 w3 →
            bif decide (i2 < (↑n0 : Int)) then
              ((0 : Int) ≤ i2 ∧ i2 < (↑n0 : Int)) ∧
                SX.Ptr p0 fun (a4 : Addr) =>
                  ∃ (i5 : Int),
                    ∃ (i6 : Int),
                      ∃ (i7 : Int),
                        (w3.drew.cell? ((a4.add (i2.toNat * (3 : Nat))).add (0 : Nat)) = some (Value.int IntKind.u8 i5) ∧
                            w3.drew.cell? ((a4.add (i2.toNat * (3 : Nat))).add (1 : Nat)) = some (Value.int IntKind.i64 i6) ∧
                              w3.drew.cell? ((a4.add (i2.toNat * (3 : Nat))).add (2 : Nat)) = some (Value.int IntKind.i64 i7) ∧ True) ∧
                          ((0 : Int) ≤ i2 ∧ i2 < (↑n1 : Int)) ∧
                            SX.Ptr p1 fun (a8 : Addr) =>
                              ∃ (i9 : Int),
                                ∃ (i10 : Int),
                                  ∃ (i11 : Int),
                                    (w3.drew.cell? ((a8.add (i2.toNat * (3 : Nat))).add (0 : Nat)) = some (Value.int IntKind.u8 i9) ∧
                                        w3.drew.cell? ((a8.add (i2.toNat * (3 : Nat))).add (1 : Nat)) = some (Value.int IntKind.i64 i10) ∧
                                          w3.drew.cell? ((a8.add (i2.toNat * (3 : Nat))).add (2 : Nat)) = some (Value.int IntKind.i64 i11) ∧ True) ∧
                                      true = true ∧
                                        bif !(i5 == i9 && (i6 == i10 && i7 == i11)) then R (Ending.returned (Value.bool false)) w3.drew
                                        else Wr IntKind.i64 (i2 + (1 : Int)) fun (i12 : Int) => I0 i12 w3.drew ∧ I1 i12 w3.drew < I1 i2 w3
            else R (Ending.returned (Value.bool true)) w3
theorem vcTry30 (p0 : Option Addr) (n0 c0 : Nat) (p1 : Option Addr) (n1 c1 : Nat) (w : World) (R : Ending → World → Prop) : SX.vcFn Try.prog [(4, ⟨[(5, .int .i64)], [1, 0], []⟩)] Try.f30 [.v (.slice p0 n0 c0), .v (.slice p1 n1 c1)] [] w R = VCTry30 p0 n0 c0 p1 n1 c1 w R := by kernel_rfl
def VCTry32 (p0 : Option Addr) (n0 c0 : Nat) (p1 : Int) (w : World) (R : Ending → World → Prop) : Prop :=
∃ (I0 : Int → Option Addr → Nat → Nat → World → Prop),
  ∃ (I1 : Int → Option Addr → Nat → Nat → World → Nat),
    I0 (0 : Int) none (0 : Nat) (0 : Nat) w ∧
      ∀ (i2 : Int) (q3 : Option Addr) (n4 n5 : Nat) (w6 : World),
        I0 i2 q3 n4 n5 w6 →
          bif decide (i2 < (↑n0 : Int)) then
            Rets Try.prog (34 : Nat) #[Value.int IntKind.i64 p1] w6 fun (v7 : Value) (w8 : World) =>
              ∃ (i9 : Int),
                v7 = Value.int IntKind.i64 i9 ∧
                  Keeps w6 w8 [] ∧
                    Rets Try.prog (21 : Nat) #[Value.slice p0 n0 c0, Value.int IntKind.i64 i2, Value.int IntKind.i64 i9] w8 fun (v10 : Value) (w11 : World) =>
                      ∃ (i12 : Int),
                        ∃ (i13 : Int),
                          v10 = Value.tuple #[Value.int IntKind.i64 i12, Value.int IntKind.i64 i13] ∧
                            Keeps w8 w11 [] ∧
                              Wr IntKind.i64 (i2 + (1 : Int)) fun (i14 : Int) =>
                                Rets Try.prog (34 : Nat) #[Value.int IntKind.i64 p1] w11 fun (v15 : Value) (w16 : World) =>
                                  ∃ (i17 : Int),
                                    v15 = Value.int IntKind.i64 i17 ∧
                                      Keeps w11 w16 [] ∧
                                        Rets Try.prog (21 : Nat) #[Value.slice p0 n0 c0, Value.int IntKind.i64 i14, Value.int IntKind.i64 i17] w16 fun (v18 : Value) (w19 : World) =>
                                          ∃ (i20 : Int),
                                            ∃ (i21 : Int),
                                              v18 = Value.tuple #[Value.int IntKind.i64 i20, Value.int IntKind.i64 i21] ∧
                                                Keeps w16 w19 [] ∧
                                                  bif i12 == (0 : Int) then
                                                    ((0 : Int) ≤ i2 ∧ i2 < (↑n0 : Int)) ∧
                                                      SX.Ptr p0 fun (a22 : Addr) =>
                                                        ∃ (i23 : Int),
                                                          ((((w19.alloc (Obj.cells #[Value.int IntKind.u8 (0 : Int), Value.int IntKind.i64 (0 : Int), Value.int IntKind.i64 (0 : Int)] (49 : Nat))).setCell
                                                                            { block := w19.heap.size, off := (0 : Nat) } (Value.int IntKind.u8 (0 : Int))).setCell
                                                                        { block := w19.heap.size, off := (1 : Nat) } (Value.int IntKind.i64 i12)).setCell
                                                                    { block := w19.heap.size, off := (2 : Nat) } (Value.int IntKind.i64 i13)).cell?
                                                                (a22.add (i2.toNat * (1 : Nat))) =
                                                              some (Value.int IntKind.u8 i23) ∧
                                                            Runs Try.prog
                                                              (Builtin.append_ #[(42 : Nat), (42 : Nat)] (42 : Nat)
                                                                #[Value.slice q3 n4 n5,
                                                                  Value.slice
                                                                    (some
                                                                      {
                                                                        block :=
                                                                          (((((((w19.alloc
                                                                                                        (Obj.cells #[Value.int IntKind.u8 (0 : Int), Value.int IntKind.i64 (0 : Int), Value.int IntKind.i64 (0 : Int)]
                                                                                                          (49 : Nat))).setCell
                                                                                                    { block := w19.heap.size, off := (0 : Nat) } (Value.int IntKind.u8 (0 : Int))).setCell
                                                                                                { block := w19.heap.size, off := (1 : Nat) } (Value.int IntKind.i64 i12)).setCell
                                                                                            { block := w19.heap.size, off := (2 : Nat) } (Value.int IntKind.i64 i13)).setCell
                                                                                        { block := w19.heap.size, off := (0 : Nat) } (Value.int IntKind.u8 i23)).setCell
                                                                                    { block := w19.heap.size, off := (1 : Nat) } (Value.int IntKind.i64 (0 : Int))).setCell
                                                                                { block := w19.heap.size, off := (2 : Nat) } (Value.int IntKind.i64 (0 : Int))).heap.size,
                                                                        off := (0 : Nat) })
                                                                    (1 : Nat) (1 : Nat)])
                                                              ((((((((w19.alloc (Obj.cells #[Value.int IntKind.u8 (0 : Int), Value.int IntKind.i64 (0 : Int), Value.int IntKind.i64 (0 : Int)] (49 : Nat))).setCell
                                                                                        { block := w19.heap.size, off := (0 : Nat) } (Value.int IntKind.u8 (0 : Int))).setCell
                                                                                    { block := w19.heap.size, off := (1 : Nat) } (Value.int IntKind.i64 i12)).setCell
                                                                                { block := w19.heap.size, off := (2 : Nat) } (Value.int IntKind.i64 i13)).setCell
                                                                            { block := w19.heap.size, off := (0 : Nat) } (Value.int IntKind.u8 i23)).setCell
                                                                        { block := w19.heap.size, off := (1 : Nat) } (Value.int IntKind.i64 (0 : Int))).setCell
                                                                    { block := w19.heap.size, off := (2 : Nat) } (Value.int IntKind.i64 (0 : Int))).alloc
                                                                (Obj.cells #[Value.int IntKind.u8 i23, Value.int IntKind.i64 (0 : Int), Value.int IntKind.i64 (0 : Int)] (49 : Nat)))
                                                              fun (v24 : Value) (w25 : World) =>
                                                              ∃ (q26 : Option Addr),
                                                                ∃ (n27 : Nat),
                                                                  ∃ (n28 : Nat),
                                                                    v24 = Value.slice q26 n27 n28 ∧
                                                                      Keeps
                                                                          ((((((((w19.alloc
                                                                                                        (Obj.cells #[Value.int IntKind.u8 (0 : Int), Value.int IntKind.i64 (0 : Int), Value.int IntKind.i64 (0 : Int)]
                                                                                                          (49 : Nat))).setCell
                                                                                                    { block := w19.heap.size, off := (0 : Nat) } (Value.int IntKind.u8 (0 : Int))).setCell
                                                                                                { block := w19.heap.size, off := (1 : Nat) } (Value.int IntKind.i64 i12)).setCell
                                                                                            { block := w19.heap.size, off := (2 : Nat) } (Value.int IntKind.i64 i13)).setCell
                                                                                        { block := w19.heap.size, off := (0 : Nat) } (Value.int IntKind.u8 i23)).setCell
                                                                                    { block := w19.heap.size, off := (1 : Nat) } (Value.int IntKind.i64 (0 : Int))).setCell
                                                                                { block := w19.heap.size, off := (2 : Nat) } (Value.int IntKind.i64 (0 : Int))).alloc
                                                                            (Obj.cells #[Value.int IntKind.u8 i23, Value.int IntKind.i64 (0 : Int), Value.int IntKind.i64 (0 : Int)] (49 : Nat)))
                                                                          w25 [w19.heap.size] ∧
                                                                        Wr IntKind.i64 (i2 + (0 : Int)) fun (i29 : Int) =>
                                                                          Wr IntKind.i64 (i29 + (1 : Int)) fun (i30 : Int) => I0 i30 q26 n27 n28 w25 ∧ I1 i30 q26 n27 n28 w25 < I1 i2 q3 n4 n5 w6
                                                  else
                                                    bif decide (p1 > (1 : Int)) then
                                                      bif decide (i12 < (258 : Int)) then
                                                        bif decide (i20 > i12) then
                                                          ((0 : Int) ≤ i2 ∧ i2 < (↑n0 : Int)) ∧
                                                            SX.Ptr p0 fun (a31 : Addr) =>
                                                              ∃ (i32 : Int),
                                                                ((((w19.alloc (Obj.cells #[Value.int IntKind.u8 (0 : Int), Value.int IntKind.i64 (0 : Int), Value.int IntKind.i64 (0 : Int)] (49 : Nat))).setCell
                                                                                  { block := w19.heap.size, off := (0 : Nat) } (Value.int IntKind.u8 (0 : Int))).setCell
                                                                              { block := w19.heap.size, off := (1 : Nat) } (Value.int IntKind.i64 i12)).setCell
                                                                          { block := w19.heap.size, off := (2 : Nat) } (Value.int IntKind.i64 i13)).cell?
                                                                      (a31.add (i2.toNat * (1 : Nat))) =
                                                                    some (Value.int IntKind.u8 i32) ∧
                                                                  Runs Try.prog
                                                                    (Builtin.append_ #[(42 : Nat), (42 : Nat)] (42 : Nat)
                                                                      #[Value.slice q3 n4 n5,
                                                                        Value.slice
                                                                          (some
                                                                            {
                                                                              block :=
                                                                                (((((((w19.alloc
                                                                                                              (Obj.cells #[Value.int IntKind.u8 (0 : Int), Value.int IntKind.i64 (0 : Int), Value.int IntKind.i64 (0 : Int)]
                                                                                                                (49 : Nat))).setCell
                                                                                                          { block := w19.heap.size, off := (0 : Nat) } (Value.int IntKind.u8 (0 : Int))).setCell
                                                                                                      { block := w19.heap.size, off := (1 : Nat) } (Value.int IntKind.i64 i12)).setCell
                                                                                                  { block := w19.heap.size, off := (2 : Nat) } (Value.int IntKind.i64 i13)).setCell
                                                                                              { block := w19.heap.size, off := (0 : Nat) } (Value.int IntKind.u8 i32)).setCell
                                                                                          { block := w19.heap.size, off := (1 : Nat) } (Value.int IntKind.i64 (0 : Int))).setCell
                                                                                      { block := w19.heap.size, off := (2 : Nat) } (Value.int IntKind.i64 (0 : Int))).heap.size,
                                                                              off := (0 : Nat) })
                                                                          (1 : Nat) (1 : Nat)])
                                                                    ((((((((w19.alloc (Obj.cells #[Value.int IntKind.u8 (0 : Int), Value.int IntKind.i64 (0 : Int), Value.int IntKind.i64 (0 : Int)] (49 : Nat))).setCell
                                                                                              { block := w19.heap.size, off := (0 : Nat) } (Value.int IntKind.u8 (0 : Int))).setCell
                                                                                          { block := w19.heap.size, off := (1 : Nat) } (Value.int IntKind.i64 i12)).setCell
                                                                                      { block := w19.heap.size, off := (2 : Nat) } (Value.int IntKind.i64 i13)).setCell
                                                                                  { block := w19.heap.size, off := (0 : Nat) } (Value.int IntKind.u8 i32)).setCell
                                                                              { block := w19.heap.size, off := (1 : Nat) } (Value.int IntKind.i64 (0 : Int))).setCell
                                                                          { block := w19.heap.size, off := (2 : Nat) } (Value.int IntKind.i64 (0 : Int))).alloc
                                                                      (Obj.cells #[Value.int IntKind.u8 i32, Value.int IntKind.i64 (0 : Int), Value.int IntKind.i64 (0 : Int)] (49 : Nat)))
                                                                    fun (v33 : Value) (w34 : World) =>
                                                                    ∃ (q35 : Option Addr),
                                                                      ∃ (n36 : Nat),
                                                                        ∃ (n37 : Nat),
                                                                          v33 = Value.slice q35 n36 n37 ∧
                                                                            Keeps
                                                                                ((((((((w19.alloc
                                                                                                              (Obj.cells #[Value.int IntKind.u8 (0 : Int), Value.int IntKind.i64 (0 : Int), Value.int IntKind.i64 (0 : Int)]
                                                                                                                (49 : Nat))).setCell
                                                                                                          { block := w19.heap.size, off := (0 : Nat) } (Value.int IntKind.u8 (0 : Int))).setCell
                                                                                                      { block := w19.heap.size, off := (1 : Nat) } (Value.int IntKind.i64 i12)).setCell
                                                                                                  { block := w19.heap.size, off := (2 : Nat) } (Value.int IntKind.i64 i13)).setCell
                                                                                              { block := w19.heap.size, off := (0 : Nat) } (Value.int IntKind.u8 i32)).setCell
                                                                                          { block := w19.heap.size, off := (1 : Nat) } (Value.int IntKind.i64 (0 : Int))).setCell
                                                                                      { block := w19.heap.size, off := (2 : Nat) } (Value.int IntKind.i64 (0 : Int))).alloc
                                                                                  (Obj.cells #[Value.int IntKind.u8 i32, Value.int IntKind.i64 (0 : Int), Value.int IntKind.i64 (0 : Int)] (49 : Nat)))
                                                                                w34 [w19.heap.size] ∧
                                                                              Wr IntKind.i64 (i2 + (0 : Int)) fun (i38 : Int) =>
                                                                                Wr IntKind.i64 (i38 + (1 : Int)) fun (i39 : Int) => I0 i39 q35 n36 n37 w34 ∧ I1 i39 q35 n36 n37 w34 < I1 i2 q3 n4 n5 w6
                                                        else
                                                          Runs Try.prog
                                                            (Builtin.append_ #[(42 : Nat), (42 : Nat)] (42 : Nat)
                                                              #[Value.slice q3 n4 n5,
                                                                Value.slice
                                                                  (some
                                                                    {
                                                                      block :=
                                                                        ((((w19.alloc (Obj.cells #[Value.int IntKind.u8 (0 : Int), Value.int IntKind.i64 (0 : Int), Value.int IntKind.i64 (0 : Int)] (49 : Nat))).setCell
                                                                                      { block := w19.heap.size, off := (0 : Nat) } (Value.int IntKind.u8 (0 : Int))).setCell
                                                                                  { block := w19.heap.size, off := (1 : Nat) } (Value.int IntKind.i64 i12)).setCell
                                                                              { block := w19.heap.size, off := (2 : Nat) } (Value.int IntKind.i64 i13)).heap.size,
                                                                      off := (0 : Nat) })
                                                                  (1 : Nat) (1 : Nat)])
                                                            (((((w19.alloc (Obj.cells #[Value.int IntKind.u8 (0 : Int), Value.int IntKind.i64 (0 : Int), Value.int IntKind.i64 (0 : Int)] (49 : Nat))).setCell
                                                                          { block := w19.heap.size, off := (0 : Nat) } (Value.int IntKind.u8 (0 : Int))).setCell
                                                                      { block := w19.heap.size, off := (1 : Nat) } (Value.int IntKind.i64 i12)).setCell
                                                                  { block := w19.heap.size, off := (2 : Nat) } (Value.int IntKind.i64 i13)).alloc
                                                              (Obj.cells #[Value.int IntKind.u8 (0 : Int), Value.int IntKind.i64 i12, Value.int IntKind.i64 i13] (49 : Nat)))
                                                            fun (v40 : Value) (w41 : World) =>
                                                            ∃ (q42 : Option Addr),
                                                              ∃ (n43 : Nat),
                                                                ∃ (n44 : Nat),
                                                                  v40 = Value.slice q42 n43 n44 ∧
                                                                    Keeps
                                                                        (((((w19.alloc (Obj.cells #[Value.int IntKind.u8 (0 : Int), Value.int IntKind.i64 (0 : Int), Value.int IntKind.i64 (0 : Int)] (49 : Nat))).setCell
                                                                                      { block := w19.heap.size, off := (0 : Nat) } (Value.int IntKind.u8 (0 : Int))).setCell
                                                                                  { block := w19.heap.size, off := (1 : Nat) } (Value.int IntKind.i64 i12)).setCell
                                                                              { block := w19.heap.size, off := (2 : Nat) } (Value.int IntKind.i64 i13)).alloc
                                                                          (Obj.cells #[Value.int IntKind.u8 (0 : Int), Value.int IntKind.i64 i12, Value.int IntKind.i64 i13] (49 : Nat)))
                                                                        w41 [w19.heap.size] ∧
                                                                      Wr IntKind.i64 (i2 + i12) fun (i45 : Int) =>
                                                                        bif i12 == (0 : Int) then Wr IntKind.i64 (i45 + (1 : Int)) fun (i46 : Int) => I0 i46 q42 n43 n44 w41 ∧ I1 i46 q42 n43 n44 w41 < I1 i2 q3 n4 n5 w6
                                                                        else I0 i45 q42 n43 n44 w41 ∧ I1 i45 q42 n43 n44 w41 < I1 i2 q3 n4 n5 w6
                                                      else
                                                        Runs Try.prog
                                                          (Builtin.append_ #[(42 : Nat), (42 : Nat)] (42 : Nat)
                                                            #[Value.slice q3 n4 n5,
                                                              Value.slice
                                                                (some
                                                                  {
                                                                    block :=
                                                                      ((((w19.alloc (Obj.cells #[Value.int IntKind.u8 (0 : Int), Value.int IntKind.i64 (0 : Int), Value.int IntKind.i64 (0 : Int)] (49 : Nat))).setCell
                                                                                    { block := w19.heap.size, off := (0 : Nat) } (Value.int IntKind.u8 (0 : Int))).setCell
                                                                                { block := w19.heap.size, off := (1 : Nat) } (Value.int IntKind.i64 i12)).setCell
                                                                            { block := w19.heap.size, off := (2 : Nat) } (Value.int IntKind.i64 i13)).heap.size,
                                                                    off := (0 : Nat) })
                                                                (1 : Nat) (1 : Nat)])
                                                          (((((w19.alloc (Obj.cells #[Value.int IntKind.u8 (0 : Int), Value.int IntKind.i64 (0 : Int), Value.int IntKind.i64 (0 : Int)] (49 : Nat))).setCell
                                                                        { block := w19.heap.size, off := (0 : Nat) } (Value.int IntKind.u8 (0 : Int))).setCell
                                                                    { block := w19.heap.size, off := (1 : Nat) } (Value.int IntKind.i64 i12)).setCell
                                                                { block := w19.heap.size, off := (2 : Nat) } (Value.int IntKind.i64 i13)).alloc
                                                            (Obj.cells #[Value.int IntKind.u8 (0 : Int), Value.int IntKind.i64 i12, Value.int IntKind.i64 i13] (49 : Nat)))
                                                          fun (v47 : Value) (w48 : World) =>
                                                          ∃ (q49 : Option Addr),
                                                            ∃ (n50 : Nat),
                                                              ∃ (n51 : Nat),
                                                                v47 = Value.slice q49 n50 n51 ∧
                                                                  Keeps
                                                                      (((((w19.alloc (Obj.cells #[Value.int IntKind.u8 (0 : Int), Value.int IntKind.i64 (0 : Int), Value.int IntKind.i64 (0 : Int)] (49 : Nat))).setCell
                                                                                    { block := w19.heap.size, off := (0 : Nat) } (Value.int IntKind.u8 (0 : Int))).setCell
                                                                                { block := w19.heap.size, off := (1 : Nat) } (Value.int IntKind.i64 i12)).setCell
                                                                            { block := w19.heap.size, off := (2 : Nat) } (Value.int IntKind.i64 i13)).alloc
                                                                        (Obj.cells #[Value.int IntKind.u8 (0 : Int), Value.int IntKind.i64 i12, Value.int IntKind.i64 i13] (49 : Nat)))
                                                                      w48 [w19.heap.size] ∧
                                                                    Wr IntKind.i64 (i2 + i12) fun (i52 : Int) =>
                                                                      bif i12 == (0 : Int) then Wr IntKind.i64 (i52 + (1 : Int)) fun (i53 : Int) => I0 i53 q49 n50 n51 w48 ∧ I1 i53 q49 n50 n51 w48 < I1 i2 q3 n4 n5 w6
                                                                      else I0 i52 q49 n50 n51 w48 ∧ I1 i52 q49 n50 n51 w48 < I1 i2 q3 n4 n5 w6
                                                    else
                                                      Runs Try.prog
                                                        (Builtin.append_ #[(42 : Nat), (42 : Nat)] (42 : Nat)
                                                          #[Value.slice q3 n4 n5,
                                                            Value.slice
                                                              (some
                                                                {
                                                                  block :=
                                                                    ((((w19.alloc (Obj.cells #[Value.int IntKind.u8 (0 : Int), Value.int IntKind.i64 (0 : Int), Value.int IntKind.i64 (0 : Int)] (49 : Nat))).setCell
                                                                                  { block := w19.heap.size, off := (0 : Nat) } (Value.int IntKind.u8 (0 : Int))).setCell
                                                                              { block := w19.heap.size, off := (1 : Nat) } (Value.int IntKind.i64 i12)).setCell
                                                                          { block := w19.heap.size, off := (2 : Nat) } (Value.int IntKind.i64 i13)).heap.size,
                                                                  off := (0 : Nat) })
                                                              (1 : Nat) (1 : Nat)])
                                                        (((((w19.alloc (Obj.cells #[Value.int IntKind.u8 (0 : Int), Value.int IntKind.i64 (0 : Int), Value.int IntKind.i64 (0 : Int)] (49 : Nat))).setCell
                                                                      { block := w19.heap.size, off := (0 : Nat) } (Value.int IntKind.u8 (0 : Int))).setCell
                                                                  { block := w19.heap.size, off := (1 : Nat) } (Value.int IntKind.i64 i12)).setCell
                                                              { block := w19.heap.size, off := (2 : Nat) } (Value.int IntKind.i64 i13)).alloc
                                                          (Obj.cells #[Value.int IntKind.u8 (0 : Int), Value.int IntKind.i64 i12, Value.int IntKind.i64 i13] (49 : Nat)))
                                                        fun (v54 : Value) (w55 : World) =>
                                                        ∃ (q56 : Option Addr),
                                                          ∃ (n57 : Nat),
                                                            ∃ (n58 : Nat),
                                                              v54 = Value.slice q56 n57 n58 ∧
                                                                Keeps
                                                                    (((((w19.alloc (Obj.cells #[Value.int IntKind.u8 (0 : Int), Value.int IntKind.i64 (0 : Int), Value.int IntKind.i64 (0 : Int)] (49 : Nat))).setCell
                                                                                  { block := w19.heap.size, off := (0 : Nat) } (Value.int IntKind.u8 (0 : Int))).setCell
                                                                              { block := w19.heap.size, off := (1 : Nat) } (Value.int IntKind.i64 i12)).setCell
                                                                          { block := w19.heap.size, off := (2 : Nat) } (Value.int IntKind.i64 i13)).alloc
                                                                      (Obj.cells #[Value.int IntKind.u8 (0 : Int), Value.int IntKind.i64 i12, Value.int IntKind.i64 i13] (49 : Nat)))
                                                                    w55 [w19.heap.size] ∧
                                                                  Wr IntKind.i64 (i2 + i12) fun (i59 : Int) =>
                                                                    bif i12 == (0 : Int) then Wr IntKind.i64 (i59 + (1 : Int)) fun (i60 : Int) => I0 i60 q56 n57 n58 w55 ∧ I1 i60 q56 n57 n58 w55 < I1 i2 q3 n4 n5 w6
                                                                    else I0 i59 q56 n57 n58 w55 ∧ I1 i59 q56 n57 n58 w55 < I1 i2 q3 n4 n5 w6
          else R (Ending.returned (Value.slice q3 n4 n5)) w6
theorem vcTry32 (p0 : Option Addr) (n0 c0 : Nat) (p1 : Int) (w : World) (R : Ending → World → Prop) : SX.vcFn Try.prog [(3, ⟨[(6, .int .i64), (5, .slice)], [0, 1], []⟩)] Try.f32 [.v (.slice p0 n0 c0), .v (.int .i64 p1)] [] w R = VCTry32 p0 n0 c0 p1 w R := by kernel_rfl
def VCTry33 (p0 : Int) (w : World) (R : Ending → World → Prop) : Prop :=
bif maxI (0 : Int) (minI (3 : Int) p0) == (0 : Int) then R (Ending.returned (Value.int IntKind.i64 (1 : Int))) w
else
  bif maxI (0 : Int) (minI (3 : Int) p0) == (1 : Int) then R (Ending.returned (Value.int IntKind.i64 (4 : Int))) w
  else bif maxI (0 : Int) (minI (3 : Int) p0) == (2 : Int) then R (Ending.returned (Value.int IntKind.i64 (32 : Int))) w else R (Ending.returned (Value.int IntKind.i64 (256 : Int))) w
theorem vcTry33 (p0 : Int) (w : World) (R : Ending → World → Prop) : SX.vcFn Try.prog [] Try.f33 [.v (.int .i64 p0)] [] w R = VCTry33 p0 w R := by kernel_rfl
def VCTry34 (p0 : Int) (w : World) (R : Ending → World → Prop) : Prop :=
bif decide (p0 ≤ (0 : Int)) then R (Ending.returned (Value.int IntKind.i64 (1 : Int))) w
else
  bif p0 == (1 : Int) then R (Ending.returned (Value.int IntKind.i64 (4 : Int))) w
  else bif p0 == (2 : Int) then R (Ending.returned (Value.int IntKind.i64 (32 : Int))) w else R (Ending.returned (Value.int IntKind.i64 (256 : Int))) w
theorem vcTry34 (p0 : Int) (w : World) (R : Ending → World → Prop) : SX.vcFn Try.prog [] Try.f34 [.v (.int .i64 p0)] [] w R = VCTry34 p0 w R := by kernel_rfl
def VCTry35 (p0 : Option Addr) (n0 c0 : Nat) (p1 : Int) (w : World) (R : Ending → World → Prop) : Prop :=
Known ((w.alloc (Obj.cells #[Value.slice p0 n0 c0] (25 : Nat))).alloc (Obj.cells #[Value.int IntKind.i64 p1] (3 : Nat)))
    [(w.heap.size, [((0 : Nat), Value.slice p0 n0 c0)]), ((w.alloc (Obj.cells #[Value.slice p0 n0 c0] (25 : Nat))).heap.size, [((0 : Nat), Value.int IntKind.i64 p1)])] →
  R
    (Ending.returned
      (Value.func (Fn.func (52 : Nat)) #[]
        #[Value.pointer (some { block := w.heap.size, off := (0 : Nat) }), Value.pointer (some { block := (w.alloc (Obj.cells #[Value.slice p0 n0 c0] (25 : Nat))).heap.size, off := (0 : Nat) })]))
    ((w.alloc (Obj.cells #[Value.slice p0 n0 c0] (25 : Nat))).alloc (Obj.cells #[Value.int IntKind.i64 p1] (3 : Nat)))
theorem vcTry35 (p0 : Option Addr) (n0 c0 : Nat) (p1 : Int) (w : World) (R : Ending → World → Prop) : SX.vcFn Try.prog [] Try.f35 [.v (.slice p0 n0 c0), .v (.int .i64 p1)] [] w R = VCTry35 p0 n0 c0 p1 w R := by kernel_rfl
def VCTry52 (y : Value) (a b : Addr) (w : World) (R : Ending → World → Prop) : Prop :=
∃ (q0 : Option Addr),
  ∃ (n1 : Nat),
    ∃ (n2 : Nat),
      w.drew.cell? a = some (Value.slice q0 n1 n2) ∧
        ∃ (q3 : Option Addr),
          ∃ (n4 : Nat),
            ∃ (n5 : Nat),
              w.drew.cell? a = some (Value.slice q3 n4 n5) ∧
                ∃ (i6 : Int),
                  w.drew.cell? b = some (Value.int IntKind.i64 i6) ∧
                    ∃ (i7 : Int),
                      w.drew.cell? b = some (Value.int IntKind.i64 i7) ∧
                        Rets Try.prog (26 : Nat) #[Value.slice q3 n4 n5] w.drew fun (v8 : Value) (w9 : World) =>
                          ∃ (q10 : Option Addr),
                            v8 = Value.pointer q10 ∧
                              Keeps w.drew w9 [] ∧
                                w9.cell? b = some (Value.int IntKind.i64 i7) ∧
                                  w9.cell? b = some (Value.int IntKind.i64 i6) ∧
                                    w9.cell? a = some (Value.slice q0 n1 n2) ∧
                                      Rets Try.prog (33 : Nat) #[Value.int IntKind.i64 i6] w9 fun (v11 : Value) (w12 : World) =>
                                        ∃ (i13 : Int),
                                          v11 = Value.int IntKind.i64 i13 ∧
                                            Keeps w9 w12 [] ∧
                                              w12.cell? b = some (Value.int IntKind.i64 i7) ∧
                                                w12.cell? a = some (Value.slice q0 n1 n2) ∧
                                                  ∃ (I14 : Int → World → Prop),
                                                    ∃ (I15 : Int → World → Nat),
                                                      I14 (0 : Int) (w12.alloc (Obj.cells #[Value.slice q0 n1 n2, Value.pointer q10, Value.int IntKind.i64 i13, Value.bool (decide (i7 ≥ (2 : Int)))] (79 : Nat))) ∧
                                                        ∀ (i16 : Int) (w17 : World),
                                                          I14 i16 w17 →
                                                            Known w17
                                                                [(w12.heap.size,
                                                                    [((0 : Nat), Value.slice q0 n1 n2), ((1 : Nat), Value.pointer q10), ((2 : Nat), Value.int IntKind.i64 i13),
                                                                      ((3 : Nat), Value.bool (decide (i7 ≥ (2 : Int))))])] →
                                                              ∃ (q18 : Option Addr),
                                                                ∃ (n19 : Nat),
                                                                  ∃ (n20 : Nat),
                                                                    w17.cell? a = some (Value.slice q18 n19 n20) ∧
                                                                      bif decide (i16 < (↑n19 : Int)) then
                                                                        Known w17
                                                                            [(w12.heap.size,
                                                                                [((0 : Nat), Value.slice q0 n1 n2), ((1 : Nat), Value.pointer q10), ((2 : Nat), Value.int IntKind.i64 i13),
                                                                                  ((3 : Nat), Value.bool (decide (i7 ≥ (2 : Int))))])] →
                                                                          Rets Try.prog (53 : Nat) #[Value.pointer (some { block := w12.heap.size, off := (0 : Nat) }), Value.int IntKind.i64 i16] w17
                                                                            fun (v21 : Value) (w22 : World) =>
                                                                            ∃ (i23 : Int),
                                                                              ∃ (i24 : Int),
                                                                                ∃ (i25 : Int),
                                                                                  v21 = Value.agg #[Value.int IntKind.u8 i23, Value.int IntKind.i64 i24, Value.int IntKind.i64 i25] ∧
                                                                                    Keeps w17 w22 [] ∧
                                                                                      ∃ (q26 : Option Addr),
                                                                                        ∃ (n27 : Nat),
                                                                                          ∃ (n28 : Nat),
                                                                                            w22.cell? { block := w12.heap.size, off := (0 : Nat) } = some (Value.slice q26 n27 n28) ∧
                                                                                              w22.frozen? { block := w12.heap.size, off := (0 : Nat) } = false ∧
                                                                                                ∃ (q29 : Option Addr),
                                                                                                  w22.cell? { block := w12.heap.size, off := (1 : Nat) } = some (Value.pointer q29) ∧
                                                                                                    w22.frozen? { block := w12.heap.size, off := (1 : Nat) } = false ∧
                                                                                                      ∃ (i30 : Int),
                                                                                                        w22.cell? { block := w12.heap.size, off := (2 : Nat) } = some (Value.int IntKind.i64 i30) ∧
                                                                                                          w22.frozen? { block := w12.heap.size, off := (2 : Nat) } = false ∧
                                                                                                            ∃ (t31 : Bool),
                                                                                                              w22.cell? { block := w12.heap.size, off := (3 : Nat) } = some (Value.bool t31) ∧
                                                                                                                w22.frozen? { block := w12.heap.size, off := (3 : Nat) } = false ∧
                                                                                                                  (Known
                                                                                                                      ((((w22.alloc
                                                                                                                                    (Obj.cells
                                                                                                                                      #[Value.int IntKind.u8 (0 : Int), Value.int IntKind.i64 (0 : Int),
                                                                                                                                        Value.int IntKind.i64 (0 : Int)]
                                                                                                                                      (49 : Nat))).setCell
                                                                                                                                { block := w22.heap.size, off := (0 : Nat) } (Value.int IntKind.u8 i23)).setCell
                                                                                                                            { block := w22.heap.size, off := (1 : Nat) } (Value.int IntKind.i64 i24)).setCell
                                                                                                                        { block := w22.heap.size, off := (2 : Nat) } (Value.int IntKind.i64 i25))
                                                                                                                      [(w12.heap.size,
                                                                                                                          [((0 : Nat), Value.slice q26 n27 n28), ((1 : Nat), Value.pointer q29),
                                                                                                                            ((2 : Nat), Value.int IntKind.i64 i30), ((3 : Nat), Value.bool t31)]),
                                                                                                                        (w22.heap.size,
                                                                                                                          [((0 : Nat), Value.int IntKind.u8 i23), ((1 : Nat), Value.int IntKind.i64 i24),
                                                                                                                            ((2 : Nat), Value.int IntKind.i64 i25)])] →
                                                                                                                    CallsVal Try.prog y
                                                                                                                      #[Value.agg #[Value.int IntKind.u8 i23, Value.int IntKind.i64 i24, Value.int IntKind.i64 i25]]
                                                                                                                      ((((w22.alloc
                                                                                                                                    (Obj.cells
                                                                                                                                      #[Value.int IntKind.u8 (0 : Int), Value.int IntKind.i64 (0 : Int),
                                                                                                                                        Value.int IntKind.i64 (0 : Int)]
                                                                                                                                      (49 : Nat))).setCell
                                                                                                                                { block := w22.heap.size, off := (0 : Nat) } (Value.int IntKind.u8 i23)).setCell
                                                                                                                            { block := w22.heap.size, off := (1 : Nat) } (Value.int IntKind.i64 i24)).setCell
                                                                                                                        { block := w22.heap.size, off := (2 : Nat) } (Value.int IntKind.i64 i25))
                                                                                                                      fun (v32 : Value) (w33 : World) =>
                                                                                                                      ∃ (t34 : Bool),
                                                                                                                        v32 = Value.bool t34 ∧
                                                                                                                          Keeps
                                                                                                                              ((((w22.alloc
                                                                                                                                            (Obj.cells
                                                                                                                                              #[Value.int IntKind.u8 (0 : Int), Value.int IntKind.i64 (0 : Int),
                                                                                                                                                Value.int IntKind.i64 (0 : Int)]
                                                                                                                                              (49 : Nat))).setCell
                                                                                                                                        { block := w22.heap.size, off := (0 : Nat) } (Value.int IntKind.u8 i23)).setCell
                                                                                                                                    { block := w22.heap.size, off := (1 : Nat) } (Value.int IntKind.i64 i24)).setCell
                                                                                                                                { block := w22.heap.size, off := (2 : Nat) } (Value.int IntKind.i64 i25))
                                                                                                                              w33 [w12.heap.size, w22.heap.size] ∧
                                                                                                                            bif !t34 then
                                                                                                                              Known w33
                                                                                                                                  [(w12.heap.size,
                                                                                                                                      [((0 : Nat), Value.slice q26 n27 n28), ((1 : Nat), Value.pointer q29),
                                                                                                                                        ((2 : Nat), Value.int IntKind.i64 i30), ((3 : Nat), Value.bool t31)]),
                                                                                                                                    (w22.heap.size,
                                                                                                                                      [((0 : Nat), Value.int IntKind.u8 i23), ((1 : Nat), Value.int IntKind.i64 i24),
                                                                                                                                        ((2 : Nat), Value.int IntKind.i64 i25)])] →
                                                                                                                                R (Ending.returned (Value.tuple #[])) w33
                                                                                                                            else
                                                                                                                              Wr IntKind.i64 (i16 + maxI (1 : Int) i24) fun (i35 : Int) =>
                                                                                                                                SameVals
                                                                                                                                    [Value.slice q26 n27 n28, Value.pointer q29, Value.int IntKind.i64 i30, Value.bool t31]
                                                                                                                                    [Value.slice q0 n1 n2, Value.pointer q10, Value.int IntKind.i64 i13,
                                                                                                                                      Value.bool (decide (i7 ≥ (2 : Int)))] ∧
                                                                                                                                  I14 i35 w33 ∧ I15 i35 w33 < I15 i16 w17)
                                                                      else
                                                                        Known w17
                                                                            [(w12.heap.size,
                                                                                [((0 : Nat), Value.slice q0 n1 n2), ((1 : Nat), Value.pointer q10), ((2 : Nat), Value.int IntKind.i64 i13),
                                                                                  ((3 : Nat), Value.bool (decide (i7 ≥ (2 : Int))))])] →
                                                                          R (Ending.returned (Value.tuple #[])) w17
theorem vcTry52 (y : Value) (a b : Addr) (w : World) (R : Ending → World → Prop) : SX.vcFn Try.prog [(2, ⟨[(5, .int .i64)], [0, 4, 1], []⟩)] Try.f52 [.v y, .v (.pointer (some a)), .v (.pointer (some b))] [] w R = VCTry52 y a b w R := by kernel_rfl
def VCTry53 (p0 : Option Addr) (p1 : Int) (w : World) (R : Ending → World → Prop) : Prop :=
SX.Ptr p0 fun (a0 : Addr) =>
  ∃ (q1 : Option Addr),
    (w.alloc (Obj.cells #[Value.int IntKind.u8 (0 : Int), Value.int IntKind.i64 (0 : Int), Value.int IntKind.i64 (0 : Int)] (49 : Nat))).drew.cell? (a0.add (1 : Nat)) = some (Value.pointer q1) ∧
      SX.Ptr p0 fun (a2 : Addr) =>
        ∃ (i3 : Int),
          (w.alloc (Obj.cells #[Value.int IntKind.u8 (0 : Int), Value.int IntKind.i64 (0 : Int), Value.int IntKind.i64 (0 : Int)] (49 : Nat))).drew.cell? (a2.add (2 : Nat)) = some (Value.int IntKind.i64 i3) ∧
            (Known (w.alloc (Obj.cells #[Value.int IntKind.u8 (0 : Int), Value.int IntKind.i64 (0 : Int), Value.int IntKind.i64 (0 : Int)] (49 : Nat))).drew
                [(w.heap.size, [((0 : Nat), Value.int IntKind.u8 (0 : Int)), ((1 : Nat), Value.int IntKind.i64 (0 : Int)), ((2 : Nat), Value.int IntKind.i64 (0 : Int))])] →
              Rets Try.prog (27 : Nat) #[Value.pointer q1, Value.int IntKind.i64 p1, Value.int IntKind.i64 i3]
                (w.alloc (Obj.cells #[Value.int IntKind.u8 (0 : Int), Value.int IntKind.i64 (0 : Int), Value.int IntKind.i64 (0 : Int)] (49 : Nat))).drew fun (v4 : Value) (w5 : World) =>
                ∃ (i6 : Int),
                  ∃ (i7 : Int),
                    v4 = Value.tuple #[Value.int IntKind.i64 i6, Value.int IntKind.i64 i7] ∧
                      Keeps (w.alloc (Obj.cells #[Value.int IntKind.u8 (0 : Int), Value.int IntKind.i64 (0 : Int), Value.int IntKind.i64 (0 : Int)] (49 : Nat))).drew w5 [w.heap.size] ∧
                        bif i6 == (0 : Int) then
                          SX.Ptr p0 fun (a8 : Addr) =>
                            ∃ (q9 : Option Addr),
                              ∃ (n10 : Nat),
                                ∃ (n11 : Nat),
                                  w5.cell? (a8.add (0 : Nat)) = some (Value.slice q9 n10 n11) ∧
                                    ((0 : Int) ≤ p1 ∧ p1 < (↑n10 : Int)) ∧
                                      SX.Ptr q9 fun (a12 : Addr) =>
                                        ∃ (i13 : Int),
                                          w5.cell? (a12.add (p1.toNat * (1 : Nat))) = some (Value.int IntKind.u8 i13) ∧
                                            (Known
                                                (((w5.setCell { block := w.heap.size, off := (0 : Nat) } (Value.int IntKind.u8 i13)).setCell { block := w.heap.size, off := (1 : Nat) }
                                                      (Value.int IntKind.i64 (0 : Int))).setCell
                                                  { block := w.heap.size, off := (2 : Nat) } (Value.int IntKind.i64 (0 : Int)))
                                                [(w.heap.size, [((0 : Nat), Value.int IntKind.u8 i13), ((1 : Nat), Value.int IntKind.i64 (0 : Int)), ((2 : Nat), Value.int IntKind.i64 (0 : Int))])] →
                                              R (Ending.returned (Value.agg #[Value.int IntKind.u8 i13, Value.int IntKind.i64 (0 : Int), Value.int IntKind.i64 (0 : Int)]))
                                                (((w5.setCell { block := w.heap.size, off := (0 : Nat) } (Value.int IntKind.u8 i13)).setCell { block := w.heap.size, off := (1 : Nat) }
                                                      (Value.int IntKind.i64 (0 : Int))).setCell
                                                  { block := w.heap.size, off := (2 : Nat) } (Value.int IntKind.i64 (0 : Int))))
                        else
                          SX.Ptr p0 fun (a14 : Addr) =>
                            ∃ (t15 : Bool),
                              w5.cell? (a14.add (3 : Nat)) = some (Value.bool t15) ∧
                                bif t15 then
                                  bif decide (i6 < (258 : Int)) then
                                    SX.Ptr p0 fun (a16 : Addr) =>
                                      ∃ (q17 : Option Addr),
                                        w5.drew.cell? (a16.add (1 : Nat)) = some (Value.pointer q17) ∧
                                          Wr IntKind.i64 (p1 + (1 : Int)) fun (i18 : Int) =>
                                            SX.Ptr p0 fun (a19 : Addr) =>
                                              ∃ (i20 : Int),
                                                w5.drew.cell? (a19.add (2 : Nat)) = some (Value.int IntKind.i64 i20) ∧
                                                  (Known w5.drew
                                                      [(w.heap.size, [((0 : Nat), Value.int IntKind.u8 (0 : Int)), ((1 : Nat), Value.int IntKind.i64 (0 : Int)), ((2 : Nat), Value.int IntKind.i64 (0 : Int))])] →
                                                    Rets Try.prog (27 : Nat) #[Value.pointer q17, Value.int IntKind.i64 i18, Value.int IntKind.i64 i20] w5.drew fun (v21 : Value) (w22 : World) =>
                                                      ∃ (i23 : Int),
                                                        ∃ (i24 : Int),
                                                          v21 = Value.tuple #[Value.int IntKind.i64 i23, Value.int IntKind.i64 i24] ∧
                                                            Keeps w5.drew w22 [w.heap.size] ∧
                                                              bif decide (i23 > i6) then
                                                                SX.Ptr p0 fun (a25 : Addr) =>
                                                                  ∃ (q26 : Option Addr),
                                                                    ∃ (n27 : Nat),
                                                                      ∃ (n28 : Nat),
                                                                        w22.cell? (a25.add (0 : Nat)) = some (Value.slice q26 n27 n28) ∧
                                                                          ((0 : Int) ≤ p1 ∧ p1 < (↑n27 : Int)) ∧
                                                                            SX.Ptr q26 fun (a29 : Addr) =>
                                                                              ∃ (i30 : Int),
                                                                                w22.cell? (a29.add (p1.toNat * (1 : Nat))) = some (Value.int IntKind.u8 i30) ∧
                                                                                  (Known
                                                                                      (((w22.setCell { block := w.heap.size, off := (0 : Nat) } (Value.int IntKind.u8 i30)).setCell
                                                                                            { block := w.heap.size, off := (1 : Nat) } (Value.int IntKind.i64 (0 : Int))).setCell
                                                                                        { block := w.heap.size, off := (2 : Nat) } (Value.int IntKind.i64 (0 : Int)))
                                                                                      [(w.heap.size,
                                                                                          [((0 : Nat), Value.int IntKind.u8 i30), ((1 : Nat), Value.int IntKind.i64 (0 : Int)),
                                                                                            ((2 : Nat), Value.int IntKind.i64 (0 : Int))])] →
                                                                                    R (Ending.returned (Value.agg #[Value.int IntKind.u8 i30, Value.int IntKind.i64 (0 : Int), Value.int IntKind.i64 (0 : Int)]))
                                                                                      (((w22.setCell { block := w.heap.size, off := (0 : Nat) } (Value.int IntKind.u8 i30)).setCell
                                                                                            { block := w.heap.size, off := (1 : Nat) } (Value.int IntKind.i64 (0 : Int))).setCell
                                                                                        { block := w.heap.size, off := (2 : Nat) } (Value.int IntKind.i64 (0 : Int))))
                                                              else
                                                                Known
                                                                    (((w22.setCell { block := w.heap.size, off := (0 : Nat) } (Value.int IntKind.u8 (0 : Int))).setCell { block := w.heap.size, off := (1 : Nat) }
                                                                          (Value.int IntKind.i64 i6)).setCell
                                                                      { block := w.heap.size, off := (2 : Nat) } (Value.int IntKind.i64 i7))
                                                                    [(w.heap.size, [((0 : Nat), Value.int IntKind.u8 (0 : Int)), ((1 : Nat), Value.int IntKind.i64 i6), ((2 : Nat), Value.int IntKind.i64 i7)])] →
                                                                  R (Ending.returned (Value.agg #[Value.int IntKind.u8 (0 : Int), Value.int IntKind.i64 i6, Value.int IntKind.i64 i7]))
                                                                    (((w22.setCell { block := w.heap.size, off := (0 : Nat) } (Value.int IntKind.u8 (0 : Int))).setCell { block := w.heap.size, off := (1 : Nat) }
                                                                          (Value.int IntKind.i64 i6)).setCell
                                                                      { block := w.heap.size, off := (2 : Nat) } (Value.int IntKind.i64 i7)))
                                  else
                                    Known
                                        (((w5.setCell { block := w.heap.size, off := (0 : Nat) } (Value.int IntKind.u8 (0 : Int))).setCell { block := w.heap.size, off := (1 : Nat) } (Value.int IntKind.i64 i6)).setCell
                                          { block := w.heap.size, off := (2 : Nat) } (Value.int IntKind.i64 i7))
                                        [(w.heap.size, [((0 : Nat), Value.int IntKind.u8 (0 : Int)), ((1 : Nat), Value.int IntKind.i64 i6), ((2 : Nat), Value.int IntKind.i64 i7)])] →
                                      R (Ending.returned (Value.agg #[Value.int IntKind.u8 (0 : Int), Value.int IntKind.i64 i6, Value.int IntKind.i64 i7]))
                                        (((w5.setCell { block := w.heap.size, off := (0 : Nat) } (Value.int IntKind.u8 (0 : Int))).setCell { block := w.heap.size, off := (1 : Nat) } (Value.int IntKind.i64 i6)).setCell
                                          { block := w.heap.size, off := (2 : Nat) } (Value.int IntKind.i64 i7))
                                else
                                  Known
                                      (((w5.setCell { block := w.heap.size, off := (0 : Nat) } (Value.int IntKind.u8 (0 : Int))).setCell { block := w.heap.size, off := (1 : Nat) } (Value.int IntKind.i64 i6)).setCell
                                        { block := w.heap.size, off := (2 : Nat) } (Value.int IntKind.i64 i7))
                                      [(w.heap.size, [((0 : Nat), Value.int IntKind.u8 (0 : Int)), ((1 : Nat), Value.int IntKind.i64 i6), ((2 : Nat), Value.int IntKind.i64 i7)])] →
                                    R (Ending.returned (Value.agg #[Value.int IntKind.u8 (0 : Int), Value.int IntKind.i64 i6, Value.int IntKind.i64 i7]))
                                      (((w5.setCell { block := w.heap.size, off := (0 : Nat) } (Value.int IntKind.u8 (0 : Int))).setCell { block := w.heap.size, off := (1 : Nat) } (Value.int IntKind.i64 i6)).setCell
                                        { block := w.heap.size, off := (2 : Nat) } (Value.int IntKind.i64 i7)))
theorem vcTry53 (p0 : Option Addr) (p1 : Int) (w : World) (R : Ending → World → Prop) : SX.vcFn Try.prog [] Try.f53 [.v (.pointer p0), .v (.int .i64 p1)] [] w R = VCTry53 p0 p1 w R := by kernel_rfl
def VCTry31 (p0 : Option Addr) (n0 c0 : Nat) (p1 : Int) (w : World) (R : Ending → World → Prop) : Prop :=
Rets Try.prog (35 : Nat) #[Value.slice p0 n0 c0, Value.int IntKind.i64 p1] w fun (v0 : Value) (w1 : World) =>
  ∃ (v2 : Value),
    v0 = v2 ∧
      Keeps w w1 [] ∧
        Rets Try.prog (51 : Nat) #[v2] w1 fun (v3 : Value) (w4 : World) => ∃ (q5 : Option Addr), ∃ (n6 : Nat), ∃ (n7 : Nat), v3 = Value.slice q5 n6 n7 ∧ Keeps w1 w4 [] ∧ R (Ending.returned (Value.slice q5 n6 n7)) w4
theorem vcTry31 (p0 : Option Addr) (n0 c0 : Nat) (p1 : Int) (w : World) (R : Ending → World → Prop) : SX.vcFn Try.prog [] Try.f31 [.v (.slice p0 n0 c0), .v (.int .i64 p1)] [] w R = VCTry31 p0 n0 c0 p1 w R := by kernel_rfl
def VCTry51 (p0 : Value) (w : World) (R : Ending → World → Prop) : Prop :=
Rets Try.prog (62 : Nat) #[Value.slice none (0 : Nat) (0 : Nat), p0] w fun (v0 : Value) (w1 : World) =>
  ∃ (q2 : Option Addr), ∃ (n3 : Nat), ∃ (n4 : Nat), v0 = Value.slice q2 n3 n4 ∧ Keeps w w1 [] ∧ R (Ending.returned (Value.slice q2 n3 n4)) w1
theorem vcTry51 (p0 : Value) (w : World) (R : Ending → World → Prop) : SX.vcFn Try.prog [] Try.f51 [.v p0] [] w R = VCTry51 p0 w R := by kernel_rfl
def VCTry62 (p0 : Option Addr) (n0 c0 : Nat) (p1 : Value) (w : World) (R : Ending → World → Prop) : Prop :=
Known (w.alloc (Obj.cells #[Value.slice p0 n0 c0] (42 : Nat))) [(w.heap.size, [((0 : Nat), Value.slice p0 n0 c0)])] →
  ∀ (I0 : LoopState → Option Code → Obj),
    (∀ (x1 : LoopState) (q2 : Option Code), (I0 x1 q2).isCells = false) →
      (∀ (i3 i4 i5 : Int) (q6 : Option Addr) (n7 n8 : Nat) (w9 : World) (I10 : Value → World → Prop),
          w9.heap[(w.alloc (Obj.cells #[Value.slice p0 n0 c0] (42 : Nat))).heap.size + (1 : Nat)]? = some (I0 LoopState.ready none) →
            Known w9 [(w.heap.size, [((0 : Nat), Value.slice q6 n7 n8)])] →
              (((((w9.alloc (Obj.cells #[Value.int IntKind.u8 (0 : Int), Value.int IntKind.i64 (0 : Int), Value.int IntKind.i64 (0 : Int)] (49 : Nat))).setCell { block := w9.heap.size, off := (0 : Nat) }
                                  (Value.int IntKind.u8 i3)).setCell
                              { block := w9.heap.size, off := (1 : Nat) } (Value.int IntKind.i64 i4)).setCell
                          { block := w9.heap.size, off := (2 : Nat) } (Value.int IntKind.i64 i5)).heap[(w.alloc (Obj.cells #[Value.slice p0 n0 c0] (42 : Nat))).heap.size + (1 : Nat)]? =
                    some (I0 LoopState.ready none) ∧
                  Runs Try.prog
                    (Builtin.append_ #[(42 : Nat), (42 : Nat)] (42 : Nat)
                      #[Value.slice q6 n7 n8,
                        Value.slice
                          (some
                            {
                              block :=
                                (((((w9.alloc (Obj.cells #[Value.int IntKind.u8 (0 : Int), Value.int IntKind.i64 (0 : Int), Value.int IntKind.i64 (0 : Int)] (49 : Nat))).setCell
                                                  { block := w9.heap.size, off := (0 : Nat) } (Value.int IntKind.u8 i3)).setCell
                                              { block := w9.heap.size, off := (1 : Nat) } (Value.int IntKind.i64 i4)).setCell
                                          { block := w9.heap.size, off := (2 : Nat) } (Value.int IntKind.i64 i5)).putObj
                                      ((w.alloc (Obj.cells #[Value.slice p0 n0 c0] (42 : Nat))).heap.size + (1 : Nat)) (I0 LoopState.busy none)).heap.size,
                              off := (0 : Nat) })
                          (1 : Nat) (1 : Nat)])
                    ((((((w9.alloc (Obj.cells #[Value.int IntKind.u8 (0 : Int), Value.int IntKind.i64 (0 : Int), Value.int IntKind.i64 (0 : Int)] (49 : Nat))).setCell { block := w9.heap.size, off := (0 : Nat) }
                                      (Value.int IntKind.u8 i3)).setCell
                                  { block := w9.heap.size, off := (1 : Nat) } (Value.int IntKind.i64 i4)).setCell
                              { block := w9.heap.size, off := (2 : Nat) } (Value.int IntKind.i64 i5)).putObj
                          ((w.alloc (Obj.cells #[Value.slice p0 n0 c0] (42 : Nat))).heap.size + (1 : Nat)) (I0 LoopState.busy none)).alloc
                      (Obj.cells #[Value.int IntKind.u8 i3, Value.int IntKind.i64 i4, Value.int IntKind.i64 i5] (49 : Nat)))
                    fun (v15 : Value) (w16 : World) =>
                    ∃ (q17 : Option Addr),
                      ∃ (n18 : Nat),
                        ∃ (n19 : Nat),
                          v15 = Value.slice q17 n18 n19 ∧
                            Keeps
                                ((((((w9.alloc (Obj.cells #[Value.int IntKind.u8 (0 : Int), Value.int IntKind.i64 (0 : Int), Value.int IntKind.i64 (0 : Int)] (49 : Nat))).setCell
                                                  { block := w9.heap.size, off := (0 : Nat) } (Value.int IntKind.u8 i3)).setCell
                                              { block := w9.heap.size, off := (1 : Nat) } (Value.int IntKind.i64 i4)).setCell
                                          { block := w9.heap.size, off := (2 : Nat) } (Value.int IntKind.i64 i5)).putObj
                                      ((w.alloc (Obj.cells #[Value.slice p0 n0 c0] (42 : Nat))).heap.size + (1 : Nat)) (I0 LoopState.busy none)).alloc
                                  (Obj.cells #[Value.int IntKind.u8 i3, Value.int IntKind.i64 i4, Value.int IntKind.i64 i5] (49 : Nat)))
                                w16 [w.heap.size, w9.heap.size] ∧
                              (Known (w16.setCell { block := w.heap.size, off := (0 : Nat) } (Value.slice q17 n18 n19))
                                  [(w.heap.size, [((0 : Nat), Value.slice q17 n18 n19)]),
                                    (w9.heap.size, [((0 : Nat), Value.int IntKind.u8 i3), ((1 : Nat), Value.int IntKind.i64 i4), ((2 : Nat), Value.int IntKind.i64 i5)])] →
                                (w16.setCell { block := w.heap.size, off := (0 : Nat) } (Value.slice q17 n18 n19)).heap[(w.alloc (Obj.cells #[Value.slice p0 n0 c0] (42 : Nat))).heap.size + (1 : Nat)]? =
                                    some (I0 LoopState.busy none) ∧
                                  I10 (Value.bool true)
                                    ((w16.setCell { block := w.heap.size, off := (0 : Nat) } (Value.slice q17 n18 n19)).putObj ((w.alloc (Obj.cells #[Value.slice p0 n0 c0] (42 : Nat))).heap.size + (1 : Nat))
                                      (I0 LoopState.ready none)))) →
                CallsVal Try.prog (Value.func (Fn.yield ((w.alloc (Obj.cells #[Value.slice p0 n0 c0] (42 : Nat))).heap.size + (1 : Nat))) #[] #[])
                  #[Value.agg #[Value.int IntKind.u8 i3, Value.int IntKind.i64 i4, Value.int IntKind.i64 i5]] w9 I10) →
        RangeVal Try.prog p1 (Value.func (Fn.yield ((w.alloc (Obj.cells #[Value.slice p0 n0 c0] (42 : Nat))).heap.size + (1 : Nat))) #[] #[])
          (((w.alloc (Obj.cells #[Value.slice p0 n0 c0] (42 : Nat))).alloc (Obj.deferred (some []))).alloc (I0 LoopState.ready none)) fun (w22 : World) =>
          ∃ (q23 : Option Addr),
            ∃ (n24 : Nat),
              ∃ (n25 : Nat),
                Known w22 [(w.heap.size, [((0 : Nat), Value.slice q23 n24 n25)])] ∧
                  w22.heap[(w.alloc (Obj.cells #[Value.slice p0 n0 c0] (42 : Nat))).heap.size + (1 : Nat)]? = some (I0 LoopState.ready none) ∧
                    (Known (w22.putObj ((w.alloc (Obj.cells #[Value.slice p0 n0 c0] (42 : Nat))).heap.size + (1 : Nat)) (I0 LoopState.exhausted none)) [(w.heap.size, [((0 : Nat), Value.slice q23 n24 n25)])] →
                      (w22.putObj ((w.alloc (Obj.cells #[Value.slice p0 n0 c0] (42 : Nat))).heap.size + (1 : Nat))
                                (I0 LoopState.exhausted none)).heap[(w.alloc (Obj.cells #[Value.slice p0 n0 c0] (42 : Nat))).heap.size]? =
                          some (Obj.deferred (some [])) ∧
                        R (Ending.returned (Value.slice q23 n24 n25))
                          ((w22.putObj ((w.alloc (Obj.cells #[Value.slice p0 n0 c0] (42 : Nat))).heap.size + (1 : Nat)) (I0 LoopState.exhausted none)).putObj
                            (w.alloc (Obj.cells #[Value.slice p0 n0 c0] (42 : Nat))).heap.size (Obj.deferred none)))
theorem vcTry62 (p0 : Option Addr) (n0 c0 : Nat) (p1 : Value) (w : World) (R : Ending → World → Prop) : SX.vcFn Try.prog [(3, ⟨[(7, .agg [.u8, .i64, .i64])], [], [(0, 0, .slice)]⟩)] Try.f62 [.v (.slice p0 n0 c0), .v p1] [] w R = VCTry62 p0 n0 c0 p1 w R := by kernel_rfl
def VCTry9 (p0 : Option Addr) (n0 c0 : Nat) (p1 : Int) (w : World) (R : Ending → World → Prop) : Prop :=
bif decide ((↑n0 : Int) > (700 : Int)) then Rets Try.prog (29 : Nat) #[] w fun (v0 : Value) (w1 : World) => ∃ (t2 : Bool), v0 = Value.bool t2 ∧ Keeps w w1 [] ∧ R (Ending.returned (Value.bool t2)) w1
else
  Rets Try.prog (31 : Nat) #[Value.slice p0 n0 c0, Value.int IntKind.i64 p1] w fun (v3 : Value) (w4 : World) =>
    ∃ (q5 : Option Addr),
      ∃ (n6 : Nat),
        ∃ (n7 : Nat),
          v3 = Value.slice q5 n6 n7 ∧
            Keeps w w4 [] ∧
              Rets Try.prog (32 : Nat) #[Value.slice p0 n0 c0, Value.int IntKind.i64 p1] w4 fun (v8 : Value) (w9 : World) =>
                ∃ (q10 : Option Addr),
                  ∃ (n11 : Nat),
                    ∃ (n12 : Nat),
                      v8 = Value.slice q10 n11 n12 ∧
                        Keeps w4 w9 [] ∧
                          Rets Try.prog (30 : Nat) #[Value.slice q5 n6 n7, Value.slice q10 n11 n12] w9 fun (v13 : Value) (w14 : World) =>
                            ∃ (t15 : Bool),
                              v13 = Value.bool t15 ∧
                                Keeps w9 w14 [] ∧
                                  bif t15 then
                                    Rets Try.prog (33 : Nat) #[Value.int IntKind.i64 p1] w14 fun (v16 : Value) (w17 : World) =>
                                      ∃ (i18 : Int),
                                        v16 = Value.int IntKind.i64 i18 ∧
                                          Keeps w14 w17 [] ∧
                                            Rets Try.prog (34 : Nat) #[Value.int IntKind.i64 p1] w17 fun (v19 : Value) (w20 : World) =>
                                              ∃ (i21 : Int),
                                                v19 = Value.int IntKind.i64 i21 ∧
                                                  Keeps w17 w20 [] ∧
                                                    bif i18 == i21 then
                                                      Rets Try.prog (29 : Nat) #[] w20 fun (v22 : Value) (w23 : World) => ∃ (t24 : Bool), v22 = Value.bool t24 ∧ Keeps w20 w23 [] ∧ R (Ending.returned (Value.bool t24)) w23
                                                    else R (Ending.returned (Value.bool false)) w20
                                  else R (Ending.returned (Value.bool false)) w14
theorem vcTry9 (p0 : Option Addr) (n0 c0 : Nat) (p1 : Int) (w : World) (R : Ending → World → Prop) : SX.vcFn Try.prog [] Try.f9 [.v (.slice p0 n0 c0), .v (.int .i64 p1)] [] w R = VCTry9 p0 n0 c0 p1 w R := by kernel_rfl
def VCTry29 (w : World) (R : Ending → World → Prop) : Prop :=
Runs Try.prog (convert (25 : Nat) (25 : Nat) (Value.slice (some { block := w.heap.size, off := (0 : Nat) }) (4 : Nat) (4 : Nat)))
  (w.alloc (Obj.cells #[Value.int IntKind.u8 (97 : Int), Value.int IntKind.u8 (97 : Int), Value.int IntKind.u8 (97 : Int), Value.int IntKind.u8 (97 : Int)] (5 : Nat))) fun (v0 : Value) (w1 : World) =>
  ∃ (q2 : Option Addr),
    ∃ (n3 : Nat),
      ∃ (n4 : Nat),
        v0 = Value.slice q2 n3 n4 ∧
          Keeps (w.alloc (Obj.cells #[Value.int IntKind.u8 (97 : Int), Value.int IntKind.u8 (97 : Int), Value.int IntKind.u8 (97 : Int), Value.int IntKind.u8 (97 : Int)] (5 : Nat))) w1 [] ∧
            Rets Try.prog (31 : Nat) #[Value.slice q2 n3 n4, Value.int IntKind.i64 (0 : Int)] w1 fun (v5 : Value) (w6 : World) =>
              ∃ (q7 : Option Addr),
                ∃ (n8 : Nat),
                  ∃ (n9 : Nat),
                    v5 = Value.slice q7 n8 n9 ∧
                      Keeps w1 w6 [] ∧
                        bif (↑n8 : Int) == (2 : Int) then
                          ((0 : Int) ≤ (0 : Int) ∧ (0 : Int) < (↑n8 : Int)) ∧
                            SX.Ptr q7 fun (a10 : Addr) =>
                              ∃ (i11 : Int),
                                ∃ (i12 : Int),
                                  ∃ (i13 : Int),
                                    (w6.cell? ((a10.add (0 : Nat)).add (0 : Nat)) = some (Value.int IntKind.u8 i11) ∧
                                        w6.cell? ((a10.add (0 : Nat)).add (1 : Nat)) = some (Value.int IntKind.i64 i12) ∧ w6.cell? ((a10.add (0 : Nat)).add (2 : Nat)) = some (Value.int IntKind.i64 i13) ∧ True) ∧
                                      true = true ∧
                                        bif i11 == (97 : Int) && (i12 == (0 : Int) && i13 == (0 : Int)) then
                                          ((0 : Int) ≤ (1 : Int) ∧ (1 : Int) < (↑n8 : Int)) ∧
                                            SX.Ptr q7 fun (a14 : Addr) =>
                                              ∃ (i15 : Int),
                                                ∃ (i16 : Int),
                                                  ∃ (i17 : Int),
                                                    (w6.cell? ((a14.add (3 : Nat)).add (0 : Nat)) = some (Value.int IntKind.u8 i15) ∧
                                                        w6.cell? ((a14.add (3 : Nat)).add (1 : Nat)) = some (Value.int IntKind.i64 i16) ∧
                                                          w6.cell? ((a14.add (3 : Nat)).add (2 : Nat)) = some (Value.int IntKind.i64 i17) ∧ True) ∧
                                                      true = true ∧ R (Ending.returned (Value.bool (i15 == (0 : Int) && (i16 == (3 : Int) && i17 == (1 : Int))))) w6
                                        else R (Ending.returned (Value.bool false)) w6
                        else R (Ending.returned (Value.bool false)) w6
theorem vcTry29 (w : World) (R : Ending → World → Prop) : SX.vcFn Try.prog [] Try.f29 [] [] w R = VCTry29  w R := by kernel_rfl
end Go.Proofs.Ytodgnegbaigdbaa
