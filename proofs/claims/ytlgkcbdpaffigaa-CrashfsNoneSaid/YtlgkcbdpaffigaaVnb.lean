/- The conditions of functions, as the executor computes them: each is equal to what 'vcFn' says. -/
import Derived.Test.YtlgkcbdpaffigaaSxLib
import Derived.Test.YtlgkcbdpaffigaaProg
namespace Go.Proofs.Ytlgkcbdpaffigaa
open Go Go.SX Go.Proofs
set_option maxRecDepth 100000
set_option linter.unusedVariables false
def VCTry35 (p0 : Option Addr) (n0 c0 : Nat) (w : World) (R : Ending → World → Prop) : Prop :=
∃ (I0 : Int → World → Prop),
 ∃ (I1 : Int → World → Nat),
  I0 (0 : Int) w ∧
   ∀ (i2 : Int) (w3 : World),
    I0 i2 w3 →
     bif decide (i2 < (↑n0 : Int)) then
      bif decide (i2 < (100 : Int)) then
       ((0 : Int) ≤ i2 ∧ i2 < (↑n0 : Int)) ∧
        SX.Ptr p0 fun (a4 : Addr) =>
         ∃ (s5 : ByteArray),
          w3.cell? ((a4.add (i2.toNat * (4 : Nat))).add (1 : Nat)) = some (Value.string s5) ∧
           bif decide ((↑s5.size : Int) > (300 : Int)) then R (Ending.returned (Value.bool true)) w3
           else
            ((0 : Int) ≤ i2 ∧ i2 < (↑n0 : Int)) ∧
             SX.Ptr p0 fun (a6 : Addr) =>
              ∃ (s7 : ByteArray),
               w3.cell? ((a6.add (i2.toNat * (4 : Nat))).add (2 : Nat)) = some (Value.string s7) ∧
                bif decide ((↑s7.size : Int) > (300 : Int)) then R (Ending.returned (Value.bool true)) w3 else Wr IntKind.i64 (i2 + (1 : Int)) fun (i8 : Int) => I0 i8 w3 ∧ I1 i8 w3 < I1 i2 w3
      else R (Ending.returned (Value.bool (decide ((↑n0 : Int) > (60 : Int))))) w3
     else R (Ending.returned (Value.bool (decide ((↑n0 : Int) > (60 : Int))))) w3
theorem vcTry35 (p0 : Option Addr) (n0 c0 : Nat) (w : World) (R : Ending → World → Prop) : SX.vcFn Try.prog [(2, ⟨[(3, .int .i64)], [0], []⟩)] Try.f35 [.v (.slice p0 n0 c0)] [] w R = VCTry35 p0 n0 c0 w R := by kernel_rfl
def VCTry36 (w : World) (R : Ending → World → Prop) : Prop :=
Known (w.alloc (Obj.cells #[Value.map none, Value.map none, Value.slice none (0 : Nat) (0 : Nat)] (79 : Nat)))
 [(w.heap.size, [((0 : Nat), Value.map none), ((1 : Nat), Value.map none), ((2 : Nat), Value.slice none (0 : Nat) (0 : Nat))])] →
 Rets Try.prog (47 : Nat) #[Value.pointer (some { block := w.heap.size, off := (0 : Nat) }), Value.string { data := #[(97 : UInt8)] }, Value.int IntKind.i64 (1 : Int)]
 (w.alloc (Obj.cells #[Value.map none, Value.map none, Value.slice none (0 : Nat) (0 : Nat)] (79 : Nat))) fun (v0 : Value) (w1 : World) =>
 ∃ (i2 : Int),
 v0 = Value.int IntKind.i64 i2 ∧
 Keeps (w.alloc (Obj.cells #[Value.map none, Value.map none, Value.slice none (0 : Nat) (0 : Nat)] (79 : Nat))) w1 [] ∧
 ∃ (q3 : Option Nat),
 w1.cell? { block := w.heap.size, off := (0 : Nat) } = some (Value.map q3) ∧
 w1.frozen? { block := w.heap.size, off := (0 : Nat) } = false ∧
 ∃ (q4 : Option Nat),
 w1.cell? { block := w.heap.size, off := (1 : Nat) } = some (Value.map q4) ∧
 w1.frozen? { block := w.heap.size, off := (1 : Nat) } = false ∧
 ∃ (q5 : Option Addr),
 ∃ (n6 : Nat),
 ∃ (n7 : Nat),
 w1.cell? { block := w.heap.size, off := (2 : Nat) } = some (Value.slice q5 n6 n7) ∧
 w1.frozen? { block := w.heap.size, off := (2 : Nat) } = false ∧
 (Known w1 [(w.heap.size, [((0 : Nat), Value.map q3), ((1 : Nat), Value.map q4), ((2 : Nat), Value.slice q5 n6 n7)])] →
 Rets Try.prog (43 : Nat) #[Value.pointer (some { block := w.heap.size, off := (0 : Nat) }), Value.string { data := #[(97 : UInt8)] }, Value.string { data := #[(98 : UInt8)] }] w1
 fun (v8 : Value) (w9 : World) =>
 ∃ (i10 : Int),
 v8 = Value.int IntKind.i64 i10 ∧
 Keeps w1 w9 [] ∧
 ∃ (q11 : Option Nat),
 w9.cell? { block := w.heap.size, off := (0 : Nat) } = some (Value.map q11) ∧
 w9.frozen? { block := w.heap.size, off := (0 : Nat) } = false ∧
 ∃ (q12 : Option Nat),
 w9.cell? { block := w.heap.size, off := (1 : Nat) } = some (Value.map q12) ∧
 w9.frozen? { block := w.heap.size, off := (1 : Nat) } = false ∧
 ∃ (q13 : Option Addr),
 ∃ (n14 : Nat),
 ∃ (n15 : Nat),
 w9.cell? { block := w.heap.size, off := (2 : Nat) } = some (Value.slice q13 n14 n15) ∧
 w9.frozen? { block := w.heap.size, off := (2 : Nat) } = false ∧
 (Known w9 [(w.heap.size, [((0 : Nat), Value.map q11), ((1 : Nat), Value.map q12), ((2 : Nat), Value.slice q13 n14 n15)])] →
 Rets Try.prog (39 : Nat) #[Value.pointer (some { block := w.heap.size, off := (0 : Nat) })] w9 fun (v16 : Value) (w17 : World) =>
 ∃ (q18 : Option Addr),
 ∃ (n19 : Nat),
 ∃ (n20 : Nat),
 v16 = Value.slice q18 n19 n20 ∧
 Keeps w9 w17 [] ∧
 ∃ (q21 : Option Nat),
 w17.cell? { block := w.heap.size, off := (0 : Nat) } = some (Value.map q21) ∧
 w17.frozen? { block := w.heap.size, off := (0 : Nat) } = false ∧
 ∃ (q22 : Option Nat),
 w17.cell? { block := w.heap.size, off := (1 : Nat) } = some (Value.map q22) ∧
 w17.frozen? { block := w.heap.size, off := (1 : Nat) } = false ∧
 ∃ (q23 : Option Addr),
 ∃ (n24 : Nat),
 ∃ (n25 : Nat),
 w17.cell? { block := w.heap.size, off := (2 : Nat) } = some (Value.slice q23 n24 n25) ∧
 w17.frozen? { block := w.heap.size, off := (2 : Nat) } = false ∧
 (Known w17
 [(w.heap.size, [((0 : Nat), Value.map q21), ((1 : Nat), Value.map q22), ((2 : Nat), Value.slice q23 n24 n25)])] →
 Rets Try.prog (40 : Nat)
 #[Value.pointer (some { block := w.heap.size, off := (0 : Nat) }), Value.int IntKind.i64 (1 : Int)] w17
 fun (v26 : Value) (w27 : World) =>
 v26 = Value.tuple #[] ∧
 Keeps w17 w27 [] ∧
 ∃ (q28 : Option Nat),
 w27.cell? { block := w.heap.size, off := (0 : Nat) } = some (Value.map q28) ∧
 w27.frozen? { block := w.heap.size, off := (0 : Nat) } = false ∧
 ∃ (q29 : Option Nat),
 w27.cell? { block := w.heap.size, off := (1 : Nat) } = some (Value.map q29) ∧
 w27.frozen? { block := w.heap.size, off := (1 : Nat) } = false ∧
 ∃ (q30 : Option Addr),
 ∃ (n31 : Nat),
 ∃ (n32 : Nat),
 w27.cell? { block := w.heap.size, off := (2 : Nat) } = some (Value.slice q30 n31 n32) ∧
 w27.frozen? { block := w.heap.size, off := (2 : Nat) } = false ∧
 (Known w27
 [(w.heap.size,
 [((0 : Nat), Value.map q28), ((1 : Nat), Value.map q29),
 ((2 : Nat), Value.slice q30 n31 n32)])] →
 Rets Try.prog (39 : Nat)
 #[Value.pointer (some { block := w.heap.size, off := (0 : Nat) })] w27
 fun (v33 : Value) (w34 : World) =>
 ∃ (q35 : Option Addr),
 ∃ (n36 : Nat),
 ∃ (n37 : Nat),
 v33 = Value.slice q35 n36 n37 ∧
 Keeps w27 w34 [] ∧
 ∃ (q38 : Option Nat),
 w34.cell? { block := w.heap.size, off := (0 : Nat) } =
 some (Value.map q38) ∧
 w34.frozen? { block := w.heap.size, off := (0 : Nat) } = false ∧
 ∃ (q39 : Option Nat),
 w34.cell? { block := w.heap.size, off := (1 : Nat) } =
 some (Value.map q39) ∧
 w34.frozen? { block := w.heap.size, off := (1 : Nat) } = false ∧
 ∃ (q40 : Option Addr),
 ∃ (n41 : Nat),
 ∃ (n42 : Nat),
 w34.cell? { block := w.heap.size, off := (2 : Nat) } =
 some (Value.slice q40 n41 n42) ∧
 w34.frozen? { block := w.heap.size, off := (2 : Nat) } =
 false ∧
 bif (↑n19 : Int) == (1 : Int) then
 ((0 : Int) ≤ (0 : Int) ∧ (0 : Int) < (↑n19 : Int)) ∧
 SX.Ptr q18 fun (a43 : Addr) =>
 ∃ (s44 : ByteArray),
 w34.cell? (a43.add (0 : Nat)) =
 some (Value.string s44) ∧
 bif
 s44.toList ==
 ({ data := #[(98 : UInt8)] } : ByteArray).toList then
 bif (↑n36 : Int) == (1 : Int) then
 ((0 : Int) ≤ (0 : Int) ∧
 (0 : Int) < (↑n36 : Int)) ∧
 SX.Ptr q35 fun (a45 : Addr) =>
 ∃ (s46 : ByteArray),
 w34.cell? (a45.add (0 : Nat)) =
 some (Value.string s46) ∧
 (Known w34
 [(w.heap.size,
 [((0 : Nat),
 Value.map q38),
 ((1 : Nat),
 Value.map q39),
 ((2 : Nat),
 Value.slice q40 n41
 n42)])] →
 R
 (Ending.returned
 (Value.bool
 (s46.toList ==
 ({ data := #[(97 : UInt8)] } : ByteArray).toList)))
 w34)
 else
 Known w34
 [(w.heap.size,
 [((0 : Nat), Value.map q38),
 ((1 : Nat), Value.map q39),
 ((2 : Nat),
 Value.slice q40 n41
 n42)])] →
 R (Ending.returned (Value.bool false))
 w34
 else
 Known w34
 [(w.heap.size,
 [((0 : Nat), Value.map q38),
 ((1 : Nat), Value.map q39),
 ((2 : Nat),
 Value.slice q40 n41 n42)])] →
 R (Ending.returned (Value.bool false))
 w34
 else
 Known w34
 [(w.heap.size,
 [((0 : Nat), Value.map q38),
 ((1 : Nat), Value.map q39),
 ((2 : Nat), Value.slice q40 n41 n42)])] →
 R (Ending.returned (Value.bool false)) w34))))
theorem vcTry36 (w : World) (R : Ending → World → Prop) : SX.vcFn Try.prog [] Try.f36 [] [] w R = VCTry36  w R := by kernel_rfl
def VCTry45 (p0 : Option Addr) (p1 : Option Addr) (n1 c1 : Nat) (w : World) (R : Ending → World → Prop) : Prop :=
Rets Try.prog (39 : Nat) #[Value.pointer p0] w fun (v0 : Value) (w1 : World) =>
 ∃ (q2 : Option Addr),
  ∃ (n3 : Nat),
   ∃ (n4 : Nat),
    v0 = Value.slice q2 n3 n4 ∧
     Keeps w w1 [] ∧
      bif (↑n3 : Int) != (↑n1 : Int) then R (Ending.returned (Value.bool false)) w1
      else
       ∃ (I5 : Int → World → Prop),
        ∃ (I6 : Int → World → Nat),
         I5 (0 : Int) w1 ∧
          ∀ (i7 : Int) (w8 : World),
           I5 i7 w8 →
            bif decide (i7 < (↑n1 : Int)) then
             ((0 : Int) ≤ i7 ∧ i7 < (↑n3 : Int)) ∧
              SX.Ptr q2 fun (a9 : Addr) =>
               ∃ (s10 : ByteArray),
                w8.cell? (a9.add (i7.toNat * (1 : Nat))) = some (Value.string s10) ∧
                 Rets Try.prog (42 : Nat) #[Value.pointer p0, Value.string s10] w8 fun (v11 : Value) (w12 : World) =>
                  ∃ (i13 : Int),
                   ∃ (t14 : Bool),
                    v11 = Value.tuple #[Value.int IntKind.i64 i13, Value.bool t14] ∧
                     Keeps w8 w12 [] ∧
                      ((0 : Int) ≤ i7 ∧ i7 < (↑n3 : Int)) ∧
                       SX.Ptr q2 fun (a15 : Addr) =>
                        ∃ (s16 : ByteArray),
                         w12.drew.cell? (a15.add (i7.toNat * (1 : Nat))) = some (Value.string s16) ∧
                          ((0 : Int) ≤ i7 ∧ i7 < (↑n1 : Int)) ∧
                           SX.Ptr p1 fun (a17 : Addr) =>
                            ∃ (s18 : ByteArray),
                             w12.drew.cell? ((a17.add (i7.toNat * (2 : Nat))).add (0 : Nat)) = some (Value.string s18) ∧
                              bif !s16.toList == s18.toList then R (Ending.returned (Value.bool false)) w12.drew
                              else
                               ((0 : Int) ≤ i7 ∧ i7 < (↑n1 : Int)) ∧
                                SX.Ptr p1 fun (a19 : Addr) =>
                                 ∃ (i20 : Int),
                                  w12.drew.cell? ((a19.add (i7.toNat * (2 : Nat))).add (1 : Nat)) = some (Value.int IntKind.i64 i20) ∧
                                   bif i13 != i20 then R (Ending.returned (Value.bool false)) w12.drew
                                   else
                                    bif !t14 then R (Ending.returned (Value.bool false)) w12.drew
                                    else Wr IntKind.i64 (i7 + (1 : Int)) fun (i21 : Int) => I5 i21 w12.drew ∧ I6 i21 w12.drew < I6 i7 w8
            else R (Ending.returned (Value.bool true)) w8
theorem vcTry45 (p0 : Option Addr) (p1 : Option Addr) (n1 c1 : Nat) (w : World) (R : Ending → World → Prop) : SX.vcFn Try.prog [(5, ⟨[(6, .int .i64)], [1, 5, 0], []⟩)] Try.f45 [.v (.pointer p0), .v (.slice p1 n1 c1)] [] w R = VCTry45 p0 p1 n1 c1 w R := by kernel_rfl
def VCTry37 (p : Option Addr) (r : Option Addr) (k : Int) (a b : ByteArray) (n : Int) (w : World) (R : Ending → World → Prop) : Prop :=
bif k == (0 : Int) then
 Known (w.alloc (Obj.cells #[Value.int IntKind.i64 k, Value.string a, Value.string b, Value.int IntKind.i64 n] (88 : Nat))).drew
   [(w.heap.size, [((0 : Nat), Value.int IntKind.i64 k), ((1 : Nat), Value.string a), ((2 : Nat), Value.string b), ((3 : Nat), Value.int IntKind.i64 n)])] →
  Rets Try.prog (47 : Nat) #[Value.pointer p, Value.string a, Value.int IntKind.i64 n] (w.alloc (Obj.cells #[Value.int IntKind.i64 k, Value.string a, Value.string b, Value.int IntKind.i64 n] (88 : Nat))).drew
   fun (v0 : Value) (w1 : World) =>
   ∃ (i2 : Int),
    v0 = Value.int IntKind.i64 i2 ∧
     Keeps (w.alloc (Obj.cells #[Value.int IntKind.i64 k, Value.string a, Value.string b, Value.int IntKind.i64 n] (88 : Nat))).drew w1 [w.heap.size] ∧
      w1.cell? { block := w.heap.size, off := (3 : Nat) } = some (Value.int IntKind.i64 n) ∧
       w1.cell? { block := w.heap.size, off := (1 : Nat) } = some (Value.string a) ∧
        (Known w1 [(w.heap.size, [((0 : Nat), Value.int IntKind.i64 k), ((1 : Nat), Value.string a), ((2 : Nat), Value.string b), ((3 : Nat), Value.int IntKind.i64 n)])] →
         Rets Try.prog (78 : Nat) #[Value.pointer r, Value.string a, Value.int IntKind.i64 n] w1 fun (v3 : Value) (w4 : World) =>
          ∃ (i5 : Int),
           v3 = Value.int IntKind.i64 i5 ∧
            Keeps w1 w4 [w.heap.size] ∧
             (Known w4 [(w.heap.size, [((0 : Nat), Value.int IntKind.i64 k), ((1 : Nat), Value.string a), ((2 : Nat), Value.string b), ((3 : Nat), Value.int IntKind.i64 n)])] →
              R (Ending.returned (Value.bool (i2 == i5))) w4))
else
 bif k == (1 : Int) then
  Known (w.alloc (Obj.cells #[Value.int IntKind.i64 k, Value.string a, Value.string b, Value.int IntKind.i64 n] (88 : Nat))).drew
    [(w.heap.size, [((0 : Nat), Value.int IntKind.i64 k), ((1 : Nat), Value.string a), ((2 : Nat), Value.string b), ((3 : Nat), Value.int IntKind.i64 n)])] →
   Rets Try.prog (43 : Nat) #[Value.pointer p, Value.string a, Value.string b] (w.alloc (Obj.cells #[Value.int IntKind.i64 k, Value.string a, Value.string b, Value.int IntKind.i64 n] (88 : Nat))).drew
    fun (v6 : Value) (w7 : World) =>
    ∃ (i8 : Int),
     v6 = Value.int IntKind.i64 i8 ∧
      Keeps (w.alloc (Obj.cells #[Value.int IntKind.i64 k, Value.string a, Value.string b, Value.int IntKind.i64 n] (88 : Nat))).drew w7 [w.heap.size] ∧
       w7.cell? { block := w.heap.size, off := (2 : Nat) } = some (Value.string b) ∧
        w7.cell? { block := w.heap.size, off := (1 : Nat) } = some (Value.string a) ∧
         (Known w7 [(w.heap.size, [((0 : Nat), Value.int IntKind.i64 k), ((1 : Nat), Value.string a), ((2 : Nat), Value.string b), ((3 : Nat), Value.int IntKind.i64 n)])] →
          Rets Try.prog (79 : Nat) #[Value.pointer r, Value.string a, Value.string b] w7 fun (v9 : Value) (w10 : World) =>
           ∃ (i11 : Int),
            v9 = Value.int IntKind.i64 i11 ∧
             Keeps w7 w10 [w.heap.size] ∧
              (Known w10 [(w.heap.size, [((0 : Nat), Value.int IntKind.i64 k), ((1 : Nat), Value.string a), ((2 : Nat), Value.string b), ((3 : Nat), Value.int IntKind.i64 n)])] →
               R (Ending.returned (Value.bool (i8 == i11))) w10))
 else
  bif k == (2 : Int) then
   Known (w.alloc (Obj.cells #[Value.int IntKind.i64 k, Value.string a, Value.string b, Value.int IntKind.i64 n] (88 : Nat))).drew
     [(w.heap.size, [((0 : Nat), Value.int IntKind.i64 k), ((1 : Nat), Value.string a), ((2 : Nat), Value.string b), ((3 : Nat), Value.int IntKind.i64 n)])] →
    Rets Try.prog (48 : Nat) #[Value.pointer p, Value.string a] (w.alloc (Obj.cells #[Value.int IntKind.i64 k, Value.string a, Value.string b, Value.int IntKind.i64 n] (88 : Nat))).drew
     fun (v12 : Value) (w13 : World) =>
     ∃ (i14 : Int),
      v12 = Value.int IntKind.i64 i14 ∧
       Keeps (w.alloc (Obj.cells #[Value.int IntKind.i64 k, Value.string a, Value.string b, Value.int IntKind.i64 n] (88 : Nat))).drew w13 [w.heap.size] ∧
        w13.cell? { block := w.heap.size, off := (1 : Nat) } = some (Value.string a) ∧
         (Known w13 [(w.heap.size, [((0 : Nat), Value.int IntKind.i64 k), ((1 : Nat), Value.string a), ((2 : Nat), Value.string b), ((3 : Nat), Value.int IntKind.i64 n)])] →
          Rets Try.prog (80 : Nat) #[Value.pointer r, Value.string a] w13 fun (v15 : Value) (w16 : World) =>
           ∃ (i17 : Int),
            v15 = Value.int IntKind.i64 i17 ∧
             Keeps w13 w16 [w.heap.size] ∧
              (Known w16 [(w.heap.size, [((0 : Nat), Value.int IntKind.i64 k), ((1 : Nat), Value.string a), ((2 : Nat), Value.string b), ((3 : Nat), Value.int IntKind.i64 n)])] →
               R (Ending.returned (Value.bool (i14 == i17))) w16))
  else
   bif k == (3 : Int) then
    Known (w.alloc (Obj.cells #[Value.int IntKind.i64 k, Value.string a, Value.string b, Value.int IntKind.i64 n] (88 : Nat)))
      [(w.heap.size, [((0 : Nat), Value.int IntKind.i64 k), ((1 : Nat), Value.string a), ((2 : Nat), Value.string b), ((3 : Nat), Value.int IntKind.i64 n)])] →
     Rets Try.prog (38 : Nat) #[Value.pointer p] (w.alloc (Obj.cells #[Value.int IntKind.i64 k, Value.string a, Value.string b, Value.int IntKind.i64 n] (88 : Nat))) fun (v18 : Value) (w19 : World) =>
      v18 = Value.tuple #[] ∧
       Keeps (w.alloc (Obj.cells #[Value.int IntKind.i64 k, Value.string a, Value.string b, Value.int IntKind.i64 n] (88 : Nat))) w19 [w.heap.size] ∧
        SX.Ptr r fun (a20 : Addr) =>
         (∃ (v21 : Value), w19.cell? ((a20.add (1 : Nat)).add (0 : Nat)) = some v21) ∧
          w19.frozen? ((a20.add (1 : Nat)).add (0 : Nat)) = false ∧
           Apart ((a20.add (1 : Nat)).add (0 : Nat)) w.heap.size [(0 : Nat), (1 : Nat), (2 : Nat), (3 : Nat)] ∧
            (Known (w19.setCell ((a20.add (1 : Nat)).add (0 : Nat)) (Value.slice none (0 : Nat) (0 : Nat)))
              [(w.heap.size, [((0 : Nat), Value.int IntKind.i64 k), ((1 : Nat), Value.string a), ((2 : Nat), Value.string b), ((3 : Nat), Value.int IntKind.i64 n)])] →
             R (Ending.returned (Value.bool true)) (w19.setCell ((a20.add (1 : Nat)).add (0 : Nat)) (Value.slice none (0 : Nat) (0 : Nat))))
   else
    Known (w.alloc (Obj.cells #[Value.int IntKind.i64 k, Value.string a, Value.string b, Value.int IntKind.i64 n] (88 : Nat)))
      [(w.heap.size, [((0 : Nat), Value.int IntKind.i64 k), ((1 : Nat), Value.string a), ((2 : Nat), Value.string b), ((3 : Nat), Value.int IntKind.i64 n)])] →
     Rets Try.prog (40 : Nat) #[Value.pointer p, Value.int IntKind.i64 n] (w.alloc (Obj.cells #[Value.int IntKind.i64 k, Value.string a, Value.string b, Value.int IntKind.i64 n] (88 : Nat)))
      fun (v22 : Value) (w23 : World) =>
      v22 = Value.tuple #[] ∧
       Keeps (w.alloc (Obj.cells #[Value.int IntKind.i64 k, Value.string a, Value.string b, Value.int IntKind.i64 n] (88 : Nat))) w23 [w.heap.size] ∧
        (Known w23 [(w.heap.size, [((0 : Nat), Value.int IntKind.i64 k), ((1 : Nat), Value.string a), ((2 : Nat), Value.string b), ((3 : Nat), Value.int IntKind.i64 n)])] →
         Rets Try.prog (81 : Nat) #[Value.pointer r, Value.int IntKind.i64 n] w23 fun (v24 : Value) (w25 : World) =>
          v24 = Value.tuple #[] ∧
           Keeps w23 w25 [w.heap.size] ∧
            (Known w25 [(w.heap.size, [((0 : Nat), Value.int IntKind.i64 k), ((1 : Nat), Value.string a), ((2 : Nat), Value.string b), ((3 : Nat), Value.int IntKind.i64 n)])] →
             R (Ending.returned (Value.bool true)) w25))
theorem vcTry37 (p : Option Addr) (r : Option Addr) (k : Int) (a b : ByteArray) (n : Int) (w : World) (R : Ending → World → Prop) : SX.vcFn Try.prog [] Try.f37 [.v (.pointer p), .v (.pointer r), .v (.agg #[.int .i64 k, .string a, .string b, .int .i64 n])] [] w R = VCTry37 p r k a b n w R := by kernel_rfl
end Go.Proofs.Ytlgkcbdpaffigaa
