/- The conditions of functions, as the executor computes them: each is equal to what 'vcFn' says. -/
import Derived.Test.YtbpknjldphckgaaDoorSxLib
import Derived.Test.YtbpknjldphckgaaDoorProg
namespace Go.Proofs.YtbpknjldphckgaaDoor
open Go Go.SX Go.Proofs
set_option maxRecDepth 100000
set_option linter.unusedVariables false
def VCTryd104 (p0 : ByteArray) (w : World) (R : Ending → World → Prop) : Prop :=
bif decide ((↑p0.size : Int) ≤ (64 : Int)) then
 Rets Tryd.prog (154 : Nat) #[Value.string p0, Value.string { data := #[(47 : UInt8)] }] w fun (v0 : Value) (w1 : World) =>
  ∃ (q2 : Option Addr),
   ∃ (n3 : Nat),
    ∃ (n4 : Nat),
     v0 = Value.slice q2 n3 n4 ∧
      Keeps w w1 [] ∧
       Rets Tryd.prog (153 : Nat) #[Value.slice q2 n3 n4, Value.func (Fn.func (155 : Nat)) #[] #[]] w1 fun (v5 : Value) (w6 : World) =>
        ∃ (t7 : Bool), v5 = Value.bool t7 ∧ Keeps w1 w6 [] ∧ R (Ending.returned (Value.bool !t7)) w6
else R (Ending.returned (Value.bool false)) w
theorem vcTryd104 (p0 : ByteArray) (w : World) (R : Ending → World → Prop) : SX.vcFn Tryd.prog [] Tryd.f104 [.v (.string p0)] [] w R = VCTryd104 p0 w R := by kernel_rfl
def VCTryd155 (p0 : ByteArray) (w : World) (R : Ending → World → Prop) : Prop :=
Rets Tryd.prog (156 : Nat) #[Value.string p0] w fun (v0 : Value) (w1 : World) => ∃ (t2 : Bool), v0 = Value.bool t2 ∧ Keeps w w1 [] ∧ R (Ending.returned (Value.bool !t2)) w1
theorem vcTryd155 (p0 : ByteArray) (w : World) (R : Ending → World → Prop) : SX.vcFn Tryd.prog [] Tryd.f155 [.v (.string p0)] [] w R = VCTryd155 p0 w R := by kernel_rfl
def VCTryd156 (p0 : ByteArray) (w : World) (R : Ending → World → Prop) : Prop :=
Runs Tryd.prog (Instr.range (9 : Nat) (Value.string p0)) w fun (v0 : Value) (w1 : World) =>
 ∃ (q2 : Option Addr),
  v0 = Value.pointer q2 ∧
   Keeps w w1 [] ∧
    ∃ (I3 : World → Prop),
     ∃ (I4 : World → Nat),
      I3 w1 ∧
       ∀ (w5 : World),
        I3 w5 →
         Runs Tryd.prog (Instr.next (Value.pointer q2) true (0 : Nat)) w5 fun (v6 : Value) (w7 : World) =>
          (v6 = Value.tuple #[Value.bool false] ∧
            Keeps w5 w7 [] ∧
             bif !p0.toList == ({ data := #[] } : ByteArray).toList then
              bif !p0.toList == ({ data := #[(46 : UInt8)] } : ByteArray).toList then R (Ending.returned (Value.bool !p0.toList == ({ data := #[(46 : UInt8), (46 : UInt8)] } : ByteArray).toList)) w7
              else R (Ending.returned (Value.bool false)) w7
             else R (Ending.returned (Value.bool false)) w7) ∨
           ∃ (i8 : Int),
            ∃ (i9 : Int),
             v6 = Value.tuple #[Value.bool true, Value.int IntKind.i64 i8, Value.int IntKind.i32 i9] ∧
              Keeps w5 w7 [] ∧
               bif decide (i9 < (33 : Int)) then R (Ending.returned (Value.bool false)) w7 else bif decide (i9 > (126 : Int)) then R (Ending.returned (Value.bool false)) w7 else I3 w7 ∧ I4 w7 < I4 w5
theorem vcTryd156 (p0 : ByteArray) (w : World) (R : Ending → World → Prop) : SX.vcFn Tryd.prog [(2, ⟨[], [0, 6], []⟩)] Tryd.f156 [.v (.string p0)] [] w R = VCTryd156 p0 w R := by kernel_rfl
def VCTryd153 (p0 : Option Addr) (n0 c0 : Nat) (p1 : Value) (w : World) (R : Ending → World → Prop) : Prop :=
Rets Tryd.prog (183 : Nat) #[Value.slice p0 n0 c0, p1] w fun (v0 : Value) (w1 : World) => ∃ (i2 : Int), v0 = Value.int IntKind.i64 i2 ∧ Keeps w w1 [] ∧ R (Ending.returned (Value.bool (decide (i2 ≥ (0 : Int))))) w1
theorem vcTryd153 (p0 : Option Addr) (n0 c0 : Nat) (p1 : Value) (w : World) (R : Ending → World → Prop) : SX.vcFn Tryd.prog [] Tryd.f153 [.v (.slice p0 n0 c0), .v p1] [] w R = VCTryd153 p0 n0 c0 p1 w R := by kernel_rfl
def VCTryd183 (p0 : Option Addr) (n0 c0 : Nat) (p1 : Value) (w : World) (R : Ending → World → Prop) : Prop :=
∃ (I0 : Int → World → Prop),
 ∃ (I1 : Int → World → Nat),
  I0 (0 : Int) w ∧
   ∀ (i2 : Int) (w3 : World),
    I0 i2 w3 →
     bif decide (i2 < (↑n0 : Int)) then
      ((0 : Int) ≤ i2 ∧ i2 < (↑n0 : Int)) ∧
       SX.Ptr p0 fun (a4 : Addr) =>
        ∃ (s5 : ByteArray),
         w3.cell? (a4.add (i2.toNat * (1 : Nat))) = some (Value.string s5) ∧
          CallsVal Tryd.prog p1 #[Value.string s5] w3 fun (v6 : Value) (w7 : World) =>
           ∃ (t8 : Bool),
            v6 = Value.bool t8 ∧ Keeps w3 w7 [] ∧ bif t8 then R (Ending.returned (Value.int IntKind.i64 i2)) w7 else Wr IntKind.i64 (i2 + (1 : Int)) fun (i9 : Int) => I0 i9 w7 ∧ I1 i9 w7 < I1 i2 w3
     else R (Ending.returned (Value.int IntKind.i64 (-1 : Int))) w3
theorem vcTryd183 (p0 : Option Addr) (n0 c0 : Nat) (p1 : Value) (w : World) (R : Ending → World → Prop) : SX.vcFn Tryd.prog [(2, ⟨[(8, .int .i64)], [0, 1, 7], []⟩)] Tryd.f183 [.v (.slice p0 n0 c0), .v p1] [] w R = VCTryd183 p0 n0 c0 p1 w R := by kernel_rfl
def VCTryd29 (p0 : ByteArray) (w : World) (R : Ending → World → Prop) : Prop :=
bif decide ((↑p0.size : Int) < (1 : Int)) then R (Ending.returned (Value.bool false)) w
else
 bif decide ((↑p0.size : Int) > (64 : Int)) then R (Ending.returned (Value.bool false)) w
 else
  ∃ (I0 : Int → World → Prop),
   ∃ (I1 : Int → World → Nat),
    I0 (0 : Int) w ∧
     ∀ (i2 : Int) (w3 : World),
      I0 i2 w3 →
       bif decide (i2 < (↑p0.size : Int)) then
        ((0 : Int) ≤ i2 ∧ i2 < (↑p0.size : Int)) ∧
         bif decide (byteAt p0 i2 < (33 : Int)) then R (Ending.returned (Value.bool false)) w3
         else
          ((0 : Int) ≤ i2 ∧ i2 < (↑p0.size : Int)) ∧
           bif decide (byteAt p0 i2 > (126 : Int)) then R (Ending.returned (Value.bool false)) w3 else Wr IntKind.i64 (i2 + (1 : Int)) fun (i4 : Int) => I0 i4 w3 ∧ I1 i4 w3 < I1 i2 w3
       else
        Rets Tryd.prog (107 : Nat) #[Value.string p0] w3 fun (v5 : Value) (w6 : World) =>
         ∃ (q7 : Option Addr),
          ∃ (n8 : Nat),
           ∃ (n9 : Nat),
            v5 = Value.slice q7 n8 n9 ∧
             Keeps w3 w6 [] ∧
              ∃ (I10 : Int → World → Prop),
               ∃ (I11 : Int → World → Nat),
                I10 (0 : Int) w6 ∧
                 ∀ (i12 : Int) (w13 : World),
                  I10 i12 w13 →
                   bif decide (i12 < (↑n8 : Int)) then
                    ((0 : Int) ≤ i12 ∧ i12 < (↑n8 : Int)) ∧
                     SX.Ptr q7 fun (a14 : Addr) =>
                      ∃ (s15 : ByteArray),
                       w13.cell? (a14.add (i12.toNat * (1 : Nat))) = some (Value.string s15) ∧
                        bif s15.toList == ({ data := #[] } : ByteArray).toList then R (Ending.returned (Value.bool false)) w13
                        else
                         ((0 : Int) ≤ i12 ∧ i12 < (↑n8 : Int)) ∧
                          SX.Ptr q7 fun (a16 : Addr) =>
                           ∃ (s17 : ByteArray),
                            w13.cell? (a16.add (i12.toNat * (1 : Nat))) = some (Value.string s17) ∧
                             bif s17.toList == ({ data := #[(46 : UInt8)] } : ByteArray).toList then R (Ending.returned (Value.bool false)) w13
                             else
                              ((0 : Int) ≤ i12 ∧ i12 < (↑n8 : Int)) ∧
                               SX.Ptr q7 fun (a18 : Addr) =>
                                ∃ (s19 : ByteArray),
                                 w13.cell? (a18.add (i12.toNat * (1 : Nat))) = some (Value.string s19) ∧
                                  bif s19.toList == ({ data := #[(46 : UInt8), (46 : UInt8)] } : ByteArray).toList then R (Ending.returned (Value.bool false)) w13
                                  else Wr IntKind.i64 (i12 + (1 : Int)) fun (i20 : Int) => I10 i20 w13 ∧ I11 i20 w13 < I11 i12 w13
                   else R (Ending.returned (Value.bool true)) w13
theorem vcTryd29 (p0 : ByteArray) (w : World) (R : Ending → World → Prop) : SX.vcFn Tryd.prog [(10, ⟨[(5, .int .i64)], [4], []⟩), (4, ⟨[(3, .int .i64)], [0], []⟩)] Tryd.f29 [.v (.string p0)] [] w R = VCTryd29 p0 w R := by kernel_rfl
def VCTryd107 (p0 : ByteArray) (w : World) (R : Ending → World → Prop) : Prop :=
∃ (I0 : Int → Int → Option Addr → Nat → Nat → World → Prop),
 ∃ (I1 : Int → Int → Option Addr → Nat → Nat → World → Nat),
  I0 (0 : Int) (0 : Int) none (0 : Nat) (0 : Nat) w ∧
   ∀ (i2 i3 : Int) (q4 : Option Addr) (n5 n6 : Nat) (w7 : World),
    I0 i2 i3 q4 n5 n6 w7 →
     bif decide (i2 < (↑p0.size : Int)) then
      ((0 : Int) ≤ i2 ∧ i2 < (↑p0.size : Int)) ∧
       bif byteAt p0 i2 == (47 : Int) then
        ((0 : Int) ≤ i2 ∧ i2 ≤ (↑p0.size : Int)) ∧
         ((0 : Int) ≤ i3 ∧ i3 ≤ (↑i2.toNat : Int)) ∧
          Runs Tryd.prog (Builtin.append_ #[(46 : Nat), (46 : Nat)] (46 : Nat) #[Value.slice q4 n5 n6, Value.slice (some { block := w7.heap.size, off := (0 : Nat) }) (1 : Nat) (1 : Nat)])
           (w7.alloc (Obj.cells #[Value.string (p0.extract i3.toNat i2.toNat)] (9 : Nat))) fun (v8 : Value) (w9 : World) =>
           ∃ (q10 : Option Addr),
            ∃ (n11 : Nat),
             ∃ (n12 : Nat),
              v8 = Value.slice q10 n11 n12 ∧
               Keeps (w7.alloc (Obj.cells #[Value.string (p0.extract i3.toNat i2.toNat)] (9 : Nat))) w9 [] ∧
                Wr IntKind.i64 (i2 + (1 : Int)) fun (i13 : Int) => Wr IntKind.i64 (i2 + (1 : Int)) fun (i14 : Int) => I0 i14 i13 q10 n11 n12 w9 ∧ I1 i14 i13 q10 n11 n12 w9 < I1 i2 i3 q4 n5 n6 w7
       else Wr IntKind.i64 (i2 + (1 : Int)) fun (i15 : Int) => I0 i15 i3 q4 n5 n6 w7 ∧ I1 i15 i3 q4 n5 n6 w7 < I1 i2 i3 q4 n5 n6 w7
     else
      ((0 : Int) ≤ i3 ∧ i3 ≤ (↑p0.size : Int)) ∧
       Runs Tryd.prog (Builtin.append_ #[(46 : Nat), (46 : Nat)] (46 : Nat) #[Value.slice q4 n5 n6, Value.slice (some { block := w7.heap.size, off := (0 : Nat) }) (1 : Nat) (1 : Nat)])
        (w7.alloc (Obj.cells #[Value.string (p0.extract i3.toNat p0.size)] (9 : Nat))) fun (v16 : Value) (w17 : World) =>
        ∃ (q18 : Option Addr),
         ∃ (n19 : Nat),
          ∃ (n20 : Nat), v16 = Value.slice q18 n19 n20 ∧ Keeps (w7.alloc (Obj.cells #[Value.string (p0.extract i3.toNat p0.size)] (9 : Nat))) w17 [] ∧ R (Ending.returned (Value.slice q18 n19 n20)) w17
theorem vcTryd107 (p0 : ByteArray) (w : World) (R : Ending → World → Prop) : SX.vcFn Tryd.prog [(4, ⟨[(5, .int .i64), (4, .int .i64), (3, .slice)], [0], []⟩)] Tryd.f107 [.v (.string p0)] [] w R = VCTryd107 p0 w R := by kernel_rfl
def VCTryd27 (p0 : Option Addr) (p1 : ByteArray) (w : World) (R : Ending → World → Prop) : Prop :=
Rets Tryd.prog (104 : Nat) #[Value.string p1] w fun (v0 : Value) (w1 : World) =>
 ∃ (t2 : Bool),
  v0 = Value.bool t2 ∧
   Keeps w w1 [] ∧
    bif !t2 then R (Ending.returned (Value.tuple #[Value.slice none (0 : Nat) (0 : Nat), Value.int IntKind.i64 (6 : Int)])) w1
    else
     Runs Tryd.prog (convert (27 : Nat) (27 : Nat) (Value.slice (some { block := w1.heap.size, off := (0 : Nat) }) (4 : Nat) (4 : Nat)))
      (w1.alloc (Obj.cells #[Value.int IntKind.u8 (84 : Int), Value.int IntKind.u8 (79 : Int), Value.int IntKind.u8 (77 : Int), Value.int IntKind.u8 (66 : Int)] (5 : Nat))) fun (v3 : Value) (w4 : World) =>
      ∃ (q5 : Option Addr),
       ∃ (n6 : Nat),
        ∃ (n7 : Nat),
         v3 = Value.slice q5 n6 n7 ∧
          Keeps (w1.alloc (Obj.cells #[Value.int IntKind.u8 (84 : Int), Value.int IntKind.u8 (79 : Int), Value.int IntKind.u8 (77 : Int), Value.int IntKind.u8 (66 : Int)] (5 : Nat))) w4 [] ∧
           Wr IntKind.u8 (↑p1.size : Int) fun (i8 : Int) =>
            Runs Tryd.prog (Builtin.append_ #[(27 : Nat), (27 : Nat)] (27 : Nat) #[Value.slice q5 n6 n7, Value.slice (some { block := w4.heap.size, off := (0 : Nat) }) (1 : Nat) (1 : Nat)])
             (w4.alloc (Obj.cells #[Value.int IntKind.u8 i8] (5 : Nat))) fun (v9 : Value) (w10 : World) =>
             ∃ (q11 : Option Addr),
              ∃ (n12 : Nat),
               ∃ (n13 : Nat),
                v9 = Value.slice q11 n12 n13 ∧
                 Keeps (w4.alloc (Obj.cells #[Value.int IntKind.u8 i8] (5 : Nat))) w10 [] ∧
                  Runs Tryd.prog (Builtin.append_ #[(27 : Nat), (9 : Nat)] (27 : Nat) #[Value.slice q11 n12 n13, Value.string p1]) w10 fun (v14 : Value) (w15 : World) =>
                   ∃ (q16 : Option Addr),
                    ∃ (n17 : Nat),
                     ∃ (n18 : Nat),
                      v14 = Value.slice q16 n17 n18 ∧
                       Keeps w10 w15 [] ∧
                        Rets Tryd.prog (106 : Nat) #[Value.pointer p0, Value.slice q16 n17 n18] w15 fun (v19 : Value) (w20 : World) =>
                         ∃ (i21 : Int),
                          v19 = Value.int IntKind.u32 i21 ∧
                           Keeps w15 w20 [] ∧
                            Rets Tryd.prog (105 : Nat) #[Value.slice q16 n17 n18, Value.int IntKind.u32 i21, Value.int IntKind.i64 (4 : Int)] w20 fun (v22 : Value) (w23 : World) =>
                             ∃ (q24 : Option Addr),
                              ∃ (n25 : Nat),
                               ∃ (n26 : Nat),
                                v22 = Value.slice q24 n25 n26 ∧ Keeps w20 w23 [] ∧ R (Ending.returned (Value.tuple #[Value.slice q24 n25 n26, Value.int IntKind.i64 (0 : Int)])) w23
theorem vcTryd27 (p0 : Option Addr) (p1 : ByteArray) (w : World) (R : Ending → World → Prop) : SX.vcFn Tryd.prog [] Tryd.f27 [.v (.pointer p0), .v (.string p1)] [] w R = VCTryd27 p0 p1 w R := by kernel_rfl
def VCTryd28 (p0 : ByteArray) (w : World) (R : Ending → World → Prop) : Prop :=
Wr IntKind.i64 ((9 : Int) + (↑p0.size : Int)) fun (i0 : Int) => R (Ending.returned (Value.int IntKind.i64 i0)) w
theorem vcTryd28 (p0 : ByteArray) (w : World) (R : Ending → World → Prop) : SX.vcFn Tryd.prog [] Tryd.f28 [.v (.string p0)] [] w R = VCTryd28 p0 w R := by kernel_rfl
def VCTryd30 (p0 : ByteArray) (w : World) (R : Ending → World → Prop) : Prop :=
Runs Tryd.prog (convert (27 : Nat) (27 : Nat) (Value.slice (some { block := w.heap.size, off := (0 : Nat) }) (4 : Nat) (4 : Nat)))
 (w.alloc (Obj.cells #[Value.int IntKind.u8 (84 : Int), Value.int IntKind.u8 (79 : Int), Value.int IntKind.u8 (77 : Int), Value.int IntKind.u8 (66 : Int)] (5 : Nat))) fun (v0 : Value) (w1 : World) =>
 ∃ (q2 : Option Addr),
  ∃ (n3 : Nat),
   ∃ (n4 : Nat),
    v0 = Value.slice q2 n3 n4 ∧
     Keeps (w.alloc (Obj.cells #[Value.int IntKind.u8 (84 : Int), Value.int IntKind.u8 (79 : Int), Value.int IntKind.u8 (77 : Int), Value.int IntKind.u8 (66 : Int)] (5 : Nat))) w1 [] ∧
      Wr IntKind.u8 (↑p0.size : Int) fun (i5 : Int) =>
       Runs Tryd.prog (Builtin.append_ #[(27 : Nat), (27 : Nat)] (27 : Nat) #[Value.slice q2 n3 n4, Value.slice (some { block := w1.heap.size, off := (0 : Nat) }) (1 : Nat) (1 : Nat)])
        (w1.alloc (Obj.cells #[Value.int IntKind.u8 i5] (5 : Nat))) fun (v6 : Value) (w7 : World) =>
        ∃ (q8 : Option Addr),
         ∃ (n9 : Nat),
          ∃ (n10 : Nat),
           v6 = Value.slice q8 n9 n10 ∧
            Keeps (w1.alloc (Obj.cells #[Value.int IntKind.u8 i5] (5 : Nat))) w7 [] ∧
             Runs Tryd.prog (Builtin.append_ #[(27 : Nat), (9 : Nat)] (27 : Nat) #[Value.slice q8 n9 n10, Value.string p0]) w7 fun (v11 : Value) (w12 : World) =>
              ∃ (q13 : Option Addr),
               ∃ (n14 : Nat),
                ∃ (n15 : Nat),
                 v11 = Value.slice q13 n14 n15 ∧
                  Keeps w7 w12 [] ∧
                   Rets Tryd.prog (108 : Nat) #[Value.slice q13 n14 n15] w12 fun (v16 : Value) (w17 : World) =>
                    ∃ (q18 : Option Addr), ∃ (n19 : Nat), ∃ (n20 : Nat), v16 = Value.slice q18 n19 n20 ∧ Keeps w12 w17 [] ∧ R (Ending.returned (Value.slice q18 n19 n20)) w17
theorem vcTryd30 (p0 : ByteArray) (w : World) (R : Ending → World → Prop) : SX.vcFn Tryd.prog [] Tryd.f30 [.v (.string p0)] [] w R = VCTryd30 p0 w R := by kernel_rfl
def VCTryd31 (p0 : Option Addr) (p1 : Option Addr) (n1 c1 : Nat) (p2 : Int) (w : World) (R : Ending → World → Prop) : Prop :=
bif decide (p2 < (0 : Int)) then R (Ending.returned (Value.tuple #[Value.string { data := #[] }, Value.int IntKind.i64 (0 : Int), Value.int IntKind.i64 (1 : Int)])) w
else
 bif decide (p2 > (↑n1 : Int)) then R (Ending.returned (Value.tuple #[Value.string { data := #[] }, Value.int IntKind.i64 (0 : Int), Value.int IntKind.i64 (1 : Int)])) w
 else
  Wr IntKind.i64 ((↑n1 : Int) - p2) fun (i0 : Int) =>
   bif decide (i0 ≥ (4 : Int)) then
    Rets Tryd.prog (33 : Nat) #[Value.slice p1 n1 c1, Value.int IntKind.i64 p2] w fun (v1 : Value) (w2 : World) =>
     ∃ (t3 : Bool),
      v1 = Value.bool t3 ∧
       Keeps w w2 [] ∧
        bif !t3 then R (Ending.returned (Value.tuple #[Value.string { data := #[] }, Value.int IntKind.i64 (0 : Int), Value.int IntKind.i64 (3 : Int)])) w2
        else
         ((0 : Int) ≤ p2 ∧ p2 ≤ (↑n1 : Int)) ∧
          Rets Tryd.prog (109 : Nat) #[Value.slice (cutA p1 c1 p2.toNat (1 : Nat)) (n1 - p2.toNat) (c1 - p2.toNat)] w2 fun (v4 : Value) (w5 : World) =>
           ∃ (q6 : Option Addr),
            v4 = Value.pointer q6 ∧
             Keeps w2 w5 [] ∧
              Rets Tryd.prog (110 : Nat) #[Value.pointer q6, Value.int IntKind.i64 (4 : Int)] w5 fun (v7 : Value) (w8 : World) =>
               ∃ (q9 : Option Addr),
                ∃ (n10 : Nat),
                 ∃ (n11 : Nat),
                  v7 = Value.slice q9 n10 n11 ∧
                   Keeps w5 w8 [] ∧
                    Rets Tryd.prog (111 : Nat) #[Value.pointer q6, Value.int IntKind.i64 (1 : Int)] w8 fun (v12 : Value) (w13 : World) =>
                     ∃ (i14 : Int),
                      v12 = Value.int IntKind.u32 i14 ∧
                       Keeps w8 w13 [] ∧
                        Wr IntKind.i64 i14 fun (i15 : Int) =>
                         Rets Tryd.prog (110 : Nat) #[Value.pointer q6, Value.int IntKind.i64 i15] w13 fun (v16 : Value) (w17 : World) =>
                          ∃ (q18 : Option Addr),
                           ∃ (n19 : Nat),
                            ∃ (n20 : Nat),
                             v16 = Value.slice q18 n19 n20 ∧
                              Keeps w13 w17 [] ∧
                               ∃ (s21 : ByteArray),
                                s21.size = n19 ∧
                                 BytesAt w17 q18 s21 ∧
                                  Rets Tryd.prog (112 : Nat) #[Value.pointer q6] w17 fun (v22 : Value) (w23 : World) =>
                                   ∃ (i24 : Int),
                                    v22 = Value.int IntKind.i64 i24 ∧
                                     Keeps w17 w23 [] ∧
                                      Wr IntKind.i64 (p2 + i24) fun (i25 : Int) =>
                                       ((0 : Int) ≤ i25 ∧ i25 ≤ (↑c1 : Int)) ∧
                                        ((0 : Int) ≤ p2 ∧ p2 ≤ (↑i25.toNat : Int)) ∧
                                         Rets Tryd.prog (106 : Nat) #[Value.pointer p0, Value.slice (cutA p1 c1 p2.toNat (1 : Nat)) (i25.toNat - p2.toNat) (c1 - p2.toNat)] w23
                                          fun (v26 : Value) (w27 : World) =>
                                          ∃ (i28 : Int),
                                           v26 = Value.int IntKind.u32 i28 ∧
                                            Keeps w23 w27 [] ∧
                                             Rets Tryd.prog (111 : Nat) #[Value.pointer q6, Value.int IntKind.i64 (4 : Int)] w27 fun (v29 : Value) (w30 : World) =>
                                              ∃ (i31 : Int),
                                               v29 = Value.int IntKind.u32 i31 ∧
                                                Keeps w27 w30 [] ∧
                                                 Rets Tryd.prog (113 : Nat) #[Value.pointer q6] w30 fun (v32 : Value) (w33 : World) =>
                                                  ∃ (t34 : Bool),
                                                   v32 = Value.bool t34 ∧
                                                    Keeps w30 w33 [] ∧
                                                     bif !t34 then
                                                      R
                                                       (Ending.returned
                                                        (Value.tuple
                                                         #[Value.string { data := #[] }, Value.int IntKind.i64 (0 : Int), Value.int IntKind.i64 (2 : Int)]))
                                                       w33
                                                     else
                                                      bif i31 != i28 then
                                                       R
                                                        (Ending.returned
                                                         (Value.tuple
                                                          #[Value.string { data := #[] }, Value.int IntKind.i64 (0 : Int), Value.int IntKind.i64 (4 : Int)]))
                                                        w33
                                                      else
                                                       Rets Tryd.prog (104 : Nat) #[Value.string s21] w33 fun (v35 : Value) (w36 : World) =>
                                                        ∃ (t37 : Bool),
                                                         v35 = Value.bool t37 ∧
                                                          Keeps w33 w36 [] ∧
                                                           bif !t37 then
                                                            R
                                                             (Ending.returned
                                                              (Value.tuple
                                                               #[Value.string { data := #[] }, Value.int IntKind.i64 (0 : Int),
                                                                Value.int IntKind.i64 (6 : Int)]))
                                                             w36
                                                           else
                                                            Rets Tryd.prog (112 : Nat) #[Value.pointer q6] w36 fun (v38 : Value) (w39 : World) =>
                                                             ∃ (i40 : Int),
                                                              v38 = Value.int IntKind.i64 i40 ∧
                                                               Keeps w36 w39 [] ∧
                                                                Wr IntKind.i64 (p2 + i40) fun (i41 : Int) =>
                                                                 R
                                                                  (Ending.returned
                                                                   (Value.tuple
                                                                    #[Value.string s21, Value.int IntKind.i64 i41, Value.int IntKind.i64 (0 : Int)]))
                                                                  w39
   else
    ((0 : Int) ≤ p2 ∧ p2 ≤ (↑n1 : Int)) ∧
     Rets Tryd.prog (109 : Nat) #[Value.slice (cutA p1 c1 p2.toNat (1 : Nat)) (n1 - p2.toNat) (c1 - p2.toNat)] w fun (v42 : Value) (w43 : World) =>
      ∃ (q44 : Option Addr),
       v42 = Value.pointer q44 ∧
        Keeps w w43 [] ∧
         Rets Tryd.prog (110 : Nat) #[Value.pointer q44, Value.int IntKind.i64 (4 : Int)] w43 fun (v45 : Value) (w46 : World) =>
          ∃ (q47 : Option Addr),
           ∃ (n48 : Nat),
            ∃ (n49 : Nat),
             v45 = Value.slice q47 n48 n49 ∧
              Keeps w43 w46 [] ∧
               Rets Tryd.prog (111 : Nat) #[Value.pointer q44, Value.int IntKind.i64 (1 : Int)] w46 fun (v50 : Value) (w51 : World) =>
                ∃ (i52 : Int),
                 v50 = Value.int IntKind.u32 i52 ∧
                  Keeps w46 w51 [] ∧
                   Wr IntKind.i64 i52 fun (i53 : Int) =>
                    Rets Tryd.prog (110 : Nat) #[Value.pointer q44, Value.int IntKind.i64 i53] w51 fun (v54 : Value) (w55 : World) =>
                     ∃ (q56 : Option Addr),
                      ∃ (n57 : Nat),
                       ∃ (n58 : Nat),
                        v54 = Value.slice q56 n57 n58 ∧
                         Keeps w51 w55 [] ∧
                          ∃ (s59 : ByteArray),
                           s59.size = n57 ∧
                            BytesAt w55 q56 s59 ∧
                             Rets Tryd.prog (112 : Nat) #[Value.pointer q44] w55 fun (v60 : Value) (w61 : World) =>
                              ∃ (i62 : Int),
                               v60 = Value.int IntKind.i64 i62 ∧
                                Keeps w55 w61 [] ∧
                                 Wr IntKind.i64 (p2 + i62) fun (i63 : Int) =>
                                  ((0 : Int) ≤ i63 ∧ i63 ≤ (↑c1 : Int)) ∧
                                   ((0 : Int) ≤ p2 ∧ p2 ≤ (↑i63.toNat : Int)) ∧
                                    Rets Tryd.prog (106 : Nat) #[Value.pointer p0, Value.slice (cutA p1 c1 p2.toNat (1 : Nat)) (i63.toNat - p2.toNat) (c1 - p2.toNat)] w61
                                     fun (v64 : Value) (w65 : World) =>
                                     ∃ (i66 : Int),
                                      v64 = Value.int IntKind.u32 i66 ∧
                                       Keeps w61 w65 [] ∧
                                        Rets Tryd.prog (111 : Nat) #[Value.pointer q44, Value.int IntKind.i64 (4 : Int)] w65 fun (v67 : Value) (w68 : World) =>
                                         ∃ (i69 : Int),
                                          v67 = Value.int IntKind.u32 i69 ∧
                                           Keeps w65 w68 [] ∧
                                            Rets Tryd.prog (113 : Nat) #[Value.pointer q44] w68 fun (v70 : Value) (w71 : World) =>
                                             ∃ (t72 : Bool),
                                              v70 = Value.bool t72 ∧
                                               Keeps w68 w71 [] ∧
                                                bif !t72 then
                                                 R
                                                  (Ending.returned
                                                   (Value.tuple #[Value.string { data := #[] }, Value.int IntKind.i64 (0 : Int), Value.int IntKind.i64 (2 : Int)]))
                                                  w71
                                                else
                                                 bif i69 != i66 then
                                                  R
                                                   (Ending.returned
                                                    (Value.tuple #[Value.string { data := #[] }, Value.int IntKind.i64 (0 : Int), Value.int IntKind.i64 (4 : Int)]))
                                                   w71
                                                 else
                                                  Rets Tryd.prog (104 : Nat) #[Value.string s59] w71 fun (v73 : Value) (w74 : World) =>
                                                   ∃ (t75 : Bool),
                                                    v73 = Value.bool t75 ∧
                                                     Keeps w71 w74 [] ∧
                                                      bif !t75 then
                                                       R
                                                        (Ending.returned
                                                         (Value.tuple
                                                          #[Value.string { data := #[] }, Value.int IntKind.i64 (0 : Int), Value.int IntKind.i64 (6 : Int)]))
                                                        w74
                                                      else
                                                       Rets Tryd.prog (112 : Nat) #[Value.pointer q44] w74 fun (v76 : Value) (w77 : World) =>
                                                        ∃ (i78 : Int),
                                                         v76 = Value.int IntKind.i64 i78 ∧
                                                          Keeps w74 w77 [] ∧
                                                           Wr IntKind.i64 (p2 + i78) fun (i79 : Int) =>
                                                            R
                                                             (Ending.returned
                                                              (Value.tuple #[Value.string s59, Value.int IntKind.i64 i79, Value.int IntKind.i64 (0 : Int)]))
                                                             w77
theorem vcTryd31 (p0 : Option Addr) (p1 : Option Addr) (n1 c1 : Nat) (p2 : Int) (w : World) (R : Ending → World → Prop) : SX.vcFn Tryd.prog [] Tryd.f31 [.v (.pointer p0), .v (.slice p1 n1 c1), .v (.int .i64 p2)] [] w R = VCTryd31 p0 p1 n1 c1 p2 w R := by kernel_rfl
def VCTryd32 (p0 : Option Addr) (n0 c0 : Nat) (p1 : Int) (w : World) (R : Ending → World → Prop) : Prop :=
bif decide (p1 < (0 : Int)) then R (Ending.returned (Value.tuple #[Value.string { data := #[] }, Value.int IntKind.i64 (0 : Int), Value.int IntKind.i64 (1 : Int)])) w
else
 bif decide (p1 > (↑n0 : Int)) then R (Ending.returned (Value.tuple #[Value.string { data := #[] }, Value.int IntKind.i64 (0 : Int), Value.int IntKind.i64 (1 : Int)])) w
 else
  ((0 : Int) ≤ p1 ∧ p1 ≤ (↑n0 : Int)) ∧
   bif decide ((↑(n0 - p1.toNat) : Int) ≥ (4 : Int)) then
    ((0 : Int) ≤ (4 : Int) ∧ (4 : Int) ≤ (↑(c0 - p1.toNat) : Int)) ∧
     ∃ (s0 : ByteArray),
      s0.size = (4 : Nat) ∧
       BytesAt w (cutA (cutA p0 c0 p1.toNat (1 : Nat)) (c0 - p1.toNat) (0 : Nat) (1 : Nat)) s0 ∧
        bif !s0.toList == ({ data := #[(84 : UInt8), (79 : UInt8), (77 : UInt8), (66 : UInt8)] } : ByteArray).toList then
         R (Ending.returned (Value.tuple #[Value.string { data := #[] }, Value.int IntKind.i64 (0 : Int), Value.int IntKind.i64 (3 : Int)])) w
        else
         bif decide ((↑(n0 - p1.toNat) : Int) < (5 : Int)) then R (Ending.returned (Value.tuple #[Value.string { data := #[] }, Value.int IntKind.i64 (0 : Int), Value.int IntKind.i64 (2 : Int)])) w
         else
          ((0 : Int) ≤ (4 : Int) ∧ (4 : Int) < (↑(n0 - p1.toNat) : Int)) ∧
           SX.Ptr (cutA p0 c0 p1.toNat (1 : Nat)) fun (a1 : Addr) =>
            ∃ (i2 : Int),
             w.cell? (a1.add (4 : Nat)) = some (Value.int IntKind.u8 i2) ∧
              Wr IntKind.i64 i2 fun (i3 : Int) =>
               Wr IntKind.i64 ((9 : Int) + i3) fun (i4 : Int) =>
                bif decide ((↑(n0 - p1.toNat) : Int) < i4) then R (Ending.returned (Value.tuple #[Value.string { data := #[] }, Value.int IntKind.i64 (0 : Int), Value.int IntKind.i64 (2 : Int)])) w
                else
                 ((0 : Int) ≤ (4 : Int) ∧ (4 : Int) < (↑(n0 - p1.toNat) : Int)) ∧
                  SX.Ptr (cutA p0 c0 p1.toNat (1 : Nat)) fun (a5 : Addr) =>
                   ∃ (i6 : Int),
                    w.cell? (a5.add (4 : Nat)) = some (Value.int IntKind.u8 i6) ∧
                     Wr IntKind.i64 i6 fun (i7 : Int) =>
                      Wr IntKind.i64 ((5 : Int) + i7) fun (i8 : Int) =>
                       ((0 : Int) ≤ i8 ∧ i8 ≤ (↑(c0 - p1.toNat) : Int)) ∧
                        Rets Tryd.prog (114 : Nat) #[Value.slice (cutA p0 c0 p1.toNat (1 : Nat)) (n0 - p1.toNat) (c0 - p1.toNat), Value.int IntKind.i64 i8, Value.int IntKind.i64 (4 : Int)] w.drew
                         fun (v9 : Value) (w10 : World) =>
                         ∃ (i11 : Int),
                          v9 = Value.int IntKind.i64 i11 ∧
                           Keeps w.drew w10 [] ∧
                            Rets Tryd.prog (115 : Nat)
                             #[Value.slice (cutA (cutA p0 c0 p1.toNat (1 : Nat)) (c0 - p1.toNat) (0 : Nat) (1 : Nat)) (i8.toNat - (0 : Nat)) (c0 - p1.toNat - (0 : Nat))] w10
                             fun (v12 : Value) (w13 : World) =>
                             ∃ (i14 : Int),
                              v12 = Value.int IntKind.u32 i14 ∧
                               Keeps w10 w13 [] ∧
                                Wr IntKind.i64 i14 fun (i15 : Int) =>
                                 bif i11 != i15 then
                                  R (Ending.returned (Value.tuple #[Value.string { data := #[] }, Value.int IntKind.i64 (0 : Int), Value.int IntKind.i64 (4 : Int)])) w13
                                 else
                                  ((0 : Int) ≤ i8 ∧ i8 ≤ (↑(c0 - p1.toNat) : Int)) ∧
                                   ((0 : Int) ≤ (5 : Int) ∧ (5 : Int) ≤ (↑i8.toNat : Int)) ∧
                                    ∃ (s16 : ByteArray),
                                     s16.size = i8.toNat - (5 : Nat) ∧
                                      BytesAt w13 (cutA (cutA p0 c0 p1.toNat (1 : Nat)) (c0 - p1.toNat) (5 : Nat) (1 : Nat)) s16 ∧
                                       Rets Tryd.prog (29 : Nat) #[Value.string s16] w13 fun (v17 : Value) (w18 : World) =>
                                        ∃ (t19 : Bool),
                                         v17 = Value.bool t19 ∧
                                          Keeps w13 w18 [] ∧
                                           bif !t19 then
                                            R (Ending.returned (Value.tuple #[Value.string { data := #[] }, Value.int IntKind.i64 (0 : Int), Value.int IntKind.i64 (6 : Int)]))
                                             w18
                                           else
                                            ((0 : Int) ≤ i8 ∧ i8 ≤ (↑(c0 - p1.toNat) : Int)) ∧
                                             ((0 : Int) ≤ (5 : Int) ∧ (5 : Int) ≤ (↑i8.toNat : Int)) ∧
                                              ∃ (s20 : ByteArray),
                                               s20.size = i8.toNat - (5 : Nat) ∧
                                                BytesAt w18 (cutA (cutA p0 c0 p1.toNat (1 : Nat)) (c0 - p1.toNat) (5 : Nat) (1 : Nat)) s20 ∧
                                                 Wr IntKind.i64 (p1 + i8) fun (i21 : Int) =>
                                                  Wr IntKind.i64 (i21 + (4 : Int)) fun (i22 : Int) =>
                                                   R (Ending.returned (Value.tuple #[Value.string s20, Value.int IntKind.i64 i22, Value.int IntKind.i64 (0 : Int)])) w18
   else
    bif decide ((↑(n0 - p1.toNat) : Int) < (5 : Int)) then R (Ending.returned (Value.tuple #[Value.string { data := #[] }, Value.int IntKind.i64 (0 : Int), Value.int IntKind.i64 (2 : Int)])) w
    else
     ((0 : Int) ≤ (4 : Int) ∧ (4 : Int) < (↑(n0 - p1.toNat) : Int)) ∧
      SX.Ptr (cutA p0 c0 p1.toNat (1 : Nat)) fun (a23 : Addr) =>
       ∃ (i24 : Int),
        w.cell? (a23.add (4 : Nat)) = some (Value.int IntKind.u8 i24) ∧
         Wr IntKind.i64 i24 fun (i25 : Int) =>
          Wr IntKind.i64 ((9 : Int) + i25) fun (i26 : Int) =>
           bif decide ((↑(n0 - p1.toNat) : Int) < i26) then R (Ending.returned (Value.tuple #[Value.string { data := #[] }, Value.int IntKind.i64 (0 : Int), Value.int IntKind.i64 (2 : Int)])) w
           else
            ((0 : Int) ≤ (4 : Int) ∧ (4 : Int) < (↑(n0 - p1.toNat) : Int)) ∧
             SX.Ptr (cutA p0 c0 p1.toNat (1 : Nat)) fun (a27 : Addr) =>
              ∃ (i28 : Int),
               w.cell? (a27.add (4 : Nat)) = some (Value.int IntKind.u8 i28) ∧
                Wr IntKind.i64 i28 fun (i29 : Int) =>
                 Wr IntKind.i64 ((5 : Int) + i29) fun (i30 : Int) =>
                  ((0 : Int) ≤ i30 ∧ i30 ≤ (↑(c0 - p1.toNat) : Int)) ∧
                   Rets Tryd.prog (114 : Nat) #[Value.slice (cutA p0 c0 p1.toNat (1 : Nat)) (n0 - p1.toNat) (c0 - p1.toNat), Value.int IntKind.i64 i30, Value.int IntKind.i64 (4 : Int)] w.drew
                    fun (v31 : Value) (w32 : World) =>
                    ∃ (i33 : Int),
                     v31 = Value.int IntKind.i64 i33 ∧
                      Keeps w.drew w32 [] ∧
                       Rets Tryd.prog (115 : Nat) #[Value.slice (cutA (cutA p0 c0 p1.toNat (1 : Nat)) (c0 - p1.toNat) (0 : Nat) (1 : Nat)) (i30.toNat - (0 : Nat)) (c0 - p1.toNat - (0 : Nat))] w32
                        fun (v34 : Value) (w35 : World) =>
                        ∃ (i36 : Int),
                         v34 = Value.int IntKind.u32 i36 ∧
                          Keeps w32 w35 [] ∧
                           Wr IntKind.i64 i36 fun (i37 : Int) =>
                            bif i33 != i37 then R (Ending.returned (Value.tuple #[Value.string { data := #[] }, Value.int IntKind.i64 (0 : Int), Value.int IntKind.i64 (4 : Int)])) w35
                            else
                             ((0 : Int) ≤ i30 ∧ i30 ≤ (↑(c0 - p1.toNat) : Int)) ∧
                              ((0 : Int) ≤ (5 : Int) ∧ (5 : Int) ≤ (↑i30.toNat : Int)) ∧
                               ∃ (s38 : ByteArray),
                                s38.size = i30.toNat - (5 : Nat) ∧
                                 BytesAt w35 (cutA (cutA p0 c0 p1.toNat (1 : Nat)) (c0 - p1.toNat) (5 : Nat) (1 : Nat)) s38 ∧
                                  Rets Tryd.prog (29 : Nat) #[Value.string s38] w35 fun (v39 : Value) (w40 : World) =>
                                   ∃ (t41 : Bool),
                                    v39 = Value.bool t41 ∧
                                     Keeps w35 w40 [] ∧
                                      bif !t41 then
                                       R (Ending.returned (Value.tuple #[Value.string { data := #[] }, Value.int IntKind.i64 (0 : Int), Value.int IntKind.i64 (6 : Int)])) w40
                                      else
                                       ((0 : Int) ≤ i30 ∧ i30 ≤ (↑(c0 - p1.toNat) : Int)) ∧
                                        ((0 : Int) ≤ (5 : Int) ∧ (5 : Int) ≤ (↑i30.toNat : Int)) ∧
                                         ∃ (s42 : ByteArray),
                                          s42.size = i30.toNat - (5 : Nat) ∧
                                           BytesAt w40 (cutA (cutA p0 c0 p1.toNat (1 : Nat)) (c0 - p1.toNat) (5 : Nat) (1 : Nat)) s42 ∧
                                            Wr IntKind.i64 (p1 + i30) fun (i43 : Int) =>
                                             Wr IntKind.i64 (i43 + (4 : Int)) fun (i44 : Int) =>
                                              R (Ending.returned (Value.tuple #[Value.string s42, Value.int IntKind.i64 i44, Value.int IntKind.i64 (0 : Int)])) w40
theorem vcTryd32 (p0 : Option Addr) (n0 c0 : Nat) (p1 : Int) (w : World) (R : Ending → World → Prop) : SX.vcFn Tryd.prog [] Tryd.f32 [.v (.slice p0 n0 c0), .v (.int .i64 p1)] [] w R = VCTryd32 p0 n0 c0 p1 w R := by kernel_rfl
def VCTryd33 (p0 : Option Addr) (n0 c0 : Nat) (p1 : Int) (w : World) (R : Ending → World → Prop) : Prop :=
bif decide (p1 ≥ (0 : Int)) then
 Wr IntKind.i64 ((↑n0 : Int) - (4 : Int)) fun (i0 : Int) =>
  bif decide (p1 ≤ i0) then
   Wr IntKind.i64 (p1 + (4 : Int)) fun (i1 : Int) =>
    ((0 : Int) ≤ i1 ∧ i1 ≤ (↑c0 : Int)) ∧
     ((0 : Int) ≤ p1 ∧ p1 ≤ (↑i1.toNat : Int)) ∧
      ∃ (s2 : ByteArray),
       s2.size = i1.toNat - p1.toNat ∧ BytesAt w (cutA p0 c0 p1.toNat (1 : Nat)) s2 ∧ R (Ending.returned (Value.bool (s2.toList == ({ data := #[(84 : UInt8), (79 : UInt8), (77 : UInt8), (66 : UInt8)] } : ByteArray).toList))) w
  else R (Ending.returned (Value.bool false)) w
else R (Ending.returned (Value.bool false)) w
theorem vcTryd33 (p0 : Option Addr) (n0 c0 : Nat) (p1 : Int) (w : World) (R : Ending → World → Prop) : SX.vcFn Tryd.prog [] Tryd.f33 [.v (.slice p0 n0 c0), .v (.int .i64 p1)] [] w R = VCTryd33 p0 n0 c0 p1 w R := by kernel_rfl
def VCTryd108 (p0 : Option Addr) (n0 c0 : Nat) (w : World) (R : Ending → World → Prop) : Prop :=
Runs Tryd.prog (Instr.buildSlice (27 : Nat) (0 : Nat) #[]) w fun (v0 : Value) (w1 : World) =>
 ∃ (q2 : Option Addr),
  ∃ (n3 : Nat),
   ∃ (n4 : Nat),
    v0 = Value.slice q2 n3 n4 ∧
     Keeps w w1 [] ∧
      Runs Tryd.prog (Builtin.append_ #[(27 : Nat), (27 : Nat)] (27 : Nat) #[Value.slice q2 n3 n4, Value.slice p0 n0 c0]) w1 fun (v5 : Value) (w6 : World) =>
       ∃ (q7 : Option Addr),
        ∃ (n8 : Nat),
         ∃ (n9 : Nat),
          v5 = Value.slice q7 n8 n9 ∧
           Keeps w1 w6 [] ∧
            Rets Tryd.prog (115 : Nat) #[Value.slice p0 n0 c0] w6 fun (v10 : Value) (w11 : World) =>
             ∃ (i12 : Int),
              v10 = Value.int IntKind.u32 i12 ∧
               Keeps w6 w11 [] ∧
                Rets Tryd.prog (120 : Nat) #[Value.int IntKind.u32 i12, Value.int IntKind.i64 (4 : Int)] w11 fun (v13 : Value) (w14 : World) =>
                 ∃ (q15 : Option Addr),
                  ∃ (n16 : Nat),
                   ∃ (n17 : Nat),
                    v13 = Value.slice q15 n16 n17 ∧
                     Keeps w11 w14 [] ∧
                      Runs Tryd.prog (Builtin.append_ #[(27 : Nat), (27 : Nat)] (27 : Nat) #[Value.slice q7 n8 n9, Value.slice q15 n16 n17]) w14 fun (v18 : Value) (w19 : World) =>
                       ∃ (q20 : Option Addr), ∃ (n21 : Nat), ∃ (n22 : Nat), v18 = Value.slice q20 n21 n22 ∧ Keeps w14 w19 [] ∧ R (Ending.returned (Value.slice q20 n21 n22)) w19
theorem vcTryd108 (p0 : Option Addr) (n0 c0 : Nat) (w : World) (R : Ending → World → Prop) : SX.vcFn Tryd.prog [] Tryd.f108 [.v (.slice p0 n0 c0)] [] w R = VCTryd108 p0 n0 c0 w R := by kernel_rfl
def VCTryd114 (p0 : Option Addr) (n0 c0 : Nat) (p1 : Int) (p2 : Int) (w : World) (R : Ending → World → Prop) : Prop :=
Rets Tryd.prog (160 : Nat) #[Value.slice p0 n0 c0, Value.int IntKind.i64 p1, Value.int IntKind.i64 p2] w fun (v0 : Value) (w1 : World) =>
 ∃ (i2 : Int), ∃ (t3 : Bool), v0 = Value.tuple #[Value.int IntKind.u32 i2, Value.bool t3] ∧ Keeps w w1 [] ∧ Wr IntKind.i64 i2 fun (i4 : Int) => R (Ending.returned (Value.int IntKind.i64 i4)) w1
theorem vcTryd114 (p0 : Option Addr) (n0 c0 : Nat) (p1 : Int) (p2 : Int) (w : World) (R : Ending → World → Prop) : SX.vcFn Tryd.prog [] Tryd.f114 [.v (.slice p0 n0 c0), .v (.int .i64 p1), .v (.int .i64 p2)] [] w R = VCTryd114 p0 n0 c0 p1 p2 w R := by kernel_rfl
def VCTryd25 (w : World) (R : Ending → World → Prop) : Prop :=
Rets Tryd.prog (26 : Nat) #[] w fun (v0 : Value) (w1 : World) =>
 ∃ (x2 : Array Value),
  v0 = Value.agg x2 ∧
   Keeps w w1 [] ∧
    Runs Tryd.prog (Instr.storeAt (25 : Nat) (Value.pointer (some { block := w1.heap.size, off := (0 : Nat) })) (Value.agg x2)) (w1.alloc (Obj.cells (zeroA Tryd.prog (25 : Nat)) (25 : Nat)))
     fun (x3 : Unit) (w4 : World) =>
     Keeps (w1.alloc (Obj.cells (zeroA Tryd.prog (25 : Nat)) (25 : Nat))) w4 [] ∧
      Rets Tryd.prog (27 : Nat) #[Value.pointer (some { block := w1.heap.size, off := (0 : Nat) }), Value.string { data := #[(97 : UInt8)] }] w4 fun (v5 : Value) (w6 : World) =>
       ∃ (q7 : Option Addr),
        ∃ (n8 : Nat),
         ∃ (n9 : Nat),
          ∃ (i10 : Int),
           v5 = Value.tuple #[Value.slice q7 n8 n9, Value.int IntKind.i64 i10] ∧
            Keeps w4 w6 [] ∧
             Rets Tryd.prog (31 : Nat) #[Value.pointer (some { block := w1.heap.size, off := (0 : Nat) }), Value.slice q7 n8 n9, Value.int IntKind.i64 (0 : Int)] w6 fun (v11 : Value) (w12 : World) =>
              ∃ (s13 : ByteArray),
               ∃ (i14 : Int),
                ∃ (i15 : Int),
                 v11 = Value.tuple #[Value.string s13, Value.int IntKind.i64 i14, Value.int IntKind.i64 i15] ∧
                  Keeps w6 w12 [] ∧
                   bif i10 == (0 : Int) then
                    bif i15 == (0 : Int) then
                     bif (↑n8 : Int) == (10 : Int) then
                      bif i14 == (10 : Int) then
                       bif s13.toList == ({ data := #[(97 : UInt8)] } : ByteArray).toList then
                        Rets Tryd.prog (28 : Nat) #[Value.string { data := #[(97 : UInt8)] }] w12 fun (v16 : Value) (w17 : World) =>
                         ∃ (i18 : Int), v16 = Value.int IntKind.i64 i18 ∧ Keeps w12 w17 [] ∧ R (Ending.returned (Value.bool (i18 == (10 : Int)))) w17
                       else R (Ending.returned (Value.bool false)) w12
                      else R (Ending.returned (Value.bool false)) w12
                     else R (Ending.returned (Value.bool false)) w12
                    else R (Ending.returned (Value.bool false)) w12
                   else R (Ending.returned (Value.bool false)) w12
theorem vcTryd25 (w : World) (R : Ending → World → Prop) : SX.vcFn Tryd.prog [] Tryd.f25 [] [] w R = VCTryd25  w R := by kernel_rfl
def VCTryd3 (p0 : ByteArray) (w : World) (R : Ending → World → Prop) : Prop :=
bif decide ((↑p0.size : Int) > (300 : Int)) then Rets Tryd.prog (25 : Nat) #[] w fun (v0 : Value) (w1 : World) => ∃ (t2 : Bool), v0 = Value.bool t2 ∧ Keeps w w1 [] ∧ R (Ending.returned (Value.bool t2)) w1
else
 Rets Tryd.prog (26 : Nat) #[] w fun (v3 : Value) (w4 : World) =>
  ∃ (x5 : Array Value),
   v3 = Value.agg x5 ∧
    Keeps w w4 [] ∧
     Runs Tryd.prog (Instr.storeAt (25 : Nat) (Value.pointer (some { block := w4.heap.size, off := (0 : Nat) })) (Value.agg x5)) (w4.alloc (Obj.cells (zeroA Tryd.prog (25 : Nat)) (25 : Nat)))
      fun (x6 : Unit) (w7 : World) =>
      Keeps (w4.alloc (Obj.cells (zeroA Tryd.prog (25 : Nat)) (25 : Nat))) w7 [] ∧
       Rets Tryd.prog (27 : Nat) #[Value.pointer (some { block := w4.heap.size, off := (0 : Nat) }), Value.string p0] w7 fun (v8 : Value) (w9 : World) =>
        ∃ (q10 : Option Addr),
         ∃ (n11 : Nat),
          ∃ (n12 : Nat),
           ∃ (i13 : Int),
            v8 = Value.tuple #[Value.slice q10 n11 n12, Value.int IntKind.i64 i13] ∧
             Keeps w7 w9 [] ∧
              Rets Tryd.prog (28 : Nat) #[Value.string p0] w9 fun (v14 : Value) (w15 : World) =>
               ∃ (i16 : Int),
                v14 = Value.int IntKind.i64 i16 ∧
                 Keeps w9 w15 [] ∧
                  Wr IntKind.i64 ((9 : Int) + (↑p0.size : Int)) fun (i17 : Int) =>
                   bif i16 != i17 then R (Ending.returned (Value.bool false)) w15
                   else
                    Rets Tryd.prog (29 : Nat) #[Value.string p0] w15 fun (v18 : Value) (w19 : World) =>
                     ∃ (t20 : Bool),
                      v18 = Value.bool t20 ∧
                       Keeps w15 w19 [] ∧
                        bif !t20 then
                         bif i13 == (6 : Int) then
                          bif (↑n11 : Int) == (0 : Int) then
                           Rets Tryd.prog (25 : Nat) #[] w19 fun (v21 : Value) (w22 : World) =>
                            ∃ (t23 : Bool), v21 = Value.bool t23 ∧ Keeps w19 w22 [] ∧ R (Ending.returned (Value.bool t23)) w22
                          else R (Ending.returned (Value.bool false)) w19
                         else R (Ending.returned (Value.bool false)) w19
                        else
                         bif i13 == (0 : Int) then
                          ∃ (s24 : ByteArray),
                           s24.size = n11 ∧
                            BytesAt w19.drew q10 s24 ∧
                             Rets Tryd.prog (30 : Nat) #[Value.string p0] w19.drew fun (v25 : Value) (w26 : World) =>
                              ∃ (q27 : Option Addr),
                               ∃ (n28 : Nat),
                                ∃ (n29 : Nat),
                                 v25 = Value.slice q27 n28 n29 ∧
                                  Keeps w19.drew w26 [] ∧
                                   BytesAt w26 q10 s24 ∧
                                    ∃ (s30 : ByteArray),
                                     s30.size = n28 ∧
                                      BytesAt w26 q27 s30 ∧
                                       bif s24.toList == s30.toList then
                                        Rets Tryd.prog (25 : Nat) #[] w26 fun (v31 : Value) (w32 : World) =>
                                         ∃ (t33 : Bool), v31 = Value.bool t33 ∧ Keeps w26 w32 [] ∧ R (Ending.returned (Value.bool t33)) w32
                                       else R (Ending.returned (Value.bool false)) w26
                         else R (Ending.returned (Value.bool false)) w19.drew
theorem vcTryd3 (p0 : ByteArray) (w : World) (R : Ending → World → Prop) : SX.vcFn Tryd.prog [] Tryd.f3 [.v (.string p0)] [] w R = VCTryd3 p0 w R := by kernel_rfl
def VCTryd4 (p0 : Option Addr) (n0 c0 : Nat) (p1 : Int) (w : World) (R : Ending → World → Prop) : Prop :=
bif decide ((↑n0 : Int) > (1000 : Int)) then Rets Tryd.prog (25 : Nat) #[] w fun (v0 : Value) (w1 : World) => ∃ (t2 : Bool), v0 = Value.bool t2 ∧ Keeps w w1 [] ∧ R (Ending.returned (Value.bool t2)) w1
else
 Rets Tryd.prog (26 : Nat) #[] w fun (v3 : Value) (w4 : World) =>
  ∃ (x5 : Array Value),
   v3 = Value.agg x5 ∧
    Keeps w w4 [] ∧
     Runs Tryd.prog (Instr.storeAt (25 : Nat) (Value.pointer (some { block := w4.heap.size, off := (0 : Nat) })) (Value.agg x5)) (w4.alloc (Obj.cells (zeroA Tryd.prog (25 : Nat)) (25 : Nat)))
      fun (x6 : Unit) (w7 : World) =>
      Keeps (w4.alloc (Obj.cells (zeroA Tryd.prog (25 : Nat)) (25 : Nat))) w7 [] ∧
       Rets Tryd.prog (31 : Nat) #[Value.pointer (some { block := w4.heap.size, off := (0 : Nat) }), Value.slice p0 n0 c0, Value.int IntKind.i64 p1] w7 fun (v8 : Value) (w9 : World) =>
        ∃ (s10 : ByteArray),
         ∃ (i11 : Int),
          ∃ (i12 : Int),
           v8 = Value.tuple #[Value.string s10, Value.int IntKind.i64 i11, Value.int IntKind.i64 i12] ∧
            Keeps w7 w9 [] ∧
             Rets Tryd.prog (32 : Nat) #[Value.slice p0 n0 c0, Value.int IntKind.i64 p1] w9 fun (v13 : Value) (w14 : World) =>
              ∃ (s15 : ByteArray),
               ∃ (i16 : Int),
                ∃ (i17 : Int),
                 v13 = Value.tuple #[Value.string s15, Value.int IntKind.i64 i16, Value.int IntKind.i64 i17] ∧
                  Keeps w9 w14 [] ∧
                   bif decide (p1 ≥ (0 : Int)) then
                    bif decide (p1 ≤ (↑n0 : Int)) then
                     Wr IntKind.i64 ((↑n0 : Int) - p1) fun (i18 : Int) =>
                      bif decide (i18 ≥ (4 : Int)) then
                       Wr IntKind.i64 (p1 + (4 : Int)) fun (i19 : Int) =>
                        ((0 : Int) ≤ i19 ∧ i19 ≤ (↑c0 : Int)) ∧
                         ((0 : Int) ≤ p1 ∧ p1 ≤ (↑i19.toNat : Int)) ∧
                          ∃ (s20 : ByteArray),
                           s20.size = i19.toNat - p1.toNat ∧
                            BytesAt w14 (cutA p0 c0 p1.toNat (1 : Nat)) s20 ∧
                             bif s10.toList == s15.toList then
                              bif i11 == i16 then
                               bif i12 == i17 then
                                Rets Tryd.prog (33 : Nat) #[Value.slice p0 n0 c0, Value.int IntKind.i64 p1] w14 fun (v21 : Value) (w22 : World) =>
                                 ∃ (t23 : Bool),
                                  v21 = Value.bool t23 ∧
                                   Keeps w14 w22 [] ∧
                                    bif t23 == (s20.toList == ({ data := #[(84 : UInt8), (79 : UInt8), (77 : UInt8), (66 : UInt8)] } : ByteArray).toList) then
                                     Rets Tryd.prog (25 : Nat) #[] w22 fun (v24 : Value) (w25 : World) =>
                                      ∃ (t26 : Bool), v24 = Value.bool t26 ∧ Keeps w22 w25 [] ∧ R (Ending.returned (Value.bool t26)) w25
                                    else R (Ending.returned (Value.bool false)) w22
                               else R (Ending.returned (Value.bool false)) w14
                              else R (Ending.returned (Value.bool false)) w14
                             else R (Ending.returned (Value.bool false)) w14
                      else
                       bif s10.toList == s15.toList then
                        bif i11 == i16 then
                         bif i12 == i17 then
                          Rets Tryd.prog (33 : Nat) #[Value.slice p0 n0 c0, Value.int IntKind.i64 p1] w14 fun (v27 : Value) (w28 : World) =>
                           ∃ (t29 : Bool),
                            v27 = Value.bool t29 ∧
                             Keeps w14 w28 [] ∧
                              bif t29 == false then
                               Rets Tryd.prog (25 : Nat) #[] w28 fun (v30 : Value) (w31 : World) =>
                                ∃ (t32 : Bool), v30 = Value.bool t32 ∧ Keeps w28 w31 [] ∧ R (Ending.returned (Value.bool t32)) w31
                              else R (Ending.returned (Value.bool false)) w28
                         else R (Ending.returned (Value.bool false)) w14
                        else R (Ending.returned (Value.bool false)) w14
                       else R (Ending.returned (Value.bool false)) w14
                    else
                     bif s10.toList == s15.toList then
                      bif i11 == i16 then
                       bif i12 == i17 then
                        Rets Tryd.prog (33 : Nat) #[Value.slice p0 n0 c0, Value.int IntKind.i64 p1] w14 fun (v33 : Value) (w34 : World) =>
                         ∃ (t35 : Bool),
                          v33 = Value.bool t35 ∧
                           Keeps w14 w34 [] ∧
                            bif t35 == false then
                             Rets Tryd.prog (25 : Nat) #[] w34 fun (v36 : Value) (w37 : World) =>
                              ∃ (t38 : Bool), v36 = Value.bool t38 ∧ Keeps w34 w37 [] ∧ R (Ending.returned (Value.bool t38)) w37
                            else R (Ending.returned (Value.bool false)) w34
                       else R (Ending.returned (Value.bool false)) w14
                      else R (Ending.returned (Value.bool false)) w14
                     else R (Ending.returned (Value.bool false)) w14
                   else
                    bif s10.toList == s15.toList then
                     bif i11 == i16 then
                      bif i12 == i17 then
                       Rets Tryd.prog (33 : Nat) #[Value.slice p0 n0 c0, Value.int IntKind.i64 p1] w14 fun (v39 : Value) (w40 : World) =>
                        ∃ (t41 : Bool),
                         v39 = Value.bool t41 ∧
                          Keeps w14 w40 [] ∧
                           bif t41 == false then
                            Rets Tryd.prog (25 : Nat) #[] w40 fun (v42 : Value) (w43 : World) =>
                             ∃ (t44 : Bool), v42 = Value.bool t44 ∧ Keeps w40 w43 [] ∧ R (Ending.returned (Value.bool t44)) w43
                           else R (Ending.returned (Value.bool false)) w40
                      else R (Ending.returned (Value.bool false)) w14
                     else R (Ending.returned (Value.bool false)) w14
                    else R (Ending.returned (Value.bool false)) w14
theorem vcTryd4 (p0 : Option Addr) (n0 c0 : Nat) (p1 : Int) (w : World) (R : Ending → World → Prop) : SX.vcFn Tryd.prog [] Tryd.f4 [.v (.slice p0 n0 c0), .v (.int .i64 p1)] [] w R = VCTryd4 p0 n0 c0 p1 w R := by kernel_rfl
def VCTryd5 (p0 : ByteArray) (p1 : Int) (p2 : Int) (w : World) (R : Ending → World → Prop) : Prop :=
Rets Tryd.prog (26 : Nat) #[] w fun (v0 : Value) (w1 : World) =>
 ∃ (x2 : Array Value),
  v0 = Value.agg x2 ∧
   Keeps w w1 [] ∧
    Runs Tryd.prog (Instr.storeAt (25 : Nat) (Value.pointer (some { block := w1.heap.size, off := (0 : Nat) })) (Value.agg x2)) (w1.alloc (Obj.cells (zeroA Tryd.prog (25 : Nat)) (25 : Nat)))
     fun (x3 : Unit) (w4 : World) =>
     Keeps (w1.alloc (Obj.cells (zeroA Tryd.prog (25 : Nat)) (25 : Nat))) w4 [] ∧
      Rets Tryd.prog (27 : Nat) #[Value.pointer (some { block := w1.heap.size, off := (0 : Nat) }), Value.string p0] w4 fun (v5 : Value) (w6 : World) =>
       ∃ (q7 : Option Addr),
        ∃ (n8 : Nat),
         ∃ (n9 : Nat),
          ∃ (i10 : Int),
           v5 = Value.tuple #[Value.slice q7 n8 n9, Value.int IntKind.i64 i10] ∧
            Keeps w4 w6 [] ∧
             bif decide ((↑p0.size : Int) > (300 : Int)) then
              bif i10 != (0 : Int) then Rets Tryd.prog (25 : Nat) #[] w6 fun (v11 : Value) (w12 : World) => ∃ (t13 : Bool), v11 = Value.bool t13 ∧ Keeps w6 w12 [] ∧ R (Ending.returned (Value.bool t13)) w12
              else
               bif decide ((↑n8 : Int) ≥ (5 : Int)) then
                Rets Tryd.prog (25 : Nat) #[] w6 fun (v14 : Value) (w15 : World) => ∃ (t16 : Bool), v14 = Value.bool t16 ∧ Keeps w6 w15 [] ∧ R (Ending.returned (Value.bool t16)) w15
               else R (Ending.returned (Value.bool false)) w6
             else
              bif decide (p1 < (0 : Int)) then
               bif i10 != (0 : Int) then
                Rets Tryd.prog (25 : Nat) #[] w6 fun (v17 : Value) (w18 : World) => ∃ (t19 : Bool), v17 = Value.bool t19 ∧ Keeps w6 w18 [] ∧ R (Ending.returned (Value.bool t19)) w18
               else
                bif decide ((↑n8 : Int) ≥ (5 : Int)) then
                 Rets Tryd.prog (25 : Nat) #[] w6 fun (v20 : Value) (w21 : World) => ∃ (t22 : Bool), v20 = Value.bool t22 ∧ Keeps w6 w21 [] ∧ R (Ending.returned (Value.bool t22)) w21
                else R (Ending.returned (Value.bool false)) w6
              else
               bif decide (p1 > (3000 : Int)) then
                bif i10 != (0 : Int) then
                 Rets Tryd.prog (25 : Nat) #[] w6 fun (v23 : Value) (w24 : World) => ∃ (t25 : Bool), v23 = Value.bool t25 ∧ Keeps w6 w24 [] ∧ R (Ending.returned (Value.bool t25)) w24
                else
                 bif decide ((↑n8 : Int) ≥ (5 : Int)) then
                  Rets Tryd.prog (25 : Nat) #[] w6 fun (v26 : Value) (w27 : World) => ∃ (t28 : Bool), v26 = Value.bool t28 ∧ Keeps w6 w27 [] ∧ R (Ending.returned (Value.bool t28)) w27
                 else R (Ending.returned (Value.bool false)) w6
               else
                bif i10 != (0 : Int) then
                 bif i10 != (0 : Int) then
                  Rets Tryd.prog (25 : Nat) #[] w6 fun (v29 : Value) (w30 : World) => ∃ (t31 : Bool), v29 = Value.bool t31 ∧ Keeps w6 w30 [] ∧ R (Ending.returned (Value.bool t31)) w30
                 else
                  bif decide ((↑n8 : Int) ≥ (5 : Int)) then
                   Rets Tryd.prog (25 : Nat) #[] w6 fun (v32 : Value) (w33 : World) => ∃ (t34 : Bool), v32 = Value.bool t34 ∧ Keeps w6 w33 [] ∧ R (Ending.returned (Value.bool t34)) w33
                  else R (Ending.returned (Value.bool false)) w6
                else
                 bif decide ((↑n8 : Int) < (5 : Int)) then
                  bif i10 != (0 : Int) then
                   Rets Tryd.prog (25 : Nat) #[] w6 fun (v35 : Value) (w36 : World) => ∃ (t37 : Bool), v35 = Value.bool t37 ∧ Keeps w6 w36 [] ∧ R (Ending.returned (Value.bool t37)) w36
                  else
                   bif decide ((↑n8 : Int) ≥ (5 : Int)) then
                    Rets Tryd.prog (25 : Nat) #[] w6 fun (v38 : Value) (w39 : World) => ∃ (t40 : Bool), v38 = Value.bool t40 ∧ Keeps w6 w39 [] ∧ R (Ending.returned (Value.bool t40)) w39
                   else R (Ending.returned (Value.bool false)) w6
                 else
                  Rets Tryd.prog (34 : Nat) #[Value.slice q7 n8 n9, Value.int IntKind.i64 p1, Value.int IntKind.u32 p2] w6 fun (v41 : Value) (w42 : World) =>
                   ∃ (q43 : Option Addr),
                    ∃ (n44 : Nat),
                     ∃ (n45 : Nat),
                      v41 = Value.slice q43 n44 n45 ∧
                       Keeps w6 w42 [] ∧
                        ((0 : Int) ≤ (4 : Int) ∧ (4 : Int) < (↑n44 : Int)) ∧
                         SX.Ptr q43 fun (a46 : Addr) =>
                          ∃ (i47 : Int),
                           w42.drew.cell? (a46.add (4 : Nat)) = some (Value.int IntKind.u8 i47) ∧
                            ((0 : Int) ≤ (4 : Int) ∧ (4 : Int) < (↑n8 : Int)) ∧
                             SX.Ptr q7 fun (a48 : Addr) =>
                              ∃ (i49 : Int),
                               w42.drew.cell? (a48.add (4 : Nat)) = some (Value.int IntKind.u8 i49) ∧
                                bif i47 != i49 then
                                 Rets Tryd.prog (25 : Nat) #[] w42.drew fun (v50 : Value) (w51 : World) =>
                                  ∃ (t52 : Bool), v50 = Value.bool t52 ∧ Keeps w42.drew w51 [] ∧ R (Ending.returned (Value.bool t52)) w51
                                else
                                 Rets Tryd.prog (31 : Nat) #[Value.pointer (some { block := w1.heap.size, off := (0 : Nat) }), Value.slice q43 n44 n45, Value.int IntKind.i64 (0 : Int)]
                                  w42.drew fun (v53 : Value) (w54 : World) =>
                                  ∃ (s55 : ByteArray),
                                   ∃ (i56 : Int),
                                    ∃ (i57 : Int),
                                     v53 = Value.tuple #[Value.string s55, Value.int IntKind.i64 i56, Value.int IntKind.i64 i57] ∧
                                      Keeps w42.drew w54 [] ∧
                                       Rets Tryd.prog (35 : Nat) #[Value.slice q7 n8 n9, Value.slice q43 n44 n45] w54 fun (v58 : Value) (w59 : World) =>
                                        ∃ (t60 : Bool),
                                         v58 = Value.bool t60 ∧
                                          Keeps w54 w59 [] ∧
                                           bif t60 then
                                            bif i57 == (0 : Int) then
                                             bif s55.toList == p0.toList then
                                              Rets Tryd.prog (25 : Nat) #[] w59 fun (v61 : Value) (w62 : World) =>
                                               ∃ (t63 : Bool), v61 = Value.bool t63 ∧ Keeps w59 w62 [] ∧ R (Ending.returned (Value.bool t63)) w62
                                             else R (Ending.returned (Value.bool false)) w59
                                            else R (Ending.returned (Value.bool false)) w59
                                           else
                                            bif i57 == (3 : Int) then
                                             bif s55.toList == ({ data := #[] } : ByteArray).toList then
                                              Rets Tryd.prog (25 : Nat) #[] w59 fun (v64 : Value) (w65 : World) =>
                                               ∃ (t66 : Bool), v64 = Value.bool t66 ∧ Keeps w59 w65 [] ∧ R (Ending.returned (Value.bool t66)) w65
                                             else R (Ending.returned (Value.bool false)) w59
                                            else
                                             bif i57 == (4 : Int) then
                                              bif s55.toList == ({ data := #[] } : ByteArray).toList then
                                               Rets Tryd.prog (25 : Nat) #[] w59 fun (v67 : Value) (w68 : World) =>
                                                ∃ (t69 : Bool), v67 = Value.bool t69 ∧ Keeps w59 w68 [] ∧ R (Ending.returned (Value.bool t69)) w68
                                              else R (Ending.returned (Value.bool false)) w59
                                             else R (Ending.returned (Value.bool false)) w59
theorem vcTryd5 (p0 : ByteArray) (p1 : Int) (p2 : Int) (w : World) (R : Ending → World → Prop) : SX.vcFn Tryd.prog [] Tryd.f5 [.v (.string p0), .v (.int .i64 p1), .v (.int .u32 p2)] [] w R = VCTryd5 p0 p1 p2 w R := by kernel_rfl
end Go.Proofs.YtbpknjldphckgaaDoor
