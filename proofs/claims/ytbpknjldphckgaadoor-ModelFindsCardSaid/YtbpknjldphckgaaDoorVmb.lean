/- The conditions of functions, as the executor computes them: each is equal to what 'vcFn' says. -/
import Derived.Test.YtbpknjldphckgaaDoorSxLib
import Derived.Test.YtbpknjldphckgaaDoorProg
namespace Go.Proofs.YtbpknjldphckgaaDoor
open Go Go.SX Go.Proofs
set_option maxRecDepth 100000
set_option linter.unusedVariables false
def VCTryd132 (p0 : ByteArray) (p1 : ByteArray) (w : World) (R : Ending → World → Prop) : Prop :=
Rets Tryd.prog (29 : Nat) #[Value.string p1] w fun (v0 : Value) (w1 : World) =>
 ∃ (t2 : Bool),
  v0 = Value.bool t2 ∧
   Keeps w w1 [] ∧
    bif !t2 then R (Ending.returned (Value.bool false)) w1
    else
     bif !p0.toList == ({ data := #[] } : ByteArray).toList then
      Rets Tryd.prog (29 : Nat) #[Value.string p0] w1 fun (v3 : Value) (w4 : World) =>
       ∃ (t5 : Bool),
        v3 = Value.bool t5 ∧
         Keeps w1 w4 [] ∧
          bif !t5 then R (Ending.returned (Value.bool false)) w4
          else
           bif p0.toList == ({ data := #[] } : ByteArray).toList then R (Ending.returned (Value.bool true)) w4
           else
            bif decide ((↑p1.size : Int) > (↑p0.size : Int)) then
             ((0 : Int) ≤ (↑p0.size : Int) ∧ (↑p0.size : Int) ≤ (↑p1.size : Int)) ∧
              bif (p1.extract (0 : Nat) (↑p0.size : Int).toNat).toList == p0.toList then
               ((0 : Int) ≤ (↑p0.size : Int) ∧ (↑p0.size : Int) < (↑p1.size : Int)) ∧ R (Ending.returned (Value.bool (byteAt p1 (↑p0.size : Int) == (47 : Int)))) w4
              else R (Ending.returned (Value.bool false)) w4
            else R (Ending.returned (Value.bool false)) w4
     else
      bif p0.toList == ({ data := #[] } : ByteArray).toList then R (Ending.returned (Value.bool true)) w1
      else
       bif decide ((↑p1.size : Int) > (↑p0.size : Int)) then
        ((0 : Int) ≤ (↑p0.size : Int) ∧ (↑p0.size : Int) ≤ (↑p1.size : Int)) ∧
         bif (p1.extract (0 : Nat) (↑p0.size : Int).toNat).toList == p0.toList then
          ((0 : Int) ≤ (↑p0.size : Int) ∧ (↑p0.size : Int) < (↑p1.size : Int)) ∧ R (Ending.returned (Value.bool (byteAt p1 (↑p0.size : Int) == (47 : Int)))) w1
         else R (Ending.returned (Value.bool false)) w1
       else R (Ending.returned (Value.bool false)) w1
theorem vcTryd132 (p0 : ByteArray) (p1 : ByteArray) (w : World) (R : Ending → World → Prop) : SX.vcFn Tryd.prog [] Tryd.f132 [.v (.string p0), .v (.string p1)] [] w R = VCTryd132 p0 p1 w R := by kernel_rfl
def VCTryd134 (p0 : ByteArray) (p1 : ByteArray) (w : World) (R : Ending → World → Prop) : Prop :=
Rets Tryd.prog (170 : Nat) #[Value.string p0, Value.string p1] w fun (v0 : Value) (w1 : World) =>
 ∃ (s2 : ByteArray), ∃ (t3 : Bool), v0 = Value.tuple #[Value.string s2, Value.bool t3] ∧ Keeps w w1 [] ∧ R (Ending.returned (Value.bool t3)) w1
theorem vcTryd134 (p0 : ByteArray) (p1 : ByteArray) (w : World) (R : Ending → World → Prop) : SX.vcFn Tryd.prog [] Tryd.f134 [.v (.string p0), .v (.string p1)] [] w R = VCTryd134 p0 p1 w R := by kernel_rfl
def VCTryd170 (p0 : ByteArray) (p1 : ByteArray) (w : World) (R : Ending → World → Prop) : Prop :=
Rets Tryd.prog (104 : Nat) #[Value.string p1] w fun (v0 : Value) (w1 : World) =>
 ∃ (t2 : Bool),
  v0 = Value.bool t2 ∧
   Keeps w w1 [] ∧
    bif !t2 then R (Ending.returned (Value.tuple #[Value.string { data := #[] }, Value.bool false])) w1
    else
     bif p0.toList == ({ data := #[] } : ByteArray).toList then R (Ending.returned (Value.tuple #[Value.string p1, Value.bool true])) w1
     else
      Rets Tryd.prog (104 : Nat) #[Value.string p0] w1 fun (v3 : Value) (w4 : World) =>
       ∃ (t5 : Bool),
        v3 = Value.bool t5 ∧
         Keeps w1 w4 [] ∧
          bif !t5 then R (Ending.returned (Value.tuple #[Value.string { data := #[] }, Value.bool false])) w4
          else
           p0.size + (1 : Nat) ≤ (9223372036854775807 : Nat) ∧
            Rets Tryd.prog (188 : Nat) #[Value.string p1, Value.string (p0 ++ { data := #[(47 : UInt8)] })] w4 fun (v6 : Value) (w7 : World) =>
             ∃ (s8 : ByteArray), ∃ (t9 : Bool), v6 = Value.tuple #[Value.string s8, Value.bool t9] ∧ Keeps w4 w7 [] ∧ R (Ending.returned (Value.tuple #[Value.string s8, Value.bool t9])) w7
theorem vcTryd170 (p0 : ByteArray) (p1 : ByteArray) (w : World) (R : Ending → World → Prop) : SX.vcFn Tryd.prog [] Tryd.f170 [.v (.string p0), .v (.string p1)] [] w R = VCTryd170 p0 p1 w R := by kernel_rfl
def VCTryd188 (p0 : ByteArray) (p1 : ByteArray) (w : World) (R : Ending → World → Prop) : Prop :=
Rets Tryd.prog (200 : Nat) #[Value.string p0, Value.string p1] w fun (v0 : Value) (w1 : World) =>
 ∃ (s2 : ByteArray), ∃ (t3 : Bool), v0 = Value.tuple #[Value.string s2, Value.bool t3] ∧ Keeps w w1 [] ∧ R (Ending.returned (Value.tuple #[Value.string s2, Value.bool t3])) w1
theorem vcTryd188 (p0 : ByteArray) (p1 : ByteArray) (w : World) (R : Ending → World → Prop) : SX.vcFn Tryd.prog [] Tryd.f188 [.v (.string p0), .v (.string p1)] [] w R = VCTryd188 p0 p1 w R := by kernel_rfl
def VCTryd200 (p0 : ByteArray) (p1 : ByteArray) (w : World) (R : Ending → World → Prop) : Prop :=
Rets Tryd.prog (211 : Nat) #[Value.string p0, Value.string p1] w fun (v0 : Value) (w1 : World) =>
 ∃ (t2 : Bool),
  v0 = Value.bool t2 ∧
   Keeps w w1 [] ∧
    bif !t2 then R (Ending.returned (Value.tuple #[Value.string p0, Value.bool false])) w1
    else ((0 : Int) ≤ (↑p1.size : Int) ∧ (↑p1.size : Int) ≤ (↑p0.size : Int)) ∧ R (Ending.returned (Value.tuple #[Value.string (p0.extract (↑p1.size : Int).toNat p0.size), Value.bool true])) w1
theorem vcTryd200 (p0 : ByteArray) (p1 : ByteArray) (w : World) (R : Ending → World → Prop) : SX.vcFn Tryd.prog [] Tryd.f200 [.v (.string p0), .v (.string p1)] [] w R = VCTryd200 p0 p1 w R := by kernel_rfl
def VCTryd211 (p0 : ByteArray) (p1 : ByteArray) (w : World) (R : Ending → World → Prop) : Prop :=
bif decide ((↑p0.size : Int) ≥ (↑p1.size : Int)) then
 ((0 : Int) ≤ (↑p1.size : Int) ∧ (↑p1.size : Int) ≤ (↑p0.size : Int)) ∧ R (Ending.returned (Value.bool ((p0.extract (0 : Nat) (↑p1.size : Int).toNat).toList == p1.toList))) w
else R (Ending.returned (Value.bool false)) w
theorem vcTryd211 (p0 : ByteArray) (p1 : ByteArray) (w : World) (R : Ending → World → Prop) : SX.vcFn Tryd.prog [] Tryd.f211 [.v (.string p0), .v (.string p1)] [] w R = VCTryd211 p0 p1 w R := by kernel_rfl
def VCTryd202 (p0 : Option Addr) (p1 : Bool) (w : World) (R : Ending → World → Prop) : Prop :=
SX.Ptr p0 fun (a0 : Addr) =>
 ∃ (q1 : Option Addr),
  ∃ (n2 : Nat),
   ∃ (n3 : Nat),
    (w.alloc (Obj.cells #[Value.bool p1] (4 : Nat))).cell? (a0.add (0 : Nat)) = some (Value.slice q1 n2 n3) ∧
     (Known (w.alloc (Obj.cells #[Value.bool p1] (4 : Nat))) [(w.heap.size, [((0 : Nat), Value.bool p1)])] →
      Rets Tryd.prog (212 : Nat) #[Value.slice q1 n2 n3, Value.func (Fn.func (213 : Nat)) #[] #[Value.pointer (some { block := w.heap.size, off := (0 : Nat) })]] (w.alloc (Obj.cells #[Value.bool p1] (4 : Nat)))
       fun (v4 : Value) (w5 : World) =>
       ∃ (t6 : Bool),
        v4 = Value.bool t6 ∧
         Keeps (w.alloc (Obj.cells #[Value.bool p1] (4 : Nat))) w5 [] ∧
          ∃ (t7 : Bool),
           w5.cell? { block := w.heap.size, off := (0 : Nat) } = some (Value.bool t7) ∧
            w5.frozen? { block := w.heap.size, off := (0 : Nat) } = false ∧ (Known w5 [(w.heap.size, [((0 : Nat), Value.bool t7)])] → R (Ending.returned (Value.bool t6)) w5))
theorem vcTryd202 (p0 : Option Addr) (p1 : Bool) (w : World) (R : Ending → World → Prop) : SX.vcFn Tryd.prog [] Tryd.f202 [.v (.pointer p0), .v (.bool p1)] [] w R = VCTryd202 p0 p1 w R := by kernel_rfl
def VCTryd212 (p0 : Option Addr) (n0 c0 : Nat) (p1 : Value) (w : World) (R : Ending → World → Prop) : Prop :=
Rets Tryd.prog (219 : Nat) #[Value.slice p0 n0 c0, p1] w fun (v0 : Value) (w1 : World) => ∃ (i2 : Int), v0 = Value.int IntKind.i64 i2 ∧ Keeps w w1 [] ∧ R (Ending.returned (Value.bool (decide (i2 ≥ (0 : Int))))) w1
theorem vcTryd212 (p0 : Option Addr) (n0 c0 : Nat) (p1 : Value) (w : World) (R : Ending → World → Prop) : SX.vcFn Tryd.prog [] Tryd.f212 [.v (.slice p0 n0 c0), .v p1] [] w R = VCTryd212 p0 n0 c0 p1 w R := by kernel_rfl
def VCTryd219 (p0 : Option Addr) (n0 c0 : Nat) (p1 : Value) (w : World) (R : Ending → World → Prop) : Prop :=
∃ (I0 : Int → World → Prop),
 ∃ (I1 : Int → World → Nat),
  I0 (0 : Int) w ∧
   ∀ (i2 : Int) (w3 : World),
    I0 i2 w3 →
     bif decide (i2 < (↑n0 : Int)) then
      ((0 : Int) ≤ i2 ∧ i2 < (↑n0 : Int)) ∧
       SX.Ptr p0 fun (a4 : Addr) =>
        ∃ (t5 : Bool),
         ∃ (q6 : Option Addr),
          ∃ (n7 : Nat),
           ∃ (n8 : Nat),
            (w3.cell? ((a4.add (i2.toNat * (2 : Nat))).add (0 : Nat)) = some (Value.bool t5) ∧ w3.cell? ((a4.add (i2.toNat * (2 : Nat))).add (1 : Nat)) = some (Value.slice q6 n7 n8) ∧ True) ∧
             CallsVal Tryd.prog p1 #[Value.agg #[Value.bool t5, Value.slice q6 n7 n8]] w3 fun (v9 : Value) (w10 : World) =>
              ∃ (t11 : Bool),
               v9 = Value.bool t11 ∧
                Keeps w3 w10 [] ∧ bif t11 then R (Ending.returned (Value.int IntKind.i64 i2)) w10 else Wr IntKind.i64 (i2 + (1 : Int)) fun (i12 : Int) => I0 i12 w10 ∧ I1 i12 w10 < I1 i2 w3
     else R (Ending.returned (Value.int IntKind.i64 (-1 : Int))) w3
theorem vcTryd219 (p0 : Option Addr) (n0 c0 : Nat) (p1 : Value) (w : World) (R : Ending → World → Prop) : SX.vcFn Tryd.prog [(2, ⟨[(8, .int .i64)], [0, 1, 7], []⟩)] Tryd.f219 [.v (.slice p0 n0 c0), .v p1] [] w R = VCTryd219 p0 n0 c0 p1 w R := by kernel_rfl
def VCTryd190 (p0 : Option Addr) (p1 : Int) (p2 : Int) (p3 : Int) (w : World) (R : Ending → World → Prop) : Prop :=
bif p1 == p2 then
 Rets Tryd.prog (202 : Nat) #[Value.pointer p0, Value.bool true] w fun (v0 : Value) (w1 : World) =>
  ∃ (t2 : Bool),
   v0 = Value.bool t2 ∧
    Keeps w w1 [] ∧
     bif t2 then R (Ending.returned (Value.bool true)) w1
     else
      bif p1 == p3 then
       Rets Tryd.prog (202 : Nat) #[Value.pointer p0, Value.bool false] w1 fun (v3 : Value) (w4 : World) => ∃ (t5 : Bool), v3 = Value.bool t5 ∧ Keeps w1 w4 [] ∧ R (Ending.returned (Value.bool t5)) w4
      else R (Ending.returned (Value.bool false)) w1
else
 bif p1 == p3 then Rets Tryd.prog (202 : Nat) #[Value.pointer p0, Value.bool false] w fun (v6 : Value) (w7 : World) => ∃ (t8 : Bool), v6 = Value.bool t8 ∧ Keeps w w7 [] ∧ R (Ending.returned (Value.bool t8)) w7
 else R (Ending.returned (Value.bool false)) w
theorem vcTryd190 (p0 : Option Addr) (p1 : Int) (p2 : Int) (p3 : Int) (w : World) (R : Ending → World → Prop) : SX.vcFn Tryd.prog [] Tryd.f190 [.v (.pointer p0), .v (.int .i64 p1), .v (.int .i64 p2), .v (.int .i64 p3)] [] w R = VCTryd190 p0 p1 p2 p3 w R := by kernel_rfl
def VCTryd206 (p0 : Option Addr) (w : World) (R : Ending → World → Prop) : Prop :=
SX.Ptr p0 fun (a0 : Addr) =>
 ∃ (t1 : Bool),
  w.cell? (a0.add (3 : Nat)) = some (Value.bool t1) ∧
   bif t1 then R (Ending.returned (Value.int IntKind.i64 (8 : Int))) w
   else
    SX.Ptr p0 fun (a2 : Addr) =>
     ∃ (t3 : Bool), w.cell? (a2.add (2 : Nat)) = some (Value.bool t3) ∧ bif t3 then R (Ending.returned (Value.int IntKind.i64 (11 : Int))) w else R (Ending.returned (Value.int IntKind.i64 (0 : Int))) w
theorem vcTryd206 (p0 : Option Addr) (w : World) (R : Ending → World → Prop) : SX.vcFn Tryd.prog [] Tryd.f206 [.v (.pointer p0)] [] w R = VCTryd206 p0 w R := by kernel_rfl
def VCTryd205 (p0 : Option Addr) (p1 : ByteArray) (w : World) (R : Ending → World → Prop) : Prop :=
SX.Ptr p0 fun (a0 : Addr) =>
 ∃ (q1 : Option Addr),
  ∃ (n2 : Nat),
   ∃ (n3 : Nat),
    w.cell? (a0.add (4 : Nat)) = some (Value.slice q1 n2 n3) ∧
     Rets Tryd.prog (137 : Nat) #[Value.slice q1 n2 n3, Value.string p1] w fun (v4 : Value) (w5 : World) =>
      ∃ (i6 : Int),
       ∃ (t7 : Bool),
        v4 = Value.tuple #[Value.int IntKind.i64 i6, Value.bool t7] ∧
         Keeps w w5 [] ∧ bif !t7 then R (Ending.returned (Value.int IntKind.i64 (7 : Int))) w5 else R (Ending.returned (Value.int IntKind.i64 (0 : Int))) w5
theorem vcTryd205 (p0 : Option Addr) (p1 : ByteArray) (w : World) (R : Ending → World → Prop) : SX.vcFn Tryd.prog [] Tryd.f205 [.v (.pointer p0), .v (.string p1)] [] w R = VCTryd205 p0 p1 w R := by kernel_rfl
def VCTryd204 (p0 : Option Addr) (p1 : Int) (w : World) (R : Ending → World → Prop) : Prop :=
SX.Ptr p0 fun (a0 : Addr) =>
 ∃ (t1 : Bool),
  w.cell? (a0.add (3 : Nat)) = some (Value.bool t1) ∧
   bif !t1 then R (Ending.returned (Value.int IntKind.i64 (15 : Int))) w
   else
    SX.Ptr p0 fun (a2 : Addr) =>
     ∃ (q3 : Option Addr),
      ∃ (n4 : Nat),
       ∃ (n5 : Nat),
        w.cell? (a2.add (6 : Nat)) = some (Value.slice q3 n4 n5) ∧
         Wr IntKind.i64 ((65536 : Int) - (↑n4 : Int)) fun (i6 : Int) =>
          bif decide (p1 > i6) then R (Ending.returned (Value.int IntKind.i64 (5 : Int))) w else R (Ending.returned (Value.int IntKind.i64 (0 : Int))) w
theorem vcTryd204 (p0 : Option Addr) (p1 : Int) (w : World) (R : Ending → World → Prop) : SX.vcFn Tryd.prog [] Tryd.f204 [.v (.pointer p0), .v (.int .i64 p1)] [] w R = VCTryd204 p0 p1 w R := by kernel_rfl
def VCTryd203 (p0 : Option Addr) (p1 : ByteArray) (p2 : Int) (w : World) (R : Ending → World → Prop) : Prop :=
Rets Tryd.prog (206 : Nat) #[Value.pointer p0] w fun (v0 : Value) (w1 : World) =>
 ∃ (i2 : Int),
  v0 = Value.int IntKind.i64 i2 ∧
   Keeps w w1 [] ∧
    bif i2 != (0 : Int) then R (Ending.returned (Value.int IntKind.i64 i2)) w1
    else
     SX.Ptr p0 fun (a3 : Addr) =>
      ∃ (q4 : Option Addr),
       ∃ (n5 : Nat),
        ∃ (n6 : Nat),
         w1.cell? (a3.add (4 : Nat)) = some (Value.slice q4 n5 n6) ∧
          Rets Tryd.prog (137 : Nat) #[Value.slice q4 n5 n6, Value.string p1] w1 fun (v7 : Value) (w8 : World) =>
           ∃ (i9 : Int),
            ∃ (t10 : Bool),
             v7 = Value.tuple #[Value.int IntKind.i64 i9, Value.bool t10] ∧
              Keeps w1 w8 [] ∧
               Rets Tryd.prog (104 : Nat) #[Value.string p1] w8 fun (v11 : Value) (w12 : World) =>
                ∃ (t13 : Bool),
                 v11 = Value.bool t13 ∧
                  Keeps w8 w12 [] ∧
                   bif !t13 then R (Ending.returned (Value.int IntKind.i64 (6 : Int))) w12
                   else
                    bif decide (p2 > (65536 : Int)) then R (Ending.returned (Value.int IntKind.i64 (5 : Int))) w12
                    else
                     bif !t10 then
                      SX.Ptr p0 fun (a14 : Addr) =>
                       ∃ (q15 : Option Addr),
                        ∃ (n16 : Nat),
                         ∃ (n17 : Nat),
                          w12.cell? (a14.add (4 : Nat)) = some (Value.slice q15 n16 n17) ∧
                           bif decide ((↑n16 : Int) ≥ (200 : Int)) then R (Ending.returned (Value.int IntKind.i64 (14 : Int))) w12 else R (Ending.returned (Value.int IntKind.i64 (0 : Int))) w12
                     else R (Ending.returned (Value.int IntKind.i64 (0 : Int))) w12
theorem vcTryd203 (p0 : Option Addr) (p1 : ByteArray) (p2 : Int) (w : World) (R : Ending → World → Prop) : SX.vcFn Tryd.prog [] Tryd.f203 [.v (.pointer p0), .v (.string p1), .v (.int .i64 p2)] [] w R = VCTryd203 p0 p1 p2 w R := by kernel_rfl
def VCTryd192 (p0 : Option Addr) (n0 c0 : Nat) (p1 : Option Addr) (n1 c1 : Nat) (w : World) (R : Ending → World → Prop) : Prop :=
bif (↑n0 : Int) != (↑n1 : Int) then R (Ending.returned (Value.bool false)) w
else
 ∃ (I0 : Int → World → Prop),
  ∃ (I1 : Int → World → Nat),
   I0 (0 : Int) w ∧
    ∀ (i2 : Int) (w3 : World),
     I0 i2 w3 →
      bif decide (i2 < (↑n0 : Int)) then
       ((0 : Int) ≤ i2 ∧ i2 < (↑n0 : Int)) ∧
        SX.Ptr p0 fun (a4 : Addr) =>
         ∃ (s5 : ByteArray),
          w3.drew.cell? (a4.add (i2.toNat * (1 : Nat))) = some (Value.string s5) ∧
           ((0 : Int) ≤ i2 ∧ i2 < (↑n1 : Int)) ∧
            SX.Ptr p1 fun (a6 : Addr) =>
             ∃ (s7 : ByteArray),
              w3.drew.cell? (a6.add (i2.toNat * (1 : Nat))) = some (Value.string s7) ∧
               bif !s5.toList == s7.toList then R (Ending.returned (Value.bool false)) w3.drew else Wr IntKind.i64 (i2 + (1 : Int)) fun (i8 : Int) => I0 i8 w3.drew ∧ I1 i8 w3.drew < I1 i2 w3
      else R (Ending.returned (Value.bool true)) w3
theorem vcTryd192 (p0 : Option Addr) (n0 c0 : Nat) (p1 : Option Addr) (n1 c1 : Nat) (w : World) (R : Ending → World → Prop) : SX.vcFn Tryd.prog [(4, ⟨[(13, .int .i64)], [1, 0, 12], []⟩)] Tryd.f192 [.v (.slice p0 n0 c0), .v (.slice p1 n1 c1)] [] w R = VCTryd192 p0 n0 c0 p1 n1 c1 w R := by kernel_rfl
def VCTryd193 (p0 : Option Addr) (n0 c0 : Nat) (p1 : ByteArray) (w : World) (R : Ending → World → Prop) : Prop :=
∃ (I0 : Int → Option Addr → Nat → Nat → World → Prop),
 ∃ (I1 : Int → Option Addr → Nat → Nat → World → Nat),
  I0 (0 : Int) none (0 : Nat) (0 : Nat) w ∧
   ∀ (i2 : Int) (q3 : Option Addr) (n4 n5 : Nat) (w6 : World),
    I0 i2 q3 n4 n5 w6 →
     bif decide (i2 < (↑n0 : Int)) then
      ((0 : Int) ≤ i2 ∧ i2 < (↑n0 : Int)) ∧
       SX.Ptr p0 fun (a7 : Addr) =>
        ∃ (s8 : ByteArray),
         ∃ (q9 : Option Addr),
          ∃ (n10 : Nat),
           ∃ (n11 : Nat),
            (w6.cell? ((a7.add (i2.toNat * (2 : Nat))).add (0 : Nat)) = some (Value.string s8) ∧ w6.cell? ((a7.add (i2.toNat * (2 : Nat))).add (1 : Nat)) = some (Value.slice q9 n10 n11) ∧ True) ∧
             (Known
               (((w6.alloc (Obj.cells #[Value.string { data := #[] }, Value.slice none (0 : Nat) (0 : Nat)] (107 : Nat))).setCell { block := w6.heap.size, off := (0 : Nat) } (Value.string s8)).setCell
                {block := w6.heap.size, off := (1 : Nat) } (Value.slice q9 n10 n11))
               [(w6.heap.size, [((0 : Nat), Value.string s8), ((1 : Nat), Value.slice q9 n10 n11)])] →
              Rets Tryd.prog (134 : Nat) #[Value.string p1, Value.string s8]
               (((w6.alloc (Obj.cells #[Value.string { data := #[] }, Value.slice none (0 : Nat) (0 : Nat)] (107 : Nat))).setCell { block := w6.heap.size, off := (0 : Nat) } (Value.string s8)).setCell
                {block := w6.heap.size, off := (1 : Nat) } (Value.slice q9 n10 n11))
               fun (v12 : Value) (w13 : World) =>
               ∃ (t14 : Bool),
                v12 = Value.bool t14 ∧
                 Keeps
                   (((w6.alloc (Obj.cells #[Value.string { data := #[] }, Value.slice none (0 : Nat) (0 : Nat)] (107 : Nat))).setCell { block := w6.heap.size, off := (0 : Nat) }
                      (Value.string s8)).setCell
                    {block := w6.heap.size, off := (1 : Nat) } (Value.slice q9 n10 n11))
                   w13 [w6.heap.size] ∧
                  bif t14 then
                   Runs Tryd.prog (Builtin.append_ #[(46 : Nat), (46 : Nat)] (46 : Nat) #[Value.slice q3 n4 n5, Value.slice (some { block := w13.heap.size, off := (0 : Nat) }) (1 : Nat) (1 : Nat)])
                    (w13.alloc (Obj.cells #[Value.string s8] (9 : Nat))) fun (v15 : Value) (w16 : World) =>
                    ∃ (q17 : Option Addr),
                     ∃ (n18 : Nat),
                      ∃ (n19 : Nat),
                       v15 = Value.slice q17 n18 n19 ∧
                        Keeps (w13.alloc (Obj.cells #[Value.string s8] (9 : Nat))) w16 [w6.heap.size] ∧
                         Wr IntKind.i64 (i2 + (1 : Int)) fun (i20 : Int) => I0 i20 q17 n18 n19 w16 ∧ I1 i20 q17 n18 n19 w16 < I1 i2 q3 n4 n5 w6
                  else Wr IntKind.i64 (i2 + (1 : Int)) fun (i21 : Int) => I0 i21 q3 n4 n5 w13 ∧ I1 i21 q3 n4 n5 w13 < I1 i2 q3 n4 n5 w6)
     else R (Ending.returned (Value.slice q3 n4 n5)) w6
theorem vcTryd193 (p0 : Option Addr) (n0 c0 : Nat) (p1 : ByteArray) (w : World) (R : Ending → World → Prop) : SX.vcFn Tryd.prog [(3, ⟨[(10, .int .i64), (5, .slice)], [1, 8, 9], []⟩)] Tryd.f193 [.v (.slice p0 n0 c0), .v (.string p1)] [] w R = VCTryd193 p0 n0 c0 p1 w R := by kernel_rfl
def VCTryd175 (p0 : Int) (w : World) (R : Ending → World → Prop) : Prop :=
bif p0 == (1 : Int) then bif p0 == (1 : Int) then R (Ending.returned (Value.bool true)) w else R (Ending.returned (Value.bool false)) w
else
 bif p0 == (2 : Int) then bif p0 == (2 : Int) then R (Ending.returned (Value.bool true)) w else R (Ending.returned (Value.bool false)) w
 else
  bif p0 == (3 : Int) then bif p0 == (3 : Int) then R (Ending.returned (Value.bool true)) w else R (Ending.returned (Value.bool false)) w
  else
   bif p0 == (4 : Int) then bif p0 == (4 : Int) then R (Ending.returned (Value.bool true)) w else R (Ending.returned (Value.bool false)) w
   else
    bif p0 == (5 : Int) then bif p0 == (5 : Int) then R (Ending.returned (Value.bool true)) w else R (Ending.returned (Value.bool false)) w
    else
     bif p0 == (6 : Int) then bif p0 == (6 : Int) then R (Ending.returned (Value.bool true)) w else R (Ending.returned (Value.bool false)) w
     else
      bif p0 == (11 : Int) then bif p0 == (11 : Int) then R (Ending.returned (Value.bool true)) w else R (Ending.returned (Value.bool false)) w
      else
       bif p0 == (12 : Int) then bif p0 == (12 : Int) then R (Ending.returned (Value.bool true)) w else R (Ending.returned (Value.bool false)) w
       else
        bif p0 == (13 : Int) then bif p0 == (13 : Int) then R (Ending.returned (Value.bool true)) w else R (Ending.returned (Value.bool false)) w
        else bif p0 == (14 : Int) then R (Ending.returned (Value.bool true)) w else R (Ending.returned (Value.bool false)) w
theorem vcTryd175 (p0 : Int) (w : World) (R : Ending → World → Prop) : SX.vcFn Tryd.prog [] Tryd.f175 [.v (.int .i64 p0)] [] w R = VCTryd175 p0 w R := by kernel_rfl
def VCTryd213 (th : Bool) (sq : Option Addr) (sn sc : Nat) (p1 : Option Addr) (w : World) (R : Ending → World → Prop) : Prop :=
SX.Ptr p1 fun (a0 : Addr) =>
 ∃ (t1 : Bool),
  (w.alloc (Obj.cells #[Value.bool th, Value.slice sq sn sc] (130 : Nat))).cell? a0 = some (Value.bool t1) ∧
   (Known (w.alloc (Obj.cells #[Value.bool th, Value.slice sq sn sc] (130 : Nat))) [(w.heap.size, [((0 : Nat), Value.bool th), ((1 : Nat), Value.slice sq sn sc)])] →
    R (Ending.returned (Value.bool (th == t1))) (w.alloc (Obj.cells #[Value.bool th, Value.slice sq sn sc] (130 : Nat))))
theorem vcTryd213 (th : Bool) (sq : Option Addr) (sn sc : Nat) (p1 : Option Addr) (w : World) (R : Ending → World → Prop) : SX.vcFn Tryd.prog [] Tryd.f213 [.v (.agg #[.bool th, .slice sq sn sc]), .v (.pointer p1)] [] w R = VCTryd213 th sq sn sc p1 w R := by kernel_rfl
def VCTryd95 (p : Option Addr) (th : Bool) (sq : Option Addr) (sn sc : Nat) (w : World) (R : Ending → World → Prop) : Prop :=
bif p.isNone then
 Known (w.alloc (Obj.cells #[Value.bool th, Value.slice sq sn sc] (130 : Nat))) [(w.heap.size, [((0 : Nat), Value.bool th), ((1 : Nat), Value.slice sq sn sc)])] →
  R (Ending.returned (Value.bool false)) (w.alloc (Obj.cells #[Value.bool th, Value.slice sq sn sc] (130 : Nat)))
else
 SX.Ptr p fun (a0 : Addr) =>
  ∃ (q1 : Option Addr),
   ∃ (n2 : Nat),
    ∃ (n3 : Nat),
     (w.alloc (Obj.cells #[Value.bool th, Value.slice sq sn sc] (130 : Nat))).cell? (a0.add (0 : Nat)) = some (Value.slice q1 n2 n3) ∧
      ∃ (I4 : Int → Bool → World → Prop),
       ∃ (I5 : Int → Bool → World → Nat),
        I4 (0 : Int) false (w.alloc (Obj.cells #[Value.bool th, Value.slice sq sn sc] (130 : Nat))) ∧
         ∀ (i6 : Int) (t7 : Bool) (w8 : World),
          I4 i6 t7 w8 →
           Known w8 [(w.heap.size, [((0 : Nat), Value.bool th), ((1 : Nat), Value.slice sq sn sc)])] →
            bif decide (i6 < (↑n2 : Int)) then
             ((0 : Int) ≤ i6 ∧ i6 < (↑n2 : Int)) ∧
              SX.Ptr q1 fun (a9 : Addr) =>
               ∃ (t10 : Bool),
                ∃ (q11 : Option Addr),
                 ∃ (n12 : Nat),
                  ∃ (n13 : Nat),
                   (w8.cell? ((a9.add (i6.toNat * (2 : Nat))).add (0 : Nat)) = some (Value.bool t10) ∧
                     w8.cell? ((a9.add (i6.toNat * (2 : Nat))).add (1 : Nat)) = some (Value.slice q11 n12 n13) ∧ True) ∧
                    bif !t10 == th then
                     Wr IntKind.i64 (i6 + (1 : Int)) fun (i14 : Int) =>
                      SameVals [Value.bool th, Value.slice sq sn sc] [Value.bool th, Value.slice sq sn sc] ∧
                       I4 i14 t7
                         (((w8.alloc (Obj.cells #[Value.bool false, Value.slice none (0 : Nat) (0 : Nat)] (130 : Nat))).setCell { block := w8.heap.size, off := (0 : Nat) }
                            (Value.bool t10)).setCell
                          {block := w8.heap.size, off := (1 : Nat) } (Value.slice q11 n12 n13)) ∧
                        I5 i14 t7
                          (((w8.alloc (Obj.cells #[Value.bool false, Value.slice none (0 : Nat) (0 : Nat)] (130 : Nat))).setCell { block := w8.heap.size, off := (0 : Nat) }
                             (Value.bool t10)).setCell
                           {block := w8.heap.size, off := (1 : Nat) } (Value.slice q11 n12 n13)) <
                         I5 i6 t7 w8
                    else
                     bif !t10 then
                      Known
                        (((w8.alloc (Obj.cells #[Value.bool false, Value.slice none (0 : Nat) (0 : Nat)] (130 : Nat))).setCell { block := w8.heap.size, off := (0 : Nat) } (Value.bool t10)).setCell
                         {block := w8.heap.size, off := (1 : Nat) } (Value.slice q11 n12 n13))
                        [(w.heap.size, [((0 : Nat), Value.bool th), ((1 : Nat), Value.slice sq sn sc)]), (w8.heap.size, [((0 : Nat), Value.bool t10), ((1 : Nat), Value.slice q11 n12 n13)])] →
                       R (Ending.returned (Value.bool true))
                        (((w8.alloc (Obj.cells #[Value.bool false, Value.slice none (0 : Nat) (0 : Nat)] (130 : Nat))).setCell { block := w8.heap.size, off := (0 : Nat) } (Value.bool t10)).setCell
                         {block := w8.heap.size, off := (1 : Nat) } (Value.slice q11 n12 n13))
                     else
                      Known
                        (((w8.alloc (Obj.cells #[Value.bool false, Value.slice none (0 : Nat) (0 : Nat)] (130 : Nat))).setCell { block := w8.heap.size, off := (0 : Nat) } (Value.bool t10)).setCell
                         {block := w8.heap.size, off := (1 : Nat) } (Value.slice q11 n12 n13))
                        [(w.heap.size, [((0 : Nat), Value.bool th), ((1 : Nat), Value.slice sq sn sc)]), (w8.heap.size, [((0 : Nat), Value.bool t10), ((1 : Nat), Value.slice q11 n12 n13)])] →
                       Rets Tryd.prog (84 : Nat) #[Value.slice q11 n12 n13, Value.slice sq sn sc]
                        (((w8.alloc (Obj.cells #[Value.bool false, Value.slice none (0 : Nat) (0 : Nat)] (130 : Nat))).setCell { block := w8.heap.size, off := (0 : Nat) } (Value.bool t10)).setCell
                         {block := w8.heap.size, off := (1 : Nat) } (Value.slice q11 n12 n13))
                        fun (v15 : Value) (w16 : World) =>
                        ∃ (t17 : Bool),
                         v15 = Value.bool t17 ∧
                          Keeps
                            (((w8.alloc (Obj.cells #[Value.bool false, Value.slice none (0 : Nat) (0 : Nat)] (130 : Nat))).setCell { block := w8.heap.size, off := (0 : Nat) }
                               (Value.bool t10)).setCell
                             {block := w8.heap.size, off := (1 : Nat) } (Value.slice q11 n12 n13))
                            w16 [w.heap.size, w8.heap.size] ∧
                           bif t17 then
                            Known w16
                              [(w.heap.size, [((0 : Nat), Value.bool th), ((1 : Nat), Value.slice sq sn sc)]),
                               (w8.heap.size, [((0 : Nat), Value.bool t10), ((1 : Nat), Value.slice q11 n12 n13)])] →
                             R (Ending.returned (Value.bool true)) w16
                           else
                            Wr IntKind.i64 (i6 + (1 : Int)) fun (i18 : Int) =>
                             SameVals [Value.bool th, Value.slice sq sn sc] [Value.bool th, Value.slice sq sn sc] ∧ I4 i18 t7 w16 ∧ I5 i18 t7 w16 < I5 i6 t7 w8
            else Known w8 [(w.heap.size, [((0 : Nat), Value.bool th), ((1 : Nat), Value.slice sq sn sc)])] → R (Ending.returned (Value.bool t7)) w8
theorem vcTryd95 (p : Option Addr) (th : Bool) (sq : Option Addr) (sn sc : Nat) (w : World) (R : Ending → World → Prop) : SX.vcFn Tryd.prog [(5, ⟨[(15, .int .i64), (5, .bool)], [3, 13, 14], []⟩)] Tryd.f95 [.v (.pointer p), .v (.agg #[.bool th, .slice sq sn sc])] [] w R = VCTryd95 p th sq sn sc w R := by kernel_rfl
def VCTryd177 (e : Int) (aq : Option Addr) (an ac : Nat) (z : Int) (nq : Option Addr) (nn nc : Nat) (lq : Option Addr) (ln lc : Nat) (re po : Bool) (w : World) (R : Ending → World → Prop) : Prop :=
bif (↑an : Int) == (0 : Int) then
 bif z == (0 : Int) then
  bif (↑nn : Int) == (0 : Int) then
   Known (w.alloc (Obj.cells #[Value.int IntKind.i64 e, Value.slice aq an ac, Value.int IntKind.i64 z, Value.slice nq nn nc, Value.slice lq ln lc, Value.bool re, Value.bool po] (126 : Nat)))
     [(w.heap.size,
       [((0 : Nat), Value.int IntKind.i64 e), ((1 : Nat), Value.slice aq an ac), ((2 : Nat), Value.int IntKind.i64 z), ((3 : Nat), Value.slice nq nn nc), ((4 : Nat), Value.slice lq ln lc),
        ((5 : Nat), Value.bool re), ((6 : Nat), Value.bool po)])] →
    R (Ending.returned (Value.bool ((↑ln : Int) == (0 : Int))))
     (w.alloc (Obj.cells #[Value.int IntKind.i64 e, Value.slice aq an ac, Value.int IntKind.i64 z, Value.slice nq nn nc, Value.slice lq ln lc, Value.bool re, Value.bool po] (126 : Nat)))
  else
   Known (w.alloc (Obj.cells #[Value.int IntKind.i64 e, Value.slice aq an ac, Value.int IntKind.i64 z, Value.slice nq nn nc, Value.slice lq ln lc, Value.bool re, Value.bool po] (126 : Nat)))
     [(w.heap.size,
       [((0 : Nat), Value.int IntKind.i64 e), ((1 : Nat), Value.slice aq an ac), ((2 : Nat), Value.int IntKind.i64 z), ((3 : Nat), Value.slice nq nn nc), ((4 : Nat), Value.slice lq ln lc),
        ((5 : Nat), Value.bool re), ((6 : Nat), Value.bool po)])] →
    R (Ending.returned (Value.bool false))
     (w.alloc (Obj.cells #[Value.int IntKind.i64 e, Value.slice aq an ac, Value.int IntKind.i64 z, Value.slice nq nn nc, Value.slice lq ln lc, Value.bool re, Value.bool po] (126 : Nat)))
 else
  Known (w.alloc (Obj.cells #[Value.int IntKind.i64 e, Value.slice aq an ac, Value.int IntKind.i64 z, Value.slice nq nn nc, Value.slice lq ln lc, Value.bool re, Value.bool po] (126 : Nat)))
    [(w.heap.size,
      [((0 : Nat), Value.int IntKind.i64 e), ((1 : Nat), Value.slice aq an ac), ((2 : Nat), Value.int IntKind.i64 z), ((3 : Nat), Value.slice nq nn nc), ((4 : Nat), Value.slice lq ln lc),
       ((5 : Nat), Value.bool re), ((6 : Nat), Value.bool po)])] →
   R (Ending.returned (Value.bool false))
    (w.alloc (Obj.cells #[Value.int IntKind.i64 e, Value.slice aq an ac, Value.int IntKind.i64 z, Value.slice nq nn nc, Value.slice lq ln lc, Value.bool re, Value.bool po] (126 : Nat)))
else
 Known (w.alloc (Obj.cells #[Value.int IntKind.i64 e, Value.slice aq an ac, Value.int IntKind.i64 z, Value.slice nq nn nc, Value.slice lq ln lc, Value.bool re, Value.bool po] (126 : Nat)))
   [(w.heap.size,
     [((0 : Nat), Value.int IntKind.i64 e), ((1 : Nat), Value.slice aq an ac), ((2 : Nat), Value.int IntKind.i64 z), ((3 : Nat), Value.slice nq nn nc), ((4 : Nat), Value.slice lq ln lc), ((5 : Nat), Value.bool re),
      ((6 : Nat), Value.bool po)])] →
  R (Ending.returned (Value.bool false))
   (w.alloc (Obj.cells #[Value.int IntKind.i64 e, Value.slice aq an ac, Value.int IntKind.i64 z, Value.slice nq nn nc, Value.slice lq ln lc, Value.bool re, Value.bool po] (126 : Nat)))
theorem vcTryd177 (e : Int) (aq : Option Addr) (an ac : Nat) (z : Int) (nq : Option Addr) (nn nc : Nat) (lq : Option Addr) (ln lc : Nat) (re po : Bool) (w : World) (R : Ending → World → Prop) : SX.vcFn Tryd.prog [] Tryd.f177 [.v (.agg #[.int .i64 e, .slice aq an ac, .int .i64 z, .slice nq nn nc, .slice lq ln lc, .bool re, .bool po])] [] w R = VCTryd177 e aq an ac z nq nn nc lq ln lc re po w R := by kernel_rfl
end Go.Proofs.YtbpknjldphckgaaDoor
