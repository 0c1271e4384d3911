/- The conditions of functions, as the executor computes them: each is equal to what 'vcFn' says. -/
import Derived.Test.YtbpknjldphckgaaDoorSxLib
import Derived.Test.YtbpknjldphckgaaDoorProg
namespace Go.Proofs.YtbpknjldphckgaaDoor
open Go Go.SX Go.Proofs
set_option maxRecDepth 100000
set_option linter.unusedVariables false
def VCTryd82 (p0 : Option Addr) (n0 c0 : Nat) (w : World) (R : Ending → World → Prop) : Prop :=
∃ (I0 : Int → World → Prop),
 ∃ (I1 : Int → World → Nat),
  I0 (0 : Int) w ∧
   ∀ (i2 : Int) (w3 : World),
    I0 i2 w3 →
     bif decide (i2 < (↑n0 : Int)) then
      bif decide (i2 < (300 : Int)) then
       ((0 : Int) ≤ i2 ∧ i2 < (↑n0 : Int)) ∧
        SX.Ptr p0 fun (a4 : Addr) =>
         ∃ (s5 : ByteArray),
          w3.cell? ((a4.add (i2.toNat * (2 : Nat))).add (0 : Nat)) = some (Value.string s5) ∧
           bif decide ((↑s5.size : Int) > (300 : Int)) then R (Ending.returned (Value.bool true)) w3
           else
            ((0 : Int) ≤ i2 ∧ i2 < (↑n0 : Int)) ∧
             SX.Ptr p0 fun (a6 : Addr) =>
              ∃ (q7 : Option Addr),
               ∃ (n8 : Nat),
                ∃ (n9 : Nat),
                 w3.cell? ((a6.add (i2.toNat * (2 : Nat))).add (1 : Nat)) = some (Value.slice q7 n8 n9) ∧
                  bif decide ((↑n8 : Int) > (70000 : Int)) then R (Ending.returned (Value.bool true)) w3 else Wr IntKind.i64 (i2 + (1 : Int)) fun (i10 : Int) => I0 i10 w3 ∧ I1 i10 w3 < I1 i2 w3
      else R (Ending.returned (Value.bool (decide ((↑n0 : Int) > (250 : Int))))) w3
     else R (Ending.returned (Value.bool (decide ((↑n0 : Int) > (250 : Int))))) w3
theorem vcTryd82 (p0 : Option Addr) (n0 c0 : Nat) (w : World) (R : Ending → World → Prop) : SX.vcFn Tryd.prog [(2, ⟨[(3, .int .i64)], [0], []⟩)] Tryd.f82 [.v (.slice p0 n0 c0)] [] w R = VCTryd82 p0 n0 c0 w R := by kernel_rfl
def VCTryd84 (p0 : Option Addr) (n0 c0 : Nat) (p1 : Option Addr) (n1 c1 : Nat) (w : World) (R : Ending → World → Prop) : Prop :=
Rets Tryd.prog (135 : Nat) #[Value.slice p0 n0 c0, Value.slice p1 n1 c1, Value.func (Fn.func (136 : Nat)) #[] #[]] w fun (v0 : Value) (w1 : World) =>
 ∃ (t2 : Bool), v0 = Value.bool t2 ∧ Keeps w w1 [] ∧ R (Ending.returned (Value.bool t2)) w1
theorem vcTryd84 (p0 : Option Addr) (n0 c0 : Nat) (p1 : Option Addr) (n1 c1 : Nat) (w : World) (R : Ending → World → Prop) : SX.vcFn Tryd.prog [] Tryd.f84 [.v (.slice p0 n0 c0), .v (.slice p1 n1 c1)] [] w R = VCTryd84 p0 n0 c0 p1 n1 c1 w R := by kernel_rfl
def VCTryd85 (p0 : Option Addr) (n0 c0 : Nat) (p1 : Option Addr) (n1 c1 : Nat) (w : World) (R : Ending → World → Prop) : Prop :=
bif (↑n0 : Int) != (↑n1 : Int) then R (Ending.returned (Value.bool false)) w
else
 ∃ (I0 : Int → World → Prop),
  ∃ (I1 : Int → World → Nat),
   I0 (0 : Int) w ∧
    ∀ (i2 : Int) (w3 : World),
     I0 i2 w3 →
      bif decide (i2 < (↑n0 : Int)) then
       ((0 : Int) ≤ i2 ∧ i2 < (↑n0 : Int)) ∧
        SX.Ptr p0 fun (a4 : Addr) =>
         ∃ (s5 : ByteArray),
          w3.drew.cell? ((a4.add (i2.toNat * (2 : Nat))).add (0 : Nat)) = some (Value.string s5) ∧
           ((0 : Int) ≤ i2 ∧ i2 < (↑n1 : Int)) ∧
            SX.Ptr p1 fun (a6 : Addr) =>
             ∃ (s7 : ByteArray),
              w3.drew.cell? ((a6.add (i2.toNat * (2 : Nat))).add (0 : Nat)) = some (Value.string s7) ∧
               bif !s5.toList == s7.toList then R (Ending.returned (Value.bool false)) w3.drew
               else
                ((0 : Int) ≤ i2 ∧ i2 < (↑n0 : Int)) ∧
                 SX.Ptr p0 fun (a8 : Addr) =>
                  ∃ (q9 : Option Addr),
                   ∃ (n10 : Nat),
                    ∃ (n11 : Nat),
                     w3.drew.cell? ((a8.add (i2.toNat * (2 : Nat))).add (1 : Nat)) = some (Value.slice q9 n10 n11) ∧
                      ∃ (s12 : ByteArray),
                       s12.size = n10 ∧
                        BytesAt w3.drew q9 s12 ∧
                         ((0 : Int) ≤ i2 ∧ i2 < (↑n1 : Int)) ∧
                          SX.Ptr p1 fun (a13 : Addr) =>
                           ∃ (q14 : Option Addr),
                            ∃ (n15 : Nat),
                             ∃ (n16 : Nat),
                              w3.drew.cell? ((a13.add (i2.toNat * (2 : Nat))).add (1 : Nat)) = some (Value.slice q14 n15 n16) ∧
                               ∃ (s17 : ByteArray),
                                s17.size = n15 ∧
                                 BytesAt w3.drew q14 s17 ∧
                                  bif !s12.toList == s17.toList then R (Ending.returned (Value.bool false)) w3.drew
                                  else Wr IntKind.i64 (i2 + (1 : Int)) fun (i18 : Int) => I0 i18 w3.drew ∧ I1 i18 w3.drew < I1 i2 w3
      else R (Ending.returned (Value.bool true)) w3
theorem vcTryd85 (p0 : Option Addr) (n0 c0 : Nat) (p1 : Option Addr) (n1 c1 : Nat) (w : World) (R : Ending → World → Prop) : SX.vcFn Tryd.prog [(4, ⟨[(5, .int .i64)], [1, 0], []⟩)] Tryd.f85 [.v (.slice p0 n0 c0), .v (.slice p1 n1 c1)] [] w R = VCTryd85 p0 n0 c0 p1 n1 c1 w R := by kernel_rfl
def VCTryd86 (p0 : Option Addr) (n0 c0 : Nat) (w : World) (R : Ending → World → Prop) : Prop :=
∃ (I0 : Int → World → Prop),
 ∃ (I1 : Int → World → Nat),
  I0 (1 : Int) w ∧
   ∀ (i2 : Int) (w3 : World),
    I0 i2 w3 →
     bif decide (i2 < (↑n0 : Int)) then
      Wr IntKind.i64 (i2 - (1 : Int)) fun (i4 : Int) =>
       ((0 : Int) ≤ i4 ∧ i4 < (↑n0 : Int)) ∧
        SX.Ptr p0 fun (a5 : Addr) =>
         ∃ (s6 : ByteArray),
          w3.drew.cell? ((a5.add (i4.toNat * (2 : Nat))).add (0 : Nat)) = some (Value.string s6) ∧
           ((0 : Int) ≤ i2 ∧ i2 < (↑n0 : Int)) ∧
            SX.Ptr p0 fun (a7 : Addr) =>
             ∃ (s8 : ByteArray),
              w3.drew.cell? ((a7.add (i2.toNat * (2 : Nat))).add (0 : Nat)) = some (Value.string s8) ∧
               bif !Op.bytesLess s6.toList s8.toList then R (Ending.returned (Value.bool false)) w3.drew else Wr IntKind.i64 (i2 + (1 : Int)) fun (i9 : Int) => I0 i9 w3.drew ∧ I1 i9 w3.drew < I1 i2 w3
     else R (Ending.returned (Value.bool true)) w3
theorem vcTryd86 (p0 : Option Addr) (n0 c0 : Nat) (w : World) (R : Ending → World → Prop) : SX.vcFn Tryd.prog [(2, ⟨[(3, .int .i64)], [0], []⟩)] Tryd.f86 [.v (.slice p0 n0 c0)] [] w R = VCTryd86 p0 n0 c0 w R := by kernel_rfl
def VCTryd87 (p0 : Option Addr) (n0 c0 : Nat) (p1 : ByteArray) (w : World) (R : Ending → World → Prop) : Prop :=
∃ (I0 : Int → World → Prop),
 ∃ (I1 : Int → World → Nat),
  I0 (0 : Int) w ∧
   ∀ (i2 : Int) (w3 : World),
    I0 i2 w3 →
     bif decide (i2 < (↑n0 : Int)) then
      ((0 : Int) ≤ i2 ∧ i2 < (↑n0 : Int)) ∧
       SX.Ptr p0 fun (a4 : Addr) =>
        ∃ (s5 : ByteArray),
         w3.cell? ((a4.add (i2.toNat * (2 : Nat))).add (0 : Nat)) = some (Value.string s5) ∧
          bif s5.toList == p1.toList then R (Ending.returned (Value.int IntKind.i64 i2)) w3 else Wr IntKind.i64 (i2 + (1 : Int)) fun (i6 : Int) => I0 i6 w3 ∧ I1 i6 w3 < I1 i2 w3
     else R (Ending.returned (Value.int IntKind.i64 (-1 : Int))) w3
theorem vcTryd87 (p0 : Option Addr) (n0 c0 : Nat) (p1 : ByteArray) (w : World) (R : Ending → World → Prop) : SX.vcFn Tryd.prog [(2, ⟨[(5, .int .i64)], [1, 0], []⟩)] Tryd.f87 [.v (.slice p0 n0 c0), .v (.string p1)] [] w R = VCTryd87 p0 n0 c0 p1 w R := by kernel_rfl
def VCTryd88 (p0 : Option Addr) (n0 c0 : Nat) (p1 : ByteArray) (w : World) (R : Ending → World → Prop) : Prop :=
Rets Tryd.prog (137 : Nat) #[Value.slice p0 n0 c0, Value.string p1] w fun (v0 : Value) (w1 : World) =>
 ∃ (i2 : Int),
  ∃ (t3 : Bool),
   v0 = Value.tuple #[Value.int IntKind.i64 i2, Value.bool t3] ∧
    Keeps w w1 [] ∧
     bif !t3 then R (Ending.returned (Value.tuple #[Value.slice none (0 : Nat) (0 : Nat), Value.bool false])) w1
     else
      ((0 : Int) ≤ i2 ∧ i2 < (↑n0 : Int)) ∧
       SX.Ptr p0 fun (a4 : Addr) =>
        ∃ (q5 : Option Addr),
         ∃ (n6 : Nat),
          ∃ (n7 : Nat),
           w1.cell? ((a4.add (i2.toNat * (2 : Nat))).add (1 : Nat)) = some (Value.slice q5 n6 n7) ∧
            Rets Tryd.prog (138 : Nat) #[Value.slice q5 n6 n7] w1 fun (v8 : Value) (w9 : World) =>
             ∃ (q10 : Option Addr), ∃ (n11 : Nat), ∃ (n12 : Nat), v8 = Value.slice q10 n11 n12 ∧ Keeps w1 w9 [] ∧ R (Ending.returned (Value.tuple #[Value.slice q10 n11 n12, Value.bool true])) w9
theorem vcTryd88 (p0 : Option Addr) (n0 c0 : Nat) (p1 : ByteArray) (w : World) (R : Ending → World → Prop) : SX.vcFn Tryd.prog [] Tryd.f88 [.v (.slice p0 n0 c0), .v (.string p1)] [] w R = VCTryd88 p0 n0 c0 p1 w R := by kernel_rfl
def VCTryd89 (p0 : Option Addr) (n0 c0 : Nat) (p1 : ByteArray) (p2 : Option Addr) (n2 c2 : Nat) (w : World) (R : Ending → World → Prop) : Prop :=
Rets Tryd.prog (139 : Nat) #[Value.slice p0 n0 c0] w fun (v0 : Value) (w1 : World) =>
 ∃ (q2 : Option Addr),
  ∃ (n3 : Nat),
   ∃ (n4 : Nat),
    v0 = Value.slice q2 n3 n4 ∧
     Keeps w w1 [] ∧
      Rets Tryd.prog (138 : Nat) #[Value.slice p2 n2 c2] w1 fun (v5 : Value) (w6 : World) =>
       ∃ (q7 : Option Addr),
        ∃ (n8 : Nat),
         ∃ (n9 : Nat),
          v5 = Value.slice q7 n8 n9 ∧
           Keeps w1 w6 [] ∧
            (Known
              (((w6.alloc (Obj.cells #[Value.string { data := #[] }, Value.slice none (0 : Nat) (0 : Nat)] (107 : Nat))).setCell { block := w6.heap.size, off := (0 : Nat) } (Value.string p1)).setCell
               {block := w6.heap.size, off := (1 : Nat) } (Value.slice q7 n8 n9))
              [(w6.heap.size, [((0 : Nat), Value.string p1), ((1 : Nat), Value.slice q7 n8 n9)])] →
             Rets Tryd.prog (137 : Nat) #[Value.slice q2 n3 n4, Value.string p1]
              (((w6.alloc (Obj.cells #[Value.string { data := #[] }, Value.slice none (0 : Nat) (0 : Nat)] (107 : Nat))).setCell { block := w6.heap.size, off := (0 : Nat) } (Value.string p1)).setCell
               {block := w6.heap.size, off := (1 : Nat) } (Value.slice q7 n8 n9))
              fun (v10 : Value) (w11 : World) =>
              ∃ (i12 : Int),
               ∃ (t13 : Bool),
                v10 = Value.tuple #[Value.int IntKind.i64 i12, Value.bool t13] ∧
                 Keeps
                   (((w6.alloc (Obj.cells #[Value.string { data := #[] }, Value.slice none (0 : Nat) (0 : Nat)] (107 : Nat))).setCell { block := w6.heap.size, off := (0 : Nat) }
                      (Value.string p1)).setCell
                    {block := w6.heap.size, off := (1 : Nat) } (Value.slice q7 n8 n9))
                   w11 [w6.heap.size] ∧
                  bif t13 then
                   ((0 : Int) ≤ i12 ∧ i12 < (↑n3 : Int)) ∧
                    SX.Ptr q2 fun (a14 : Addr) =>
                     (∃ (v15 : Value), w11.cell? ((a14.add (i12.toNat * (2 : Nat))).add (0 : Nat)) = some v15) ∧
                      w11.frozen? ((a14.add (i12.toNat * (2 : Nat))).add (0 : Nat)) = false ∧
                       Apart ((a14.add (i12.toNat * (2 : Nat))).add (0 : Nat)) w6.heap.size [(0 : Nat), (1 : Nat)] ∧
                        (∃ (v16 : Value), (w11.setCell ((a14.add (i12.toNat * (2 : Nat))).add (0 : Nat)) (Value.string p1)).cell? ((a14.add (i12.toNat * (2 : Nat))).add (1 : Nat)) = some v16) ∧
                         (w11.setCell ((a14.add (i12.toNat * (2 : Nat))).add (0 : Nat)) (Value.string p1)).frozen? ((a14.add (i12.toNat * (2 : Nat))).add (1 : Nat)) = false ∧
                          Apart ((a14.add (i12.toNat * (2 : Nat))).add (1 : Nat)) w6.heap.size [(0 : Nat), (1 : Nat)] ∧
                           (Known
                             ((w11.setCell ((a14.add (i12.toNat * (2 : Nat))).add (0 : Nat)) (Value.string p1)).setCell ((a14.add (i12.toNat * (2 : Nat))).add (1 : Nat))
                              (Value.slice q7 n8 n9))
                             [(w6.heap.size, [((0 : Nat), Value.string p1), ((1 : Nat), Value.slice q7 n8 n9)])] →
                            R (Ending.returned (Value.slice q2 n3 n4))
                             ((w11.setCell ((a14.add (i12.toNat * (2 : Nat))).add (0 : Nat)) (Value.string p1)).setCell ((a14.add (i12.toNat * (2 : Nat))).add (1 : Nat))
                              (Value.slice q7 n8 n9)))
                  else
                   Known (w11.alloc (Obj.cells #[Value.string p1, Value.slice q7 n8 n9] (107 : Nat))) [(w6.heap.size, [((0 : Nat), Value.string p1), ((1 : Nat), Value.slice q7 n8 n9)])] →
                    Rets Tryd.prog (140 : Nat) #[Value.slice q2 n3 n4, Value.int IntKind.i64 i12, Value.slice (some { block := w11.heap.size, off := (0 : Nat) }) (1 : Nat) (1 : Nat)]
                     (w11.alloc (Obj.cells #[Value.string p1, Value.slice q7 n8 n9] (107 : Nat))) fun (v17 : Value) (w18 : World) =>
                     ∃ (q19 : Option Addr),
                      ∃ (n20 : Nat),
                       ∃ (n21 : Nat),
                        v17 = Value.slice q19 n20 n21 ∧
                         Keeps (w11.alloc (Obj.cells #[Value.string p1, Value.slice q7 n8 n9] (107 : Nat))) w18 [w6.heap.size] ∧
                          (Known w18 [(w6.heap.size, [((0 : Nat), Value.string p1), ((1 : Nat), Value.slice q7 n8 n9)])] → R (Ending.returned (Value.slice q19 n20 n21)) w18))
theorem vcTryd89 (p0 : Option Addr) (n0 c0 : Nat) (p1 : ByteArray) (p2 : Option Addr) (n2 c2 : Nat) (w : World) (R : Ending → World → Prop) : SX.vcFn Tryd.prog [] Tryd.f89 [.v (.slice p0 n0 c0), .v (.string p1), .v (.slice p2 n2 c2)] [] w R = VCTryd89 p0 n0 c0 p1 p2 n2 c2 w R := by kernel_rfl
def VCTryd90 (p0 : Option Addr) (n0 c0 : Nat) (p1 : ByteArray) (w : World) (R : Ending → World → Prop) : Prop :=
Rets Tryd.prog (139 : Nat) #[Value.slice p0 n0 c0] w fun (v0 : Value) (w1 : World) =>
 ∃ (q2 : Option Addr),
  ∃ (n3 : Nat),
   ∃ (n4 : Nat),
    v0 = Value.slice q2 n3 n4 ∧
     Keeps w w1 [] ∧
      Rets Tryd.prog (137 : Nat) #[Value.slice q2 n3 n4, Value.string p1] w1 fun (v5 : Value) (w6 : World) =>
       ∃ (i7 : Int),
        ∃ (t8 : Bool),
         v5 = Value.tuple #[Value.int IntKind.i64 i7, Value.bool t8] ∧
          Keeps w1 w6 [] ∧
           bif t8 then
            Wr IntKind.i64 (i7 + (1 : Int)) fun (i9 : Int) =>
             Rets Tryd.prog (141 : Nat) #[Value.slice q2 n3 n4, Value.int IntKind.i64 i7, Value.int IntKind.i64 i9] w6 fun (v10 : Value) (w11 : World) =>
              ∃ (q12 : Option Addr), ∃ (n13 : Nat), ∃ (n14 : Nat), v10 = Value.slice q12 n13 n14 ∧ Keeps w6 w11 [] ∧ R (Ending.returned (Value.slice q12 n13 n14)) w11
           else R (Ending.returned (Value.slice q2 n3 n4)) w6
theorem vcTryd90 (p0 : Option Addr) (n0 c0 : Nat) (p1 : ByteArray) (w : World) (R : Ending → World → Prop) : SX.vcFn Tryd.prog [] Tryd.f90 [.v (.slice p0 n0 c0), .v (.string p1)] [] w R = VCTryd90 p0 n0 c0 p1 w R := by kernel_rfl
def VCTryd91 (p0 : Option Addr) (n0 c0 : Nat) (p1 : ByteArray) (p2 : ByteArray) (w : World) (R : Ending → World → Prop) : Prop :=
Runs Tryd.prog (convert (9 : Nat) (27 : Nat) (Value.string p2)) w fun (v0 : Value) (w1 : World) =>
 ∃ (q2 : Option Addr),
  ∃ (n3 : Nat),
   ∃ (n4 : Nat),
    v0 = Value.slice q2 n3 n4 ∧
     Keeps w w1 [] ∧
      ∃ (I5 : Int → Option Addr → Nat → Nat → Bool → World → Prop),
       ∃ (I6 : Int → Option Addr → Nat → Nat → Bool → World → Nat),
        I5 (0 : Int) none (0 : Nat) (0 : Nat) false
          (((w1.alloc (Obj.cells #[Value.string { data := #[] }, Value.slice none (0 : Nat) (0 : Nat)] (107 : Nat))).setCell { block := w1.heap.size, off := (0 : Nat) } (Value.string p1)).setCell
           {block := w1.heap.size, off := (1 : Nat) } (Value.slice q2 n3 n4)) ∧
         ∀ (i7 : Int) (q8 : Option Addr) (n9 n10 : Nat) (t11 : Bool) (w12 : World),
          I5 i7 q8 n9 n10 t11 w12 →
           Known w12 [(w1.heap.size, [((0 : Nat), Value.string p1), ((1 : Nat), Value.slice q2 n3 n4)])] →
            bif decide (i7 < (↑n0 : Int)) then
             bif !t11 then
              ((0 : Int) ≤ i7 ∧ i7 < (↑n0 : Int)) ∧
               SX.Ptr p0 fun (a13 : Addr) =>
                ∃ (s14 : ByteArray),
                 w12.cell? ((a13.add (i7.toNat * (2 : Nat))).add (0 : Nat)) = some (Value.string s14) ∧
                  bif Op.bytesLess p1.toList s14.toList || p1.toList == s14.toList then
                   Runs Tryd.prog (Builtin.append_ #[(105 : Nat), (105 : Nat)] (105 : Nat) #[Value.slice q8 n9 n10, Value.slice (some { block := w12.heap.size, off := (0 : Nat) }) (1 : Nat) (1 : Nat)])
                    (w12.alloc (Obj.cells #[Value.string p1, Value.slice q2 n3 n4] (107 : Nat))) fun (v15 : Value) (w16 : World) =>
                    ∃ (q17 : Option Addr),
                     ∃ (n18 : Nat),
                      ∃ (n19 : Nat),
                       v15 = Value.slice q17 n18 n19 ∧
                        Keeps (w12.alloc (Obj.cells #[Value.string p1, Value.slice q2 n3 n4] (107 : Nat))) w16 [w1.heap.size] ∧
                         ((0 : Int) ≤ i7 ∧ i7 < (↑n0 : Int)) ∧
                          SX.Ptr p0 fun (a20 : Addr) =>
                           ∃ (s21 : ByteArray),
                            w16.cell? ((a20.add (i7.toNat * (2 : Nat))).add (0 : Nat)) = some (Value.string s21) ∧
                             bif !s21.toList == p1.toList then
                              ((0 : Int) ≤ i7 ∧ i7 < (↑n0 : Int)) ∧
                               SX.Ptr p0 fun (a22 : Addr) =>
                                ∃ (s23 : ByteArray),
                                 ∃ (q24 : Option Addr),
                                  ∃ (n25 : Nat),
                                   ∃ (n26 : Nat),
                                    (w16.cell? ((a22.add (i7.toNat * (2 : Nat))).add (0 : Nat)) = some (Value.string s23) ∧
                                      w16.cell? ((a22.add (i7.toNat * (2 : Nat))).add (1 : Nat)) = some (Value.slice q24 n25 n26) ∧ True) ∧
                                     Runs Tryd.prog
                                      (Builtin.append_ #[(105 : Nat), (105 : Nat)] (105 : Nat)
                                       #[Value.slice q17 n18 n19, Value.slice (some { block := w16.heap.size, off := (0 : Nat) }) (1 : Nat) (1 : Nat)])
                                      (w16.alloc (Obj.cells #[Value.string s23, Value.slice q24 n25 n26] (107 : Nat))) fun (v27 : Value) (w28 : World) =>
                                      ∃ (q29 : Option Addr),
                                       ∃ (n30 : Nat),
                                        ∃ (n31 : Nat),
                                         v27 = Value.slice q29 n30 n31 ∧
                                          Keeps (w16.alloc (Obj.cells #[Value.string s23, Value.slice q24 n25 n26] (107 : Nat))) w28 [w1.heap.size] ∧
                                           Wr IntKind.i64 (i7 + (1 : Int)) fun (i32 : Int) =>
                                            SameVals [Value.string p1, Value.slice q2 n3 n4] [Value.string p1, Value.slice q2 n3 n4] ∧
                                             I5 i32 q29 n30 n31 true w28 ∧ I6 i32 q29 n30 n31 true w28 < I6 i7 q8 n9 n10 t11 w12
                             else
                              Wr IntKind.i64 (i7 + (1 : Int)) fun (i33 : Int) =>
                               SameVals [Value.string p1, Value.slice q2 n3 n4] [Value.string p1, Value.slice q2 n3 n4] ∧
                                I5 i33 q17 n18 n19 true w16 ∧ I6 i33 q17 n18 n19 true w16 < I6 i7 q8 n9 n10 t11 w12
                  else
                   ((0 : Int) ≤ i7 ∧ i7 < (↑n0 : Int)) ∧
                    SX.Ptr p0 fun (a34 : Addr) =>
                     ∃ (s35 : ByteArray),
                      w12.cell? ((a34.add (i7.toNat * (2 : Nat))).add (0 : Nat)) = some (Value.string s35) ∧
                       bif !s35.toList == p1.toList then
                        ((0 : Int) ≤ i7 ∧ i7 < (↑n0 : Int)) ∧
                         SX.Ptr p0 fun (a36 : Addr) =>
                          ∃ (s37 : ByteArray),
                           ∃ (q38 : Option Addr),
                            ∃ (n39 : Nat),
                             ∃ (n40 : Nat),
                              (w12.cell? ((a36.add (i7.toNat * (2 : Nat))).add (0 : Nat)) = some (Value.string s37) ∧
                                w12.cell? ((a36.add (i7.toNat * (2 : Nat))).add (1 : Nat)) = some (Value.slice q38 n39 n40) ∧ True) ∧
                               Runs Tryd.prog
                                (Builtin.append_ #[(105 : Nat), (105 : Nat)] (105 : Nat)
                                 #[Value.slice q8 n9 n10, Value.slice (some { block := w12.heap.size, off := (0 : Nat) }) (1 : Nat) (1 : Nat)])
                                (w12.alloc (Obj.cells #[Value.string s37, Value.slice q38 n39 n40] (107 : Nat))) fun (v41 : Value) (w42 : World) =>
                                ∃ (q43 : Option Addr),
                                 ∃ (n44 : Nat),
                                  ∃ (n45 : Nat),
                                   v41 = Value.slice q43 n44 n45 ∧
                                    Keeps (w12.alloc (Obj.cells #[Value.string s37, Value.slice q38 n39 n40] (107 : Nat))) w42 [w1.heap.size] ∧
                                     Wr IntKind.i64 (i7 + (1 : Int)) fun (i46 : Int) =>
                                      SameVals [Value.string p1, Value.slice q2 n3 n4] [Value.string p1, Value.slice q2 n3 n4] ∧
                                       I5 i46 q43 n44 n45 t11 w42 ∧ I6 i46 q43 n44 n45 t11 w42 < I6 i7 q8 n9 n10 t11 w12
                       else
                        Wr IntKind.i64 (i7 + (1 : Int)) fun (i47 : Int) =>
                         SameVals [Value.string p1, Value.slice q2 n3 n4] [Value.string p1, Value.slice q2 n3 n4] ∧ I5 i47 q8 n9 n10 t11 w12 ∧ I6 i47 q8 n9 n10 t11 w12 < I6 i7 q8 n9 n10 t11 w12
             else
              ((0 : Int) ≤ i7 ∧ i7 < (↑n0 : Int)) ∧
               SX.Ptr p0 fun (a48 : Addr) =>
                ∃ (s49 : ByteArray),
                 w12.cell? ((a48.add (i7.toNat * (2 : Nat))).add (0 : Nat)) = some (Value.string s49) ∧
                  bif !s49.toList == p1.toList then
                   ((0 : Int) ≤ i7 ∧ i7 < (↑n0 : Int)) ∧
                    SX.Ptr p0 fun (a50 : Addr) =>
                     ∃ (s51 : ByteArray),
                      ∃ (q52 : Option Addr),
                       ∃ (n53 : Nat),
                        ∃ (n54 : Nat),
                         (w12.cell? ((a50.add (i7.toNat * (2 : Nat))).add (0 : Nat)) = some (Value.string s51) ∧
                           w12.cell? ((a50.add (i7.toNat * (2 : Nat))).add (1 : Nat)) = some (Value.slice q52 n53 n54) ∧ True) ∧
                          Runs Tryd.prog
                           (Builtin.append_ #[(105 : Nat), (105 : Nat)] (105 : Nat)
                            #[Value.slice q8 n9 n10, Value.slice (some { block := w12.heap.size, off := (0 : Nat) }) (1 : Nat) (1 : Nat)])
                           (w12.alloc (Obj.cells #[Value.string s51, Value.slice q52 n53 n54] (107 : Nat))) fun (v55 : Value) (w56 : World) =>
                           ∃ (q57 : Option Addr),
                            ∃ (n58 : Nat),
                             ∃ (n59 : Nat),
                              v55 = Value.slice q57 n58 n59 ∧
                               Keeps (w12.alloc (Obj.cells #[Value.string s51, Value.slice q52 n53 n54] (107 : Nat))) w56 [w1.heap.size] ∧
                                Wr IntKind.i64 (i7 + (1 : Int)) fun (i60 : Int) =>
                                 SameVals [Value.string p1, Value.slice q2 n3 n4] [Value.string p1, Value.slice q2 n3 n4] ∧
                                  I5 i60 q57 n58 n59 t11 w56 ∧ I6 i60 q57 n58 n59 t11 w56 < I6 i7 q8 n9 n10 t11 w12
                  else
                   Wr IntKind.i64 (i7 + (1 : Int)) fun (i61 : Int) =>
                    SameVals [Value.string p1, Value.slice q2 n3 n4] [Value.string p1, Value.slice q2 n3 n4] ∧ I5 i61 q8 n9 n10 t11 w12 ∧ I6 i61 q8 n9 n10 t11 w12 < I6 i7 q8 n9 n10 t11 w12
            else
             bif !t11 then
              Runs Tryd.prog (Builtin.append_ #[(105 : Nat), (105 : Nat)] (105 : Nat) #[Value.slice q8 n9 n10, Value.slice (some { block := w12.heap.size, off := (0 : Nat) }) (1 : Nat) (1 : Nat)])
               (w12.alloc (Obj.cells #[Value.string p1, Value.slice q2 n3 n4] (107 : Nat))) fun (v62 : Value) (w63 : World) =>
               ∃ (q64 : Option Addr),
                ∃ (n65 : Nat),
                 ∃ (n66 : Nat),
                  v62 = Value.slice q64 n65 n66 ∧
                   Keeps (w12.alloc (Obj.cells #[Value.string p1, Value.slice q2 n3 n4] (107 : Nat))) w63 [w1.heap.size] ∧
                    (Known w63 [(w1.heap.size, [((0 : Nat), Value.string p1), ((1 : Nat), Value.slice q2 n3 n4)])] → R (Ending.returned (Value.slice q64 n65 n66)) w63)
             else Known w12 [(w1.heap.size, [((0 : Nat), Value.string p1), ((1 : Nat), Value.slice q2 n3 n4)])] → R (Ending.returned (Value.slice q8 n9 n10)) w12
theorem vcTryd91 (p0 : Option Addr) (n0 c0 : Nat) (p1 : ByteArray) (p2 : ByteArray) (w : World) (R : Ending → World → Prop) : SX.vcFn Tryd.prog [(5, ⟨[(10, .int .i64), (7, .slice), (9, .bool)], [0, 1, 8], []⟩)] Tryd.f91 [.v (.slice p0 n0 c0), .v (.string p1), .v (.string p2)] [] w R = VCTryd91 p0 n0 c0 p1 p2 w R := by kernel_rfl
def VCTryd92 (p0 : Option Addr) (n0 c0 : Nat) (p1 : ByteArray) (w : World) (R : Ending → World → Prop) : Prop :=
∃ (I0 : Int → Option Addr → Nat → Nat → World → Prop),
 ∃ (I1 : Int → Option Addr → Nat → Nat → World → Nat),
  I0 (0 : Int) none (0 : Nat) (0 : Nat) w ∧
   ∀ (i2 : Int) (q3 : Option Addr) (n4 n5 : Nat) (w6 : World),
    I0 i2 q3 n4 n5 w6 →
     bif decide (i2 < (↑n0 : Int)) then
      ((0 : Int) ≤ i2 ∧ i2 < (↑n0 : Int)) ∧
       SX.Ptr p0 fun (a7 : Addr) =>
        ∃ (s8 : ByteArray),
         w6.cell? ((a7.add (i2.toNat * (2 : Nat))).add (0 : Nat)) = some (Value.string s8) ∧
          bif !s8.toList == p1.toList then
           ((0 : Int) ≤ i2 ∧ i2 < (↑n0 : Int)) ∧
            SX.Ptr p0 fun (a9 : Addr) =>
             ∃ (s10 : ByteArray),
              ∃ (q11 : Option Addr),
               ∃ (n12 : Nat),
                ∃ (n13 : Nat),
                 (w6.cell? ((a9.add (i2.toNat * (2 : Nat))).add (0 : Nat)) = some (Value.string s10) ∧ w6.cell? ((a9.add (i2.toNat * (2 : Nat))).add (1 : Nat)) = some (Value.slice q11 n12 n13) ∧ True) ∧
                  Runs Tryd.prog (Builtin.append_ #[(105 : Nat), (105 : Nat)] (105 : Nat) #[Value.slice q3 n4 n5, Value.slice (some { block := w6.heap.size, off := (0 : Nat) }) (1 : Nat) (1 : Nat)])
                   (w6.alloc (Obj.cells #[Value.string s10, Value.slice q11 n12 n13] (107 : Nat))) fun (v14 : Value) (w15 : World) =>
                   ∃ (q16 : Option Addr),
                    ∃ (n17 : Nat),
                     ∃ (n18 : Nat),
                      v14 = Value.slice q16 n17 n18 ∧
                       Keeps (w6.alloc (Obj.cells #[Value.string s10, Value.slice q11 n12 n13] (107 : Nat))) w15 [] ∧
                        Wr IntKind.i64 (i2 + (1 : Int)) fun (i19 : Int) => I0 i19 q16 n17 n18 w15 ∧ I1 i19 q16 n17 n18 w15 < I1 i2 q3 n4 n5 w6
          else Wr IntKind.i64 (i2 + (1 : Int)) fun (i20 : Int) => I0 i20 q3 n4 n5 w6 ∧ I1 i20 q3 n4 n5 w6 < I1 i2 q3 n4 n5 w6
     else R (Ending.returned (Value.slice q3 n4 n5)) w6
theorem vcTryd92 (p0 : Option Addr) (n0 c0 : Nat) (p1 : ByteArray) (w : World) (R : Ending → World → Prop) : SX.vcFn Tryd.prog [(3, ⟨[(6, .int .i64), (5, .slice)], [0, 1], []⟩)] Tryd.f92 [.v (.slice p0 n0 c0), .v (.string p1)] [] w R = VCTryd92 p0 n0 c0 p1 w R := by kernel_rfl
def VCTryd97 (w : World) (R : Ending → World → Prop) : Prop :=
Known
  ((w.alloc (Obj.cells #[Value.bool false, Value.slice none (0 : Nat) (0 : Nat)] (130 : Nat))).alloc
   (Obj.cells
    #[Value.slice (some { block := w.heap.size, off := (0 : Nat) }) (1 : Nat) (1 : Nat), Value.bool false, Value.bool false, Value.bool false, Value.slice none (0 : Nat) (0 : Nat), Value.string { data := #[] },
     Value.slice none (0 : Nat) (0 : Nat)]
    (185 : Nat)))
  [((w.alloc (Obj.cells #[Value.bool false, Value.slice none (0 : Nat) (0 : Nat)] (130 : Nat))).heap.size,
    [((0 : Nat), Value.slice (some { block := w.heap.size, off := (0 : Nat) }) (1 : Nat) (1 : Nat)), ((1 : Nat), Value.bool false), ((2 : Nat), Value.bool false), ((3 : Nat), Value.bool false),
     ((4 : Nat), Value.slice none (0 : Nat) (0 : Nat)), ((5 : Nat), Value.string { data := #[] }), ((6 : Nat), Value.slice none (0 : Nat) (0 : Nat))])] →
 R (Ending.returned (Value.pointer (some { block := (w.alloc (Obj.cells #[Value.bool false, Value.slice none (0 : Nat) (0 : Nat)] (130 : Nat))).heap.size, off := (0 : Nat) })))
  ((w.alloc (Obj.cells #[Value.bool false, Value.slice none (0 : Nat) (0 : Nat)] (130 : Nat))).alloc
   (Obj.cells
    #[Value.slice (some { block := w.heap.size, off := (0 : Nat) }) (1 : Nat) (1 : Nat), Value.bool false, Value.bool false, Value.bool false, Value.slice none (0 : Nat) (0 : Nat), Value.string { data := #[] },
     Value.slice none (0 : Nat) (0 : Nat)]
    (185 : Nat)))
theorem vcTryd97 (w : World) (R : Ending → World → Prop) : SX.vcFn Tryd.prog [] Tryd.f97 [] [] w R = VCTryd97  w R := by kernel_rfl
def VCTryd98 (w : World) (R : Ending → World → Prop) : Prop :=
Known
  (((((((((w.alloc
                   (Obj.cells
                    #[Value.slice none (0 : Nat) (0 : Nat), Value.bool false, Value.bool false, Value.bool false, Value.slice none (0 : Nat) (0 : Nat), Value.string { data := #[] },
                     Value.string { data := #[] }]
                    (136 : Nat))).alloc
                 (Obj.cells #[Value.bool false, Value.slice none (0 : Nat) (0 : Nat)] (146 : Nat))).setCell
               {block := w.heap.size, off := (0 : Nat) }
               (Value.slice
                (some
                 {
                  block :=
                   (w.alloc
                      (Obj.cells
                       #[Value.slice none (0 : Nat) (0 : Nat), Value.bool false, Value.bool false, Value.bool false, Value.slice none (0 : Nat) (0 : Nat), Value.string { data := #[] },
                        Value.string { data := #[] }]
                       (136 : Nat))).heap.size,
                  off := (0 : Nat) })
                (1 : Nat) (1 : Nat))).setCell
             {block := w.heap.size, off := (1 : Nat) } (Value.bool false)).setCell
           {block := w.heap.size, off := (2 : Nat) } (Value.bool false)).setCell
         {block := w.heap.size, off := (3 : Nat) } (Value.bool false)).setCell
       {block := w.heap.size, off := (4 : Nat) } (Value.slice none (0 : Nat) (0 : Nat))).setCell
     {block := w.heap.size, off := (5 : Nat) } (Value.string { data := #[] })).setCell
   {block := w.heap.size, off := (6 : Nat) } (Value.string { data := #[] }))
  [(w.heap.size,
    [((0 : Nat),
      Value.slice
       (some
        {
         block :=
          (w.alloc
             (Obj.cells
              #[Value.slice none (0 : Nat) (0 : Nat), Value.bool false, Value.bool false, Value.bool false, Value.slice none (0 : Nat) (0 : Nat), Value.string { data := #[] }, Value.string { data := #[] }]
              (136 : Nat))).heap.size,
         off := (0 : Nat) })
       (1 : Nat) (1 : Nat)),
     ((1 : Nat), Value.bool false), ((2 : Nat), Value.bool false), ((3 : Nat), Value.bool false), ((4 : Nat), Value.slice none (0 : Nat) (0 : Nat)), ((5 : Nat), Value.string { data := #[] }),
     ((6 : Nat), Value.string { data := #[] })])] →
 R
  (Ending.returned
   (Value.agg
    #[Value.slice
      (some
       {
        block :=
         (w.alloc
            (Obj.cells
             #[Value.slice none (0 : Nat) (0 : Nat), Value.bool false, Value.bool false, Value.bool false, Value.slice none (0 : Nat) (0 : Nat), Value.string { data := #[] }, Value.string { data := #[] }]
             (136 : Nat))).heap.size,
        off := (0 : Nat) })
      (1 : Nat) (1 : Nat),
     Value.bool false, Value.bool false, Value.bool false, Value.slice none (0 : Nat) (0 : Nat), Value.string { data := #[] }, Value.string { data := #[] }]))
  (((((((((w.alloc
                   (Obj.cells
                    #[Value.slice none (0 : Nat) (0 : Nat), Value.bool false, Value.bool false, Value.bool false, Value.slice none (0 : Nat) (0 : Nat), Value.string { data := #[] },
                     Value.string { data := #[] }]
                    (136 : Nat))).alloc
                 (Obj.cells #[Value.bool false, Value.slice none (0 : Nat) (0 : Nat)] (146 : Nat))).setCell
               {block := w.heap.size, off := (0 : Nat) }
               (Value.slice
                (some
                 {
                  block :=
                   (w.alloc
                      (Obj.cells
                       #[Value.slice none (0 : Nat) (0 : Nat), Value.bool false, Value.bool false, Value.bool false, Value.slice none (0 : Nat) (0 : Nat), Value.string { data := #[] },
                        Value.string { data := #[] }]
                       (136 : Nat))).heap.size,
                  off := (0 : Nat) })
                (1 : Nat) (1 : Nat))).setCell
             {block := w.heap.size, off := (1 : Nat) } (Value.bool false)).setCell
           {block := w.heap.size, off := (2 : Nat) } (Value.bool false)).setCell
         {block := w.heap.size, off := (3 : Nat) } (Value.bool false)).setCell
       {block := w.heap.size, off := (4 : Nat) } (Value.slice none (0 : Nat) (0 : Nat))).setCell
     {block := w.heap.size, off := (5 : Nat) } (Value.string { data := #[] })).setCell
   {block := w.heap.size, off := (6 : Nat) } (Value.string { data := #[] }))
theorem vcTryd98 (w : World) (R : Ending → World → Prop) : SX.vcFn Tryd.prog [] Tryd.f98 [] [] w R = VCTryd98  w R := by kernel_rfl
def VCTryd101 (p0 : Option Addr) (w : World) (R : Ending → World → Prop) : Prop :=
bif p0.isNone then R (Ending.returned (Value.tuple #[Value.slice none (0 : Nat) (0 : Nat), Value.bool false])) w
else
 SX.Ptr p0 fun (a0 : Addr) =>
  ∃ (t1 : Bool),
   w.cell? (a0.add (1 : Nat)) = some (Value.bool t1) ∧
    bif !t1 then R (Ending.returned (Value.tuple #[Value.slice none (0 : Nat) (0 : Nat), Value.bool false])) w
    else
     SX.Ptr p0 fun (a2 : Addr) =>
      ∃ (q3 : Option Addr),
       ∃ (n4 : Nat),
        ∃ (n5 : Nat),
         w.cell? (a2.add (4 : Nat)) = some (Value.slice q3 n4 n5) ∧
          Rets Tryd.prog (139 : Nat) #[Value.slice q3 n4 n5] w fun (v6 : Value) (w7 : World) =>
           ∃ (q8 : Option Addr), ∃ (n9 : Nat), ∃ (n10 : Nat), v6 = Value.slice q8 n9 n10 ∧ Keeps w w7 [] ∧ R (Ending.returned (Value.tuple #[Value.slice q8 n9 n10, Value.bool true])) w7
theorem vcTryd101 (p0 : Option Addr) (w : World) (R : Ending → World → Prop) : SX.vcFn Tryd.prog [] Tryd.f101 [.v (.pointer p0)] [] w R = VCTryd101 p0 w R := by kernel_rfl
def VCTryd135 (p0 : Option Addr) (n0 c0 : Nat) (p1 : Option Addr) (n1 c1 : Nat) (p2 : Value) (w : World) (R : Ending → World → Prop) : Prop :=
bif (↑n0 : Int) != (↑n1 : Int) then R (Ending.returned (Value.bool false)) w
else
 ∃ (I0 : Int → World → Prop),
  ∃ (I1 : Int → World → Nat),
   I0 (0 : Int) w ∧
    ∀ (i2 : Int) (w3 : World),
     I0 i2 w3 →
      bif decide (i2 < (↑n0 : Int)) then
       ((0 : Int) ≤ i2 ∧ i2 < (↑n0 : Int)) ∧
        SX.Ptr p0 fun (a4 : Addr) =>
         ∃ (s5 : ByteArray),
          ∃ (q6 : Option Addr),
           ∃ (n7 : Nat),
            ∃ (n8 : Nat),
             (w3.cell? ((a4.add (i2.toNat * (2 : Nat))).add (0 : Nat)) = some (Value.string s5) ∧ w3.cell? ((a4.add (i2.toNat * (2 : Nat))).add (1 : Nat)) = some (Value.slice q6 n7 n8) ∧ True) ∧
              ((0 : Int) ≤ i2 ∧ i2 < (↑n1 : Int)) ∧
               SX.Ptr p1 fun (a9 : Addr) =>
                ∃ (s10 : ByteArray),
                 ∃ (q11 : Option Addr),
                  ∃ (n12 : Nat),
                   ∃ (n13 : Nat),
                    ((((w3.alloc (Obj.cells #[Value.string { data := #[] }, Value.slice none (0 : Nat) (0 : Nat)] (107 : Nat))).setCell { block := w3.heap.size, off := (0 : Nat) }
                            (Value.string s5)).setCell
                          {block := w3.heap.size, off := (1 : Nat) } (Value.slice q6 n7 n8)).cell?
                        ((a9.add (i2.toNat * (2 : Nat))).add (0 : Nat)) =
                       some (Value.string s10) ∧
                      (((w3.alloc (Obj.cells #[Value.string { data := #[] }, Value.slice none (0 : Nat) (0 : Nat)] (107 : Nat))).setCell { block := w3.heap.size, off := (0 : Nat) }
                             (Value.string s5)).setCell
                           {block := w3.heap.size, off := (1 : Nat) } (Value.slice q6 n7 n8)).cell?
                         ((a9.add (i2.toNat * (2 : Nat))).add (1 : Nat)) =
                        some (Value.slice q11 n12 n13) ∧
                       True) ∧
                     (Known
                       ((((((w3.alloc (Obj.cells #[Value.string { data := #[] }, Value.slice none (0 : Nat) (0 : Nat)] (107 : Nat))).setCell { block := w3.heap.size, off := (0 : Nat) }
                                (Value.string s5)).setCell
                              {block := w3.heap.size, off := (1 : Nat) } (Value.slice q6 n7 n8)).alloc
                            (Obj.cells #[Value.string { data := #[] }, Value.slice none (0 : Nat) (0 : Nat)] (107 : Nat))).setCell
                          {
                           block :=
                            (((w3.alloc (Obj.cells #[Value.string { data := #[] }, Value.slice none (0 : Nat) (0 : Nat)] (107 : Nat))).setCell { block := w3.heap.size, off := (0 : Nat) }
                                 (Value.string s5)).setCell
                               {block := w3.heap.size, off := (1 : Nat) } (Value.slice q6 n7 n8)).heap.size,
                           off := (0 : Nat) }
                          (Value.string s10)).setCell
                        {
                         block :=
                          (((w3.alloc (Obj.cells #[Value.string { data := #[] }, Value.slice none (0 : Nat) (0 : Nat)] (107 : Nat))).setCell { block := w3.heap.size, off := (0 : Nat) }
                               (Value.string s5)).setCell
                             {block := w3.heap.size, off := (1 : Nat) } (Value.slice q6 n7 n8)).heap.size,
                         off := (1 : Nat) }
                        (Value.slice q11 n12 n13))
                       [(w3.heap.size, [((0 : Nat), Value.string s5), ((1 : Nat), Value.slice q6 n7 n8)]),
                        ((((w3.alloc (Obj.cells #[Value.string { data := #[] }, Value.slice none (0 : Nat) (0 : Nat)] (107 : Nat))).setCell { block := w3.heap.size, off := (0 : Nat) }
                              (Value.string s5)).setCell
                            {block := w3.heap.size, off := (1 : Nat) } (Value.slice q6 n7 n8)).heap.size,
                         [((0 : Nat), Value.string s10), ((1 : Nat), Value.slice q11 n12 n13)])] →
                      CallsVal Tryd.prog p2 #[Value.agg #[Value.string s5, Value.slice q6 n7 n8], Value.agg #[Value.string s10, Value.slice q11 n12 n13]]
                       ((((((w3.alloc (Obj.cells #[Value.string { data := #[] }, Value.slice none (0 : Nat) (0 : Nat)] (107 : Nat))).setCell { block := w3.heap.size, off := (0 : Nat) }
                                (Value.string s5)).setCell
                              {block := w3.heap.size, off := (1 : Nat) } (Value.slice q6 n7 n8)).alloc
                            (Obj.cells #[Value.string { data := #[] }, Value.slice none (0 : Nat) (0 : Nat)] (107 : Nat))).setCell
                          {
                           block :=
                            (((w3.alloc (Obj.cells #[Value.string { data := #[] }, Value.slice none (0 : Nat) (0 : Nat)] (107 : Nat))).setCell { block := w3.heap.size, off := (0 : Nat) }
                                 (Value.string s5)).setCell
                               {block := w3.heap.size, off := (1 : Nat) } (Value.slice q6 n7 n8)).heap.size,
                           off := (0 : Nat) }
                          (Value.string s10)).setCell
                        {
                         block :=
                          (((w3.alloc (Obj.cells #[Value.string { data := #[] }, Value.slice none (0 : Nat) (0 : Nat)] (107 : Nat))).setCell { block := w3.heap.size, off := (0 : Nat) }
                               (Value.string s5)).setCell
                             {block := w3.heap.size, off := (1 : Nat) } (Value.slice q6 n7 n8)).heap.size,
                         off := (1 : Nat) }
                        (Value.slice q11 n12 n13))
                       fun (v14 : Value) (w15 : World) =>
                       ∃ (t16 : Bool),
                        v14 = Value.bool t16 ∧
                         Keeps
                           ((((((w3.alloc (Obj.cells #[Value.string { data := #[] }, Value.slice none (0 : Nat) (0 : Nat)] (107 : Nat))).setCell { block := w3.heap.size, off := (0 : Nat) }
                                    (Value.string s5)).setCell
                                  {block := w3.heap.size, off := (1 : Nat) } (Value.slice q6 n7 n8)).alloc
                                (Obj.cells #[Value.string { data := #[] }, Value.slice none (0 : Nat) (0 : Nat)] (107 : Nat))).setCell
                              {
                               block :=
                                (((w3.alloc (Obj.cells #[Value.string { data := #[] }, Value.slice none (0 : Nat) (0 : Nat)] (107 : Nat))).setCell
                                     {block := w3.heap.size, off := (0 : Nat) } (Value.string s5)).setCell
                                   {block := w3.heap.size, off := (1 : Nat) } (Value.slice q6 n7 n8)).heap.size,
                               off := (0 : Nat) }
                              (Value.string s10)).setCell
                            {
                             block :=
                              (((w3.alloc (Obj.cells #[Value.string { data := #[] }, Value.slice none (0 : Nat) (0 : Nat)] (107 : Nat))).setCell { block := w3.heap.size, off := (0 : Nat) }
                                   (Value.string s5)).setCell
                                 {block := w3.heap.size, off := (1 : Nat) } (Value.slice q6 n7 n8)).heap.size,
                             off := (1 : Nat) }
                            (Value.slice q11 n12 n13))
                           w15
                           [w3.heap.size,
                            (((w3.alloc (Obj.cells #[Value.string { data := #[] }, Value.slice none (0 : Nat) (0 : Nat)] (107 : Nat))).setCell { block := w3.heap.size, off := (0 : Nat) }
                                 (Value.string s5)).setCell
                               {block := w3.heap.size, off := (1 : Nat) } (Value.slice q6 n7 n8)).heap.size] ∧
                          bif !t16 then
                           Known w15
                             [(w3.heap.size, [((0 : Nat), Value.string s5), ((1 : Nat), Value.slice q6 n7 n8)]),
                              ((((w3.alloc (Obj.cells #[Value.string { data := #[] }, Value.slice none (0 : Nat) (0 : Nat)] (107 : Nat))).setCell { block := w3.heap.size, off := (0 : Nat) }
                                    (Value.string s5)).setCell
                                  {block := w3.heap.size, off := (1 : Nat) } (Value.slice q6 n7 n8)).heap.size,
                               [((0 : Nat), Value.string s10), ((1 : Nat), Value.slice q11 n12 n13)])] →
                            R (Ending.returned (Value.bool false)) w15
                          else Wr IntKind.i64 (i2 + (1 : Int)) fun (i17 : Int) => I0 i17 w15 ∧ I1 i17 w15 < I1 i2 w3)
      else R (Ending.returned (Value.bool true)) w3
theorem vcTryd135 (p0 : Option Addr) (n0 c0 : Nat) (p1 : Option Addr) (n1 c1 : Nat) (p2 : Value) (w : World) (R : Ending → World → Prop) : SX.vcFn Tryd.prog [(4, ⟨[(17, .int .i64)], [2, 1, 15, 16], []⟩)] Tryd.f135 [.v (.slice p0 n0 c0), .v (.slice p1 n1 c1), .v p2] [] w R = VCTryd135 p0 n0 c0 p1 n1 c1 p2 w R := by kernel_rfl
def VCTryd137 (p0 : Option Addr) (n0 c0 : Nat) (p1 : ByteArray) (w : World) (R : Ending → World → Prop) : Prop :=
Rets Tryd.prog (171 : Nat) #[Value.slice p0 n0 c0, Value.string p1, Value.func (Fn.func (172 : Nat)) #[] #[]] w fun (v0 : Value) (w1 : World) =>
 ∃ (i2 : Int), ∃ (t3 : Bool), v0 = Value.tuple #[Value.int IntKind.i64 i2, Value.bool t3] ∧ Keeps w w1 [] ∧ R (Ending.returned (Value.tuple #[Value.int IntKind.i64 i2, Value.bool t3])) w1
theorem vcTryd137 (p0 : Option Addr) (n0 c0 : Nat) (p1 : ByteArray) (w : World) (R : Ending → World → Prop) : SX.vcFn Tryd.prog [] Tryd.f137 [.v (.slice p0 n0 c0), .v (.string p1)] [] w R = VCTryd137 p0 n0 c0 p1 w R := by kernel_rfl
def VCTryd138 (p0 : Option Addr) (n0 c0 : Nat) (w : World) (R : Ending → World → Prop) : Prop :=
bif p0.isNone then R (Ending.returned (Value.slice none (0 : Nat) (0 : Nat))) w
else
 Runs Tryd.prog (Instr.buildSlice (27 : Nat) (0 : Nat) #[]) w fun (v0 : Value) (w1 : World) =>
  ∃ (q2 : Option Addr),
   ∃ (n3 : Nat),
    ∃ (n4 : Nat),
     v0 = Value.slice q2 n3 n4 ∧
      Keeps w w1 [] ∧
       Runs Tryd.prog (Builtin.append_ #[(27 : Nat), (27 : Nat)] (27 : Nat) #[Value.slice q2 n3 n4, Value.slice p0 n0 c0]) w1 fun (v5 : Value) (w6 : World) =>
        ∃ (q7 : Option Addr), ∃ (n8 : Nat), ∃ (n9 : Nat), v5 = Value.slice q7 n8 n9 ∧ Keeps w1 w6 [] ∧ R (Ending.returned (Value.slice q7 n8 n9)) w6
theorem vcTryd138 (p0 : Option Addr) (n0 c0 : Nat) (w : World) (R : Ending → World → Prop) : SX.vcFn Tryd.prog [] Tryd.f138 [.v (.slice p0 n0 c0)] [] w R = VCTryd138 p0 n0 c0 w R := by kernel_rfl
def VCTryd139 (p0 : Option Addr) (n0 c0 : Nat) (w : World) (R : Ending → World → Prop) : Prop :=
Runs Tryd.prog (Instr.makeSlice (105 : Nat) (Value.int IntKind.i64 (0 : Int)) (Value.int IntKind.i64 (↑n0 : Int))) w fun (v0 : Value) (w1 : World) =>
 ∃ (q2 : Option Addr),
  ∃ (n3 : Nat),
   ∃ (n4 : Nat),
    v0 = Value.slice q2 n3 n4 ∧
     Keeps w w1 [] ∧
      ∃ (I5 : Int → Option Addr → Nat → Nat → World → Prop),
       ∃ (I6 : Int → Option Addr → Nat → Nat → World → Nat),
        I5 (0 : Int) q2 n3 n4 w1 ∧
         ∀ (i7 : Int) (q8 : Option Addr) (n9 n10 : Nat) (w11 : World),
          I5 i7 q8 n9 n10 w11 →
           bif decide (i7 < (↑n0 : Int)) then
            ((0 : Int) ≤ i7 ∧ i7 < (↑n0 : Int)) ∧
             SX.Ptr p0 fun (a12 : Addr) =>
              ∃ (s13 : ByteArray),
               ∃ (q14 : Option Addr),
                ∃ (n15 : Nat),
                 ∃ (n16 : Nat),
                  (w11.cell? ((a12.add (i7.toNat * (2 : Nat))).add (0 : Nat)) = some (Value.string s13) ∧
                    w11.cell? ((a12.add (i7.toNat * (2 : Nat))).add (1 : Nat)) = some (Value.slice q14 n15 n16) ∧ True) ∧
                   (Known
                     (((w11.alloc (Obj.cells #[Value.string { data := #[] }, Value.slice none (0 : Nat) (0 : Nat)] (107 : Nat))).setCell { block := w11.heap.size, off := (0 : Nat) }
                         (Value.string s13)).setCell
                       {block := w11.heap.size, off := (1 : Nat) } (Value.slice q14 n15 n16)).drew
                     [(w11.heap.size, [((0 : Nat), Value.string s13), ((1 : Nat), Value.slice q14 n15 n16)])] →
                    Rets Tryd.prog (138 : Nat) #[Value.slice q14 n15 n16]
                     (((w11.alloc (Obj.cells #[Value.string { data := #[] }, Value.slice none (0 : Nat) (0 : Nat)] (107 : Nat))).setCell { block := w11.heap.size, off := (0 : Nat) }
                         (Value.string s13)).setCell
                       {block := w11.heap.size, off := (1 : Nat) } (Value.slice q14 n15 n16)).drew
                     fun (v17 : Value) (w18 : World) =>
                     ∃ (q19 : Option Addr),
                      ∃ (n20 : Nat),
                       ∃ (n21 : Nat),
                        v17 = Value.slice q19 n20 n21 ∧
                         Keeps
                           (((w11.alloc (Obj.cells #[Value.string { data := #[] }, Value.slice none (0 : Nat) (0 : Nat)] (107 : Nat))).setCell { block := w11.heap.size, off := (0 : Nat) }
                               (Value.string s13)).setCell
                             {block := w11.heap.size, off := (1 : Nat) } (Value.slice q14 n15 n16)).drew
                           w18 [w11.heap.size] ∧
                          w18.cell? { block := w11.heap.size, off := (0 : Nat) } = some (Value.string s13) ∧
                           Runs Tryd.prog
                            (Builtin.append_ #[(105 : Nat), (105 : Nat)] (105 : Nat)
                             #[Value.slice q8 n9 n10, Value.slice (some { block := w18.heap.size, off := (0 : Nat) }) (1 : Nat) (1 : Nat)])
                            (w18.alloc (Obj.cells #[Value.string s13, Value.slice q19 n20 n21] (107 : Nat))) fun (v22 : Value) (w23 : World) =>
                            ∃ (q24 : Option Addr),
                             ∃ (n25 : Nat),
                              ∃ (n26 : Nat),
                               v22 = Value.slice q24 n25 n26 ∧
                                Keeps (w18.alloc (Obj.cells #[Value.string s13, Value.slice q19 n20 n21] (107 : Nat))) w23 [w11.heap.size] ∧
                                 Wr IntKind.i64 (i7 + (1 : Int)) fun (i27 : Int) => I5 i27 q24 n25 n26 w23 ∧ I6 i27 q24 n25 n26 w23 < I6 i7 q8 n9 n10 w11)
           else R (Ending.returned (Value.slice q8 n9 n10)) w11
theorem vcTryd139 (p0 : Option Addr) (n0 c0 : Nat) (w : World) (R : Ending → World → Prop) : SX.vcFn Tryd.prog [(3, ⟨[(11, .int .i64), (3, .slice)], [9, 10], []⟩)] Tryd.f139 [.v (.slice p0 n0 c0)] [] w R = VCTryd139 p0 n0 c0 w R := by kernel_rfl
def VCTryd140 (p0 : Option Addr) (n0 c0 : Nat) (p1 : Int) (p2 : Option Addr) (n2 c2 : Nat) (w : World) (R : Ending → World → Prop) : Prop :=
((0 : Int) ≤ p1 ∧ p1 ≤ (↑n0 : Int)) ∧
 bif (↑n2 : Int) == (0 : Int) then R (Ending.returned (Value.slice p0 n0 c0)) w
 else
  bif p1 == (↑n0 : Int) then
   Runs Tryd.prog (Builtin.append_ #[(105 : Nat), (105 : Nat)] (105 : Nat) #[Value.slice p0 n0 c0, Value.slice p2 n2 c2]) w fun (v0 : Value) (w1 : World) =>
    ∃ (q2 : Option Addr), ∃ (n3 : Nat), ∃ (n4 : Nat), v0 = Value.slice q2 n3 n4 ∧ Keeps w w1 [] ∧ R (Ending.returned (Value.slice q2 n3 n4)) w1
  else
   Wr IntKind.i64 ((↑n0 : Int) + (↑n2 : Int)) fun (i5 : Int) =>
    Runs Tryd.prog (Builtin.cap_ #[(105 : Nat)] (3 : Nat) #[Value.slice p0 n0 c0]) w fun (v6 : Value) (w7 : World) =>
     ∃ (i8 : Int),
      v6 = Value.int IntKind.i64 i8 ∧
       Keeps w w7 [] ∧
        bif decide (i5 > i8) then
         ((0 : Int) ≤ p1 ∧ p1 ≤ (↑c0 : Int)) ∧
          Wr IntKind.i64 ((↑n0 : Int) + (↑n2 : Int)) fun (i9 : Int) =>
           Wr IntKind.i64 (i9 - p1) fun (i10 : Int) =>
            Runs Tryd.prog (Builtin.append_ #[(105 : Nat), (3 : Nat)] (105 : Nat) #[Value.slice (cutA p0 c0 (0 : Nat) (2 : Nat)) (p1.toNat - (0 : Nat)) (c0 - (0 : Nat)), Value.int IntKind.i64 i10]) w7
             fun (v11 : Value) (w12 : World) =>
             ∃ (q13 : Option Addr),
              ∃ (n14 : Nat),
               ∃ (n15 : Nat),
                v11 = Value.slice q13 n14 n15 ∧
                 Keeps w7 w12 [] ∧
                  ((0 : Int) ≤ p1 ∧ p1 ≤ (↑n14 : Int)) ∧
                   Runs Tryd.prog (Builtin.copy_ #[(105 : Nat), (105 : Nat)] (3 : Nat) #[Value.slice (cutA q13 n15 p1.toNat (2 : Nat)) (n14 - p1.toNat) (n15 - p1.toNat), Value.slice p2 n2 c2]) w12
                    fun (v16 : Value) (w17 : World) =>
                    ∃ (i18 : Int),
                     v16 = Value.int IntKind.i64 i18 ∧
                      Keeps w12 w17 [] ∧
                       Wr IntKind.i64 (p1 + (↑n2 : Int)) fun (i19 : Int) =>
                        ((0 : Int) ≤ i19 ∧ i19 ≤ (↑n14 : Int)) ∧
                         ((0 : Int) ≤ p1 ∧ p1 ≤ (↑n0 : Int)) ∧
                          Runs Tryd.prog
                           (Builtin.copy_ #[(105 : Nat), (105 : Nat)] (3 : Nat)
                            #[Value.slice (cutA q13 n15 i19.toNat (2 : Nat)) (n14 - i19.toNat) (n15 - i19.toNat), Value.slice (cutA p0 c0 p1.toNat (2 : Nat)) (n0 - p1.toNat) (c0 - p1.toNat)])
                           w17.drew fun (v20 : Value) (w21 : World) => ∃ (i22 : Int), v20 = Value.int IntKind.i64 i22 ∧ Keeps w17.drew w21 [] ∧ R (Ending.returned (Value.slice q13 n14 n15)) w21
        else
         Wr IntKind.i64 ((↑n0 : Int) + (↑n2 : Int)) fun (i23 : Int) =>
          ((0 : Int) ≤ i23 ∧ i23 ≤ (↑c0 : Int)) ∧
           Wr IntKind.i64 (p1 + (↑n2 : Int)) fun (i24 : Int) =>
            ((0 : Int) ≤ i24 ∧ i24 ≤ (↑(i23.toNat - (0 : Nat)) : Int)) ∧
             RetsX Tryd.prog (173 : Nat)
              #[Value.slice p2 n2 c2, Value.slice (cutA (cutA p0 c0 (0 : Nat) (2 : Nat)) (c0 - (0 : Nat)) i24.toNat (2 : Nat)) (i23.toNat - (0 : Nat) - i24.toNat) (c0 - (0 : Nat) - i24.toNat)] w7
              fun (v25 : Value) (w26 : World) =>
              ∃ (t27 : Bool),
               v25 = Value.bool t27 ∧
                Keeps w7 w26 [] ∧
                 bif !t27 then
                  Wr IntKind.i64 (p1 + (↑n2 : Int)) fun (i28 : Int) =>
                   ((0 : Int) ≤ i28 ∧ i28 ≤ (↑(i23.toNat - (0 : Nat)) : Int)) ∧
                    ((0 : Int) ≤ p1 ∧ p1 ≤ (↑(i23.toNat - (0 : Nat)) : Int)) ∧
                     Runs Tryd.prog
                      (Builtin.copy_ #[(105 : Nat), (105 : Nat)] (3 : Nat)
                       #[Value.slice (cutA (cutA p0 c0 (0 : Nat) (2 : Nat)) (c0 - (0 : Nat)) i28.toNat (2 : Nat)) (i23.toNat - (0 : Nat) - i28.toNat) (c0 - (0 : Nat) - i28.toNat),
                        Value.slice (cutA (cutA p0 c0 (0 : Nat) (2 : Nat)) (c0 - (0 : Nat)) p1.toNat (2 : Nat)) (i23.toNat - (0 : Nat) - p1.toNat) (c0 - (0 : Nat) - p1.toNat)])
                      w26.drew fun (v29 : Value) (w30 : World) =>
                      ∃ (i31 : Int),
                       v29 = Value.int IntKind.i64 i31 ∧
                        Keeps w26.drew w30 [] ∧
                         ((0 : Int) ≤ p1 ∧ p1 ≤ (↑(i23.toNat - (0 : Nat)) : Int)) ∧
                          Runs Tryd.prog
                           (Builtin.copy_ #[(105 : Nat), (105 : Nat)] (3 : Nat)
                            #[Value.slice (cutA (cutA p0 c0 (0 : Nat) (2 : Nat)) (c0 - (0 : Nat)) p1.toNat (2 : Nat)) (i23.toNat - (0 : Nat) - p1.toNat) (c0 - (0 : Nat) - p1.toNat),
                             Value.slice p2 n2 c2])
                           w30 fun (v32 : Value) (w33 : World) =>
                           ∃ (i34 : Int),
                            v32 = Value.int IntKind.i64 i34 ∧ Keeps w30 w33 [] ∧ R (Ending.returned (Value.slice (cutA p0 c0 (0 : Nat) (2 : Nat)) (i23.toNat - (0 : Nat)) (c0 - (0 : Nat)))) w33
                 else
                  ((0 : Int) ≤ (↑n0 : Int) ∧ (↑n0 : Int) ≤ (↑(i23.toNat - (0 : Nat)) : Int)) ∧
                   Runs Tryd.prog
                    (Builtin.copy_ #[(105 : Nat), (105 : Nat)] (3 : Nat)
                     #[Value.slice (cutA (cutA p0 c0 (0 : Nat) (2 : Nat)) (c0 - (0 : Nat)) (↑n0 : Int).toNat (2 : Nat)) (i23.toNat - (0 : Nat) - (↑n0 : Int).toNat)
                       (c0 - (0 : Nat) - (↑n0 : Int).toNat),
                      Value.slice p2 n2 c2])
                    w26 fun (v35 : Value) (w36 : World) =>
                    ∃ (i37 : Int),
                     v35 = Value.int IntKind.i64 i37 ∧
                      Keeps w26 w36 [] ∧
                       ((0 : Int) ≤ p1 ∧ p1 ≤ (↑(i23.toNat - (0 : Nat)) : Int)) ∧
                        Rets Tryd.prog (174 : Nat)
                         #[Value.slice (cutA (cutA p0 c0 (0 : Nat) (2 : Nat)) (c0 - (0 : Nat)) p1.toNat (2 : Nat)) (i23.toNat - (0 : Nat) - p1.toNat) (c0 - (0 : Nat) - p1.toNat),
                          Value.int IntKind.i64 (↑n2 : Int)]
                         w36 fun (v38 : Value) (w39 : World) =>
                         v38 = Value.tuple #[] ∧ Keeps w36 w39 [] ∧ R (Ending.returned (Value.slice (cutA p0 c0 (0 : Nat) (2 : Nat)) (i23.toNat - (0 : Nat)) (c0 - (0 : Nat)))) w39
theorem vcTryd140 (p0 : Option Addr) (n0 c0 : Nat) (p1 : Int) (p2 : Option Addr) (n2 c2 : Nat) (w : World) (R : Ending → World → Prop) : SX.vcFn Tryd.prog [] Tryd.f140 [.v (.slice p0 n0 c0), .v (.int .i64 p1), .v (.slice p2 n2 c2)] [] w R = VCTryd140 p0 n0 c0 p1 p2 n2 c2 w R := by kernel_rfl
def VCTryd141 (p0 : Option Addr) (n0 c0 : Nat) (p1 : Int) (p2 : Int) (w : World) (R : Ending → World → Prop) : Prop :=
((0 : Int) ≤ (↑n0 : Int) ∧ (↑n0 : Int) ≤ (↑c0 : Int)) ∧
 ((0 : Int) ≤ p2 ∧ p2 ≤ (↑(↑n0 : Int).toNat : Int)) ∧
  ((0 : Int) ≤ p1 ∧ p1 ≤ (↑p2.toNat : Int)) ∧
   bif p1 == p2 then R (Ending.returned (Value.slice p0 n0 c0)) w
   else
    ((0 : Int) ≤ p1 ∧ p1 ≤ (↑c0 : Int)) ∧
     ((0 : Int) ≤ p2 ∧ p2 ≤ (↑n0 : Int)) ∧
      Runs Tryd.prog
       (Builtin.append_ #[(105 : Nat), (105 : Nat)] (105 : Nat)
        #[Value.slice (cutA p0 c0 (0 : Nat) (2 : Nat)) (p1.toNat - (0 : Nat)) (c0 - (0 : Nat)), Value.slice (cutA p0 c0 p2.toNat (2 : Nat)) (n0 - p2.toNat) (c0 - p2.toNat)])
       w.drew fun (v0 : Value) (w1 : World) =>
       ∃ (q2 : Option Addr),
        ∃ (n3 : Nat),
         ∃ (n4 : Nat),
          v0 = Value.slice q2 n3 n4 ∧
           Keeps w.drew w1 [] ∧
            ((0 : Int) ≤ (↑n0 : Int) ∧ (↑n0 : Int) ≤ (↑n4 : Int)) ∧
             ((0 : Int) ≤ (↑n3 : Int) ∧ (↑n3 : Int) ≤ (↑(↑n0 : Int).toNat : Int)) ∧
              Runs Tryd.prog (Builtin.clear_ #[(105 : Nat)] (0 : Nat) #[Value.slice (cutA q2 n4 (↑n3 : Int).toNat (2 : Nat)) ((↑n0 : Int).toNat - (↑n3 : Int).toNat) (n4 - (↑n3 : Int).toNat)]) w1
               fun (v5 : Value) (w6 : World) => v5 = Value.tuple #[] ∧ Keeps w1 w6 [] ∧ R (Ending.returned (Value.slice q2 n3 n4)) w6
theorem vcTryd141 (p0 : Option Addr) (n0 c0 : Nat) (p1 : Int) (p2 : Int) (w : World) (R : Ending → World → Prop) : SX.vcFn Tryd.prog [] Tryd.f141 [.v (.slice p0 n0 c0), .v (.int .i64 p1), .v (.int .i64 p2)] [] w R = VCTryd141 p0 n0 c0 p1 p2 w R := by kernel_rfl
def VCTryd171 (p0 : Option Addr) (n0 c0 : Nat) (p1 : ByteArray) (p2 : Value) (w : World) (R : Ending → World → Prop) : Prop :=
∃ (I0 : Int → Int → World → Prop),
 ∃ (I1 : Int → Int → World → Nat),
  I0 (↑n0 : Int) (0 : Int) w ∧
   ∀ (i2 i3 : Int) (w4 : World),
    I0 i2 i3 w4 →
     bif decide (i3 < i2) then
      Wr IntKind.i64 (i3 + i2) fun (i5 : Int) =>
       Wr IntKind.u64 i5 fun (i6 : Int) =>
        (0 : Int) ≤ (1 : Int) ∧
         Wr IntKind.i64 (shrI IntKind.u64 i6 (1 : Int)) fun (i7 : Int) =>
          ((0 : Int) ≤ i7 ∧ i7 < (↑n0 : Int)) ∧
           SX.Ptr p0 fun (a8 : Addr) =>
            ∃ (s9 : ByteArray),
             ∃ (q10 : Option Addr),
              ∃ (n11 : Nat),
               ∃ (n12 : Nat),
                (w4.cell? ((a8.add (i7.toNat * (2 : Nat))).add (0 : Nat)) = some (Value.string s9) ∧ w4.cell? ((a8.add (i7.toNat * (2 : Nat))).add (1 : Nat)) = some (Value.slice q10 n11 n12) ∧ True) ∧
                 CallsVal Tryd.prog p2 #[Value.agg #[Value.string s9, Value.slice q10 n11 n12], Value.string p1] w4 fun (v13 : Value) (w14 : World) =>
                  ∃ (i15 : Int),
                   v13 = Value.int IntKind.i64 i15 ∧
                    Keeps w4 w14 [] ∧
                     bif decide (i15 < (0 : Int)) then Wr IntKind.i64 (i7 + (1 : Int)) fun (i16 : Int) => I0 i2 i16 w14 ∧ I1 i2 i16 w14 < I1 i2 i3 w4 else I0 i7 i3 w14 ∧ I1 i7 i3 w14 < I1 i2 i3 w4
     else
      bif decide (i3 < (↑n0 : Int)) then
       ((0 : Int) ≤ i3 ∧ i3 < (↑n0 : Int)) ∧
        SX.Ptr p0 fun (a17 : Addr) =>
         ∃ (s18 : ByteArray),
          ∃ (q19 : Option Addr),
           ∃ (n20 : Nat),
            ∃ (n21 : Nat),
             (w4.cell? ((a17.add (i3.toNat * (2 : Nat))).add (0 : Nat)) = some (Value.string s18) ∧ w4.cell? ((a17.add (i3.toNat * (2 : Nat))).add (1 : Nat)) = some (Value.slice q19 n20 n21) ∧ True) ∧
              CallsVal Tryd.prog p2 #[Value.agg #[Value.string s18, Value.slice q19 n20 n21], Value.string p1] w4 fun (v22 : Value) (w23 : World) =>
               ∃ (i24 : Int), v22 = Value.int IntKind.i64 i24 ∧ Keeps w4 w23 [] ∧ R (Ending.returned (Value.tuple #[Value.int IntKind.i64 i3, Value.bool (i24 == (0 : Int))])) w23
      else R (Ending.returned (Value.tuple #[Value.int IntKind.i64 i3, Value.bool false])) w4
theorem vcTryd171 (p0 : Option Addr) (n0 c0 : Nat) (p1 : ByteArray) (p2 : Value) (w : World) (R : Ending → World → Prop) : SX.vcFn Tryd.prog [(3, ⟨[(10, .int .i64), (9, .int .i64)], [1, 0, 2, 8], []⟩)] Tryd.f171 [.v (.slice p0 n0 c0), .v (.string p1), .v p2] [] w R = VCTryd171 p0 n0 c0 p1 p2 w R := by kernel_rfl
def VCTryd136 (fs : ByteArray) (fq : Option Addr) (fn fc : Nat) (gs : ByteArray) (gq : Option Addr) (gn gc : Nat) (w : World) (R : Ending → World → Prop) : Prop :=
bif fs.toList == gs.toList then
 ∃ (s0 : ByteArray),
  s0.size = fn ∧
   BytesAt ((w.alloc (Obj.cells #[Value.string fs, Value.slice fq fn fc] (107 : Nat))).alloc (Obj.cells #[Value.string gs, Value.slice gq gn gc] (107 : Nat))) fq s0 ∧
    ∃ (s1 : ByteArray),
     s1.size = gn ∧
      BytesAt ((w.alloc (Obj.cells #[Value.string fs, Value.slice fq fn fc] (107 : Nat))).alloc (Obj.cells #[Value.string gs, Value.slice gq gn gc] (107 : Nat))) gq s1 ∧
       (Known ((w.alloc (Obj.cells #[Value.string fs, Value.slice fq fn fc] (107 : Nat))).alloc (Obj.cells #[Value.string gs, Value.slice gq gn gc] (107 : Nat)))
         [(w.heap.size, [((0 : Nat), Value.string fs), ((1 : Nat), Value.slice fq fn fc)]),
          ((w.alloc (Obj.cells #[Value.string fs, Value.slice fq fn fc] (107 : Nat))).heap.size, [((0 : Nat), Value.string gs), ((1 : Nat), Value.slice gq gn gc)])] →
        R (Ending.returned (Value.bool (s0.toList == s1.toList)))
         ((w.alloc (Obj.cells #[Value.string fs, Value.slice fq fn fc] (107 : Nat))).alloc (Obj.cells #[Value.string gs, Value.slice gq gn gc] (107 : Nat))))
else
 Known ((w.alloc (Obj.cells #[Value.string fs, Value.slice fq fn fc] (107 : Nat))).alloc (Obj.cells #[Value.string gs, Value.slice gq gn gc] (107 : Nat)))
   [(w.heap.size, [((0 : Nat), Value.string fs), ((1 : Nat), Value.slice fq fn fc)]),
    ((w.alloc (Obj.cells #[Value.string fs, Value.slice fq fn fc] (107 : Nat))).heap.size, [((0 : Nat), Value.string gs), ((1 : Nat), Value.slice gq gn gc)])] →
  R (Ending.returned (Value.bool false)) ((w.alloc (Obj.cells #[Value.string fs, Value.slice fq fn fc] (107 : Nat))).alloc (Obj.cells #[Value.string gs, Value.slice gq gn gc] (107 : Nat)))
theorem vcTryd136 (fs : ByteArray) (fq : Option Addr) (fn fc : Nat) (gs : ByteArray) (gq : Option Addr) (gn gc : Nat) (w : World) (R : Ending → World → Prop) : SX.vcFn Tryd.prog [] Tryd.f136 [.v (.agg #[.string fs, .slice fq fn fc]), .v (.agg #[.string gs, .slice gq gn gc])] [] w R = VCTryd136 fs fq fn fc gs gq gn gc w R := by kernel_rfl
def VCTryd172 (fs : ByteArray) (fq : Option Addr) (fn fc : Nat) (t : ByteArray) (w : World) (R : Ending → World → Prop) : Prop :=
Known (w.alloc (Obj.cells #[Value.string fs, Value.slice fq fn fc] (107 : Nat))) [(w.heap.size, [((0 : Nat), Value.string fs), ((1 : Nat), Value.slice fq fn fc)])] →
 Rets Tryd.prog (167 : Nat) #[Value.string fs, Value.string t] (w.alloc (Obj.cells #[Value.string fs, Value.slice fq fn fc] (107 : Nat))) fun (v0 : Value) (w1 : World) =>
  ∃ (i2 : Int),
   v0 = Value.int IntKind.i64 i2 ∧
    Keeps (w.alloc (Obj.cells #[Value.string fs, Value.slice fq fn fc] (107 : Nat))) w1 [w.heap.size] ∧
     (Known w1 [(w.heap.size, [((0 : Nat), Value.string fs), ((1 : Nat), Value.slice fq fn fc)])] → R (Ending.returned (Value.int IntKind.i64 i2)) w1)
theorem vcTryd172 (fs : ByteArray) (fq : Option Addr) (fn fc : Nat) (t : ByteArray) (w : World) (R : Ending → World → Prop) : SX.vcFn Tryd.prog [] Tryd.f172 [.v (.agg #[.string fs, .slice fq fn fc]), .v (.string t)] [] w R = VCTryd172 fs fq fn fc t w R := by kernel_rfl
end Go.Proofs.YtbpknjldphckgaaDoor
