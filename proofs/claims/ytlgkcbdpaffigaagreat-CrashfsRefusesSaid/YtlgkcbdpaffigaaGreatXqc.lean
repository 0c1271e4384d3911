/- What the row needs, part 3. -/
import Derived.Test.YtlgkcbdpaffigaaGreatProg
import Derived.Lib.AppendZerosOnto
import Derived.Shelf.SlicesE.Clone
import Derived.Shelf.SortM.Plain
import Derived.Shelf.SortM.SortNone
import Derived.Shelf.SlMaps.Clone
import Derived.Sort.KeysCollected
import Derived.Sort.OwnSorted
import Derived.Sort.Walk0
import Derived.Test.YtlgkcbdpaffigaaGreatXqb
namespace Go.Proofs.YtlgkcbdpaffigaaGreat
open Go Go.SX Go.Proofs
set_option maxRecDepth 100000
set_option linter.unusedVariables false

theorem noNGp : noNG Tryz.prog := by
  have h : (Tryz.prog.funcs.toList.all (fun fn => !(fn.name == "runtime.NumGoroutine"))) = true := by kernel_rfl
  exact h
theorem mixed : Tryz.prog.follows .mixedOrders = true := by kernel_rfl
theorem ent {k : FuncId} {fn : Func} {ann : List (Nat × LoopAnn)} {w : World} {R : Value → World → Prop} (args : List Value) (hf : Tryz.prog.funcs[k]? = some fn)
    (h : vcFn Tryz.prog ann fn (args.map SV.v) [] w (fun e w' => ∃ v, e = .returned v ∧ R v w')) : Rets Tryz.prog k args.toArray w R := by
  have := vcFn_sound noNGp mixed hf Sat.plain h
  simp only [List.map_map] at this
  have e : args.map (SV.val ∘ SV.v) = args := by
    rw [show (SV.val ∘ SV.v) = id from rfl]; simp
  rw [e] at this
  exact this
theorem ptr_some (a : Addr) (K : Addr → Prop) : Ptr (some a) K = K a := rfl
end Go.Proofs.YtlgkcbdpaffigaaGreat

namespace Go.Proofs.YtlgkcbdpaffigaaGreat
open Go Go.SX Go.Proofs
set_option maxRecDepth 100000
set_option linter.unusedVariables false
def VCTryz70 (p0 : ByteArray) (w : World) (R : Ending → World → Prop) : Prop :=
bif decide ((↑p0.size : Int) ≥ (1 : Int)) then R (Ending.returned (Value.bool (decide ((↑p0.size : Int) ≤ (100 : Int))))) w else R (Ending.returned (Value.bool false)) w
theorem vcTryz70 (p0 : ByteArray) (w : World) (R : Ending → World → Prop) : SX.vcFn Tryz.prog [] Tryz.f70 [.v (.string p0)] [] w R = VCTryz70 p0 w R := by kernel_rfl
def VCTryz76 (p0 : ByteArray) (w : World) (R : Ending → World → Prop) : Prop :=
bif decide ((↑p0.size : Int) > (0 : Int)) then R (Ending.returned (Value.bool (decide ((↑p0.size : Int) < (101 : Int))))) w else R (Ending.returned (Value.bool false)) w
theorem vcTryz76 (p0 : ByteArray) (w : World) (R : Ending → World → Prop) : SX.vcFn Tryz.prog [] Tryz.f76 [.v (.string p0)] [] w R = VCTryz76 p0 w R := by kernel_rfl
def VCTryz77 (p0 : Option Addr) (n0 c0 : Nat) (p1 : ByteArray) (w : World) (R : Ending → World → Prop) : Prop :=
∃ (I0 : Int → World → Prop),
 ∃ (I1 : Int → World → Nat),
  I0 (0 : Int) w ∧
   ∀ (i2 : Int) (w3 : World),
    I0 i2 w3 →
     bif decide (i2 < (↑n0 : Int)) then
      ((0 : Int) ≤ i2 ∧ i2 < (↑n0 : Int)) ∧
       SX.Ptr p0 fun (a4 : Addr) =>
        ∃ (s5 : ByteArray),
         w3.cell? ((a4.add (i2.toNat * (2 : Nat))).add (0 : Nat)) = some (Value.string s5) ∧
          bif s5.toList == p1.toList then R (Ending.returned (Value.int IntKind.i64 i2)) w3 else Wr IntKind.i64 (i2 + (1 : Int)) fun (i6 : Int) => I0 i6 w3 ∧ I1 i6 w3 < I1 i2 w3
     else R (Ending.returned (Value.int IntKind.i64 (-1 : Int))) w3
theorem vcTryz77 (p0 : Option Addr) (n0 c0 : Nat) (p1 : ByteArray) (w : World) (R : Ending → World → Prop) : SX.vcFn Tryz.prog [(2, ⟨[(5, .int .i64)], [1, 0], []⟩)] Tryz.f77 [.v (.slice p0 n0 c0), .v (.string p1)] [] w R = VCTryz77 p0 n0 c0 p1 w R := by kernel_rfl
def VCTryz89 (p0 : Option Addr) (n0 c0 : Nat) (p1 : Int) (w : World) (R : Ending → World → Prop) : Prop :=
∃ (I0 : Int → World → Prop),
 ∃ (I1 : Int → World → Nat),
  I0 (0 : Int) w ∧
   ∀ (i2 : Int) (w3 : World),
    I0 i2 w3 →
     bif decide (i2 < (↑n0 : Int)) then
      ((0 : Int) ≤ i2 ∧ i2 < (↑n0 : Int)) ∧
       SX.Ptr p0 fun (a4 : Addr) =>
        ∃ (i5 : Int),
         w3.cell? ((a4.add (i2.toNat * (2 : Nat))).add (1 : Nat)) = some (Value.int IntKind.i64 i5) ∧
          bif i5 == p1 then R (Ending.returned (Value.bool true)) w3 else Wr IntKind.i64 (i2 + (1 : Int)) fun (i6 : Int) => I0 i6 w3 ∧ I1 i6 w3 < I1 i2 w3
     else R (Ending.returned (Value.bool false)) w3
theorem vcTryz89 (p0 : Option Addr) (n0 c0 : Nat) (p1 : Int) (w : World) (R : Ending → World → Prop) : SX.vcFn Tryz.prog [(2, ⟨[(5, .int .i64)], [1, 0], []⟩)] Tryz.f89 [.v (.slice p0 n0 c0), .v (.int .i64 p1)] [] w R = VCTryz89 p0 n0 c0 p1 w R := by kernel_rfl
def VCTryz82 (p0 : Option Addr) (n0 c0 : Nat) (p1 : ByteArray) (w : World) (R : Ending → World → Prop) : Prop :=
∃ (I0 : Int → Option Addr → Nat → Nat → World → Prop),
 ∃ (I1 : Int → Option Addr → Nat → Nat → World → Nat),
  I0 (0 : Int) none (0 : Nat) (0 : Nat) w ∧
   ∀ (i2 : Int) (q3 : Option Addr) (n4 n5 : Nat) (w6 : World),
    I0 i2 q3 n4 n5 w6 →
     bif decide (i2 < (↑n0 : Int)) then
      ((0 : Int) ≤ i2 ∧ i2 < (↑n0 : Int)) ∧
       SX.Ptr p0 fun (a7 : Addr) =>
        ∃ (s8 : ByteArray),
         w6.cell? ((a7.add (i2.toNat * (2 : Nat))).add (0 : Nat)) = some (Value.string s8) ∧
          bif !s8.toList == p1.toList then
           ((0 : Int) ≤ i2 ∧ i2 < (↑n0 : Int)) ∧
            SX.Ptr p0 fun (a9 : Addr) =>
             ∃ (s10 : ByteArray),
              ∃ (i11 : Int),
               (w6.cell? ((a9.add (i2.toNat * (2 : Nat))).add (0 : Nat)) = some (Value.string s10) ∧ w6.cell? ((a9.add (i2.toNat * (2 : Nat))).add (1 : Nat)) = some (Value.int IntKind.i64 i11) ∧ True) ∧
                Runs Tryz.prog (Builtin.append_ #[(41 : Nat), (41 : Nat)] (41 : Nat) #[Value.slice q3 n4 n5, Value.slice (some { block := w6.heap.size, off := (0 : Nat) }) (1 : Nat) (1 : Nat)])
                 (w6.alloc (Obj.cells #[Value.string s10, Value.int IntKind.i64 i11] (74 : Nat))) fun (v12 : Value) (w13 : World) =>
                 ∃ (q14 : Option Addr),
                  ∃ (n15 : Nat),
                   ∃ (n16 : Nat),
                    v12 = Value.slice q14 n15 n16 ∧
                     Keeps (w6.alloc (Obj.cells #[Value.string s10, Value.int IntKind.i64 i11] (74 : Nat))) w13 [] ∧
                      Wr IntKind.i64 (i2 + (1 : Int)) fun (i17 : Int) => I0 i17 q14 n15 n16 w13 ∧ I1 i17 q14 n15 n16 w13 < I1 i2 q3 n4 n5 w6
          else Wr IntKind.i64 (i2 + (1 : Int)) fun (i18 : Int) => I0 i18 q3 n4 n5 w6 ∧ I1 i18 q3 n4 n5 w6 < I1 i2 q3 n4 n5 w6
     else R (Ending.returned (Value.slice q3 n4 n5)) w6
theorem vcTryz82 (p0 : Option Addr) (n0 c0 : Nat) (p1 : ByteArray) (w : World) (R : Ending → World → Prop) : SX.vcFn Tryz.prog [(3, ⟨[(6, .int .i64), (5, .slice)], [0, 1], []⟩)] Tryz.f82 [.v (.slice p0 n0 c0), .v (.string p1)] [] w R = VCTryz82 p0 n0 c0 p1 w R := by kernel_rfl
def VCTryz79 (p0 : Option Addr) (n0 c0 : Nat) (p1 : ByteArray) (p2 : Int) (w : World) (R : Ending → World → Prop) : Prop :=
Rets Tryz.prog (82 : Nat) #[Value.slice p0 n0 c0, Value.string p1] w fun (v0 : Value) (w1 : World) =>
 ∃ (q2 : Option Addr),
  ∃ (n3 : Nat),
   ∃ (n4 : Nat),
    v0 = Value.slice q2 n3 n4 ∧
     Keeps w w1 [] ∧
      ∃ (I5 : Int → Option Addr → Nat → Nat → Bool → World → Prop),
       ∃ (I6 : Int → Option Addr → Nat → Nat → Bool → World → Nat),
        I5 (0 : Int) none (0 : Nat) (0 : Nat) false w1 ∧
         ∀ (i7 : Int) (q8 : Option Addr) (n9 n10 : Nat) (t11 : Bool) (w12 : World),
          I5 i7 q8 n9 n10 t11 w12 →
           bif decide (i7 < (↑n3 : Int)) then
            bif !t11 then
             ((0 : Int) ≤ i7 ∧ i7 < (↑n3 : Int)) ∧
              SX.Ptr q2 fun (a13 : Addr) =>
               ∃ (s14 : ByteArray),
                w12.cell? ((a13.add (i7.toNat * (2 : Nat))).add (0 : Nat)) = some (Value.string s14) ∧
                 bif Op.bytesLess p1.toList s14.toList then
                  Runs Tryz.prog (Builtin.append_ #[(41 : Nat), (41 : Nat)] (41 : Nat) #[Value.slice q8 n9 n10, Value.slice (some { block := w12.heap.size, off := (0 : Nat) }) (1 : Nat) (1 : Nat)])
                   (w12.alloc (Obj.cells #[Value.string p1, Value.int IntKind.i64 p2] (74 : Nat))) fun (v15 : Value) (w16 : World) =>
                   ∃ (q17 : Option Addr),
                    ∃ (n18 : Nat),
                     ∃ (n19 : Nat),
                      v15 = Value.slice q17 n18 n19 ∧
                       Keeps (w12.alloc (Obj.cells #[Value.string p1, Value.int IntKind.i64 p2] (74 : Nat))) w16 [] ∧
                        ((0 : Int) ≤ i7 ∧ i7 < (↑n3 : Int)) ∧
                         SX.Ptr q2 fun (a20 : Addr) =>
                          ∃ (s21 : ByteArray),
                           ∃ (i22 : Int),
                            (w16.cell? ((a20.add (i7.toNat * (2 : Nat))).add (0 : Nat)) = some (Value.string s21) ∧
                              w16.cell? ((a20.add (i7.toNat * (2 : Nat))).add (1 : Nat)) = some (Value.int IntKind.i64 i22) ∧ True) ∧
                             Runs Tryz.prog
                              (Builtin.append_ #[(41 : Nat), (41 : Nat)] (41 : Nat)
                               #[Value.slice q17 n18 n19, Value.slice (some { block := w16.heap.size, off := (0 : Nat) }) (1 : Nat) (1 : Nat)])
                              (w16.alloc (Obj.cells #[Value.string s21, Value.int IntKind.i64 i22] (74 : Nat))) fun (v23 : Value) (w24 : World) =>
                              ∃ (q25 : Option Addr),
                               ∃ (n26 : Nat),
                                ∃ (n27 : Nat),
                                 v23 = Value.slice q25 n26 n27 ∧
                                  Keeps (w16.alloc (Obj.cells #[Value.string s21, Value.int IntKind.i64 i22] (74 : Nat))) w24 [] ∧
                                   Wr IntKind.i64 (i7 + (1 : Int)) fun (i28 : Int) => I5 i28 q25 n26 n27 true w24 ∧ I6 i28 q25 n26 n27 true w24 < I6 i7 q8 n9 n10 t11 w12
                 else
                  ((0 : Int) ≤ i7 ∧ i7 < (↑n3 : Int)) ∧
                   SX.Ptr q2 fun (a29 : Addr) =>
                    ∃ (s30 : ByteArray),
                     ∃ (i31 : Int),
                      (w12.cell? ((a29.add (i7.toNat * (2 : Nat))).add (0 : Nat)) = some (Value.string s30) ∧
                        w12.cell? ((a29.add (i7.toNat * (2 : Nat))).add (1 : Nat)) = some (Value.int IntKind.i64 i31) ∧ True) ∧
                       Runs Tryz.prog
                        (Builtin.append_ #[(41 : Nat), (41 : Nat)] (41 : Nat) #[Value.slice q8 n9 n10, Value.slice (some { block := w12.heap.size, off := (0 : Nat) }) (1 : Nat) (1 : Nat)])
                        (w12.alloc (Obj.cells #[Value.string s30, Value.int IntKind.i64 i31] (74 : Nat))) fun (v32 : Value) (w33 : World) =>
                        ∃ (q34 : Option Addr),
                         ∃ (n35 : Nat),
                          ∃ (n36 : Nat),
                           v32 = Value.slice q34 n35 n36 ∧
                            Keeps (w12.alloc (Obj.cells #[Value.string s30, Value.int IntKind.i64 i31] (74 : Nat))) w33 [] ∧
                             Wr IntKind.i64 (i7 + (1 : Int)) fun (i37 : Int) => I5 i37 q34 n35 n36 t11 w33 ∧ I6 i37 q34 n35 n36 t11 w33 < I6 i7 q8 n9 n10 t11 w12
            else
             ((0 : Int) ≤ i7 ∧ i7 < (↑n3 : Int)) ∧
              SX.Ptr q2 fun (a38 : Addr) =>
               ∃ (s39 : ByteArray),
                ∃ (i40 : Int),
                 (w12.cell? ((a38.add (i7.toNat * (2 : Nat))).add (0 : Nat)) = some (Value.string s39) ∧
                   w12.cell? ((a38.add (i7.toNat * (2 : Nat))).add (1 : Nat)) = some (Value.int IntKind.i64 i40) ∧ True) ∧
                  Runs Tryz.prog (Builtin.append_ #[(41 : Nat), (41 : Nat)] (41 : Nat) #[Value.slice q8 n9 n10, Value.slice (some { block := w12.heap.size, off := (0 : Nat) }) (1 : Nat) (1 : Nat)])
                   (w12.alloc (Obj.cells #[Value.string s39, Value.int IntKind.i64 i40] (74 : Nat))) fun (v41 : Value) (w42 : World) =>
                   ∃ (q43 : Option Addr),
                    ∃ (n44 : Nat),
                     ∃ (n45 : Nat),
                      v41 = Value.slice q43 n44 n45 ∧
                       Keeps (w12.alloc (Obj.cells #[Value.string s39, Value.int IntKind.i64 i40] (74 : Nat))) w42 [] ∧
                        Wr IntKind.i64 (i7 + (1 : Int)) fun (i46 : Int) => I5 i46 q43 n44 n45 t11 w42 ∧ I6 i46 q43 n44 n45 t11 w42 < I6 i7 q8 n9 n10 t11 w12
           else
            bif !t11 then
             Runs Tryz.prog (Builtin.append_ #[(41 : Nat), (41 : Nat)] (41 : Nat) #[Value.slice q8 n9 n10, Value.slice (some { block := w12.heap.size, off := (0 : Nat) }) (1 : Nat) (1 : Nat)])
              (w12.alloc (Obj.cells #[Value.string p1, Value.int IntKind.i64 p2] (74 : Nat))) fun (v47 : Value) (w48 : World) =>
              ∃ (q49 : Option Addr),
               ∃ (n50 : Nat),
                ∃ (n51 : Nat),
                 v47 = Value.slice q49 n50 n51 ∧ Keeps (w12.alloc (Obj.cells #[Value.string p1, Value.int IntKind.i64 p2] (74 : Nat))) w48 [] ∧ R (Ending.returned (Value.slice q49 n50 n51)) w48
            else R (Ending.returned (Value.slice q8 n9 n10)) w12
theorem vcTryz79 (p0 : Option Addr) (n0 c0 : Nat) (p1 : ByteArray) (p2 : Int) (w : World) (R : Ending → World → Prop) : SX.vcFn Tryz.prog [(5, ⟨[(9, .int .i64), (7, .slice), (8, .bool)], [0, 2, 1], []⟩)] Tryz.f79 [.v (.slice p0 n0 c0), .v (.string p1), .v (.int .i64 p2)] [] w R = VCTryz79 p0 n0 c0 p1 p2 w R := by kernel_rfl
def VCTryz78 (p0 : Option Addr) (p1 : Option Addr) (n1 c1 : Nat) (w : World) (R : Ending → World → Prop) : Prop :=
SX.Ptr p0 fun (a0 : Addr) =>
 ∃ (q1 : Option Addr),
  ∃ (n2 : Nat),
   ∃ (n3 : Nat),
    w.drew.cell? (a0.add (1 : Nat)) = some (Value.slice q1 n2 n3) ∧
     SX.Ptr p0 fun (a4 : Addr) =>
      ∃ (q5 : Option Addr),
       ∃ (n6 : Nat),
        ∃ (n7 : Nat),
         w.drew.cell? (a4.add (0 : Nat)) = some (Value.slice q5 n6 n7) ∧
          (w.drew.alloc (Obj.cells #[Value.slice q5 n6 n7] (41 : Nat))).cell? (a0.add (1 : Nat)) = some (Value.slice q1 n2 n3) ∧
           Runs Tryz.prog (Builtin.append_ #[(42 : Nat), (42 : Nat)] (42 : Nat) #[Value.slice q1 n2 n3, Value.slice (some { block := w.drew.heap.size, off := (0 : Nat) }) (1 : Nat) (1 : Nat)])
            (w.drew.alloc (Obj.cells #[Value.slice q5 n6 n7] (41 : Nat))) fun (v8 : Value) (w9 : World) =>
            ∃ (q10 : Option Addr),
             ∃ (n11 : Nat),
              ∃ (n12 : Nat),
               v8 = Value.slice q10 n11 n12 ∧
                Keeps (w.drew.alloc (Obj.cells #[Value.slice q5 n6 n7] (41 : Nat))) w9 [] ∧
                 SX.Ptr p0 fun (a13 : Addr) =>
                  (∃ (v14 : Value), w9.cell? ((a13.add (1 : Nat)).add (0 : Nat)) = some v14) ∧
                   w9.frozen? ((a13.add (1 : Nat)).add (0 : Nat)) = false ∧
                    SX.Ptr p0 fun (a15 : Addr) =>
                     (∃ (v16 : Value), (w9.setCell ((a13.add (1 : Nat)).add (0 : Nat)) (Value.slice q10 n11 n12)).cell? ((a15.add (0 : Nat)).add (0 : Nat)) = some v16) ∧
                      (w9.setCell ((a13.add (1 : Nat)).add (0 : Nat)) (Value.slice q10 n11 n12)).frozen? ((a15.add (0 : Nat)).add (0 : Nat)) = false ∧
                       R (Ending.returned (Value.int IntKind.i64 (0 : Int)))
                        ((w9.setCell ((a13.add (1 : Nat)).add (0 : Nat)) (Value.slice q10 n11 n12)).setCell ((a15.add (0 : Nat)).add (0 : Nat)) (Value.slice p1 n1 c1))
theorem vcTryz78 (p0 : Option Addr) (p1 : Option Addr) (n1 c1 : Nat) (w : World) (R : Ending → World → Prop) : SX.vcFn Tryz.prog [] Tryz.f78 [.v (.pointer p0), .v (.slice p1 n1 c1)] [] w R = VCTryz78 p0 p1 n1 c1 w R := by kernel_rfl
def VCTryz46 (p0 : Option Addr) (p1 : ByteArray) (p2 : Int) (w : World) (R : Ending → World → Prop) : Prop :=
Rets Tryz.prog (76 : Nat) #[Value.string p1] w fun (v0 : Value) (w1 : World) =>
 ∃ (t2 : Bool),
  v0 = Value.bool t2 ∧
   Keeps w w1 [] ∧
    bif !t2 then R (Ending.returned (Value.int IntKind.i64 (6 : Int))) w1
    else
     SX.Ptr p0 fun (a3 : Addr) =>
      ∃ (q4 : Option Addr),
       ∃ (n5 : Nat),
        ∃ (n6 : Nat),
         w1.cell? (a3.add (0 : Nat)) = some (Value.slice q4 n5 n6) ∧
          Rets Tryz.prog (77 : Nat) #[Value.slice q4 n5 n6, Value.string p1] w1 fun (v7 : Value) (w8 : World) =>
           ∃ (i9 : Int),
            v7 = Value.int IntKind.i64 i9 ∧
             Keeps w1 w8 [] ∧
              bif decide (i9 ≥ (0 : Int)) then R (Ending.returned (Value.int IntKind.i64 (16 : Int))) w8
              else
               SX.Ptr p0 fun (a10 : Addr) =>
                ∃ (q11 : Option Addr),
                 ∃ (n12 : Nat),
                  ∃ (n13 : Nat),
                   w8.cell? (a10.add (0 : Nat)) = some (Value.slice q11 n12 n13) ∧
                    bif decide ((↑n12 : Int) ≥ (16 : Int)) then R (Ending.returned (Value.int IntKind.i64 (14 : Int))) w8
                    else
                     SX.Ptr p0 fun (a14 : Addr) =>
                      ∃ (q15 : Option Addr),
                       ∃ (n16 : Nat),
                        ∃ (n17 : Nat),
                         w8.cell? (a14.add (0 : Nat)) = some (Value.slice q15 n16 n17) ∧
                          Rets Tryz.prog (79 : Nat) #[Value.slice q15 n16 n17, Value.string p1, Value.int IntKind.i64 p2] w8 fun (v18 : Value) (w19 : World) =>
                           ∃ (q20 : Option Addr),
                            ∃ (n21 : Nat),
                             ∃ (n22 : Nat),
                              v18 = Value.slice q20 n21 n22 ∧
                               Keeps w8 w19 [] ∧
                                Rets Tryz.prog (78 : Nat) #[Value.pointer p0, Value.slice q20 n21 n22] w19 fun (v23 : Value) (w24 : World) =>
                                 ∃ (i25 : Int), v23 = Value.int IntKind.i64 i25 ∧ Keeps w19 w24 [] ∧ R (Ending.returned (Value.int IntKind.i64 i25)) w24
theorem vcTryz46 (p0 : Option Addr) (p1 : ByteArray) (p2 : Int) (w : World) (R : Ending → World → Prop) : SX.vcFn Tryz.prog [] Tryz.f46 [.v (.pointer p0), .v (.string p1), .v (.int .i64 p2)] [] w R = VCTryz46 p0 p1 p2 w R := by kernel_rfl
def VCTryz54 (p0 : Option Addr) (p1 : ByteArray) (p2 : ByteArray) (w : World) (R : Ending → World → Prop) : Prop :=
Rets Tryz.prog (76 : Nat) #[Value.string p2] w fun (v0 : Value) (w1 : World) =>
 ∃ (t2 : Bool),
  v0 = Value.bool t2 ∧
   Keeps w w1 [] ∧
    bif !t2 then R (Ending.returned (Value.int IntKind.i64 (6 : Int))) w1
    else
     SX.Ptr p0 fun (a3 : Addr) =>
      ∃ (q4 : Option Addr),
       ∃ (n5 : Nat),
        ∃ (n6 : Nat),
         w1.cell? (a3.add (0 : Nat)) = some (Value.slice q4 n5 n6) ∧
          Rets Tryz.prog (77 : Nat) #[Value.slice q4 n5 n6, Value.string p1] w1 fun (v7 : Value) (w8 : World) =>
           ∃ (i9 : Int),
            v7 = Value.int IntKind.i64 i9 ∧
             Keeps w1 w8 [] ∧
              bif decide (i9 < (0 : Int)) then R (Ending.returned (Value.int IntKind.i64 (7 : Int))) w8
              else
               SX.Ptr p0 fun (a10 : Addr) =>
                ∃ (q11 : Option Addr),
                 ∃ (n12 : Nat),
                  ∃ (n13 : Nat),
                   w8.drew.cell? (a10.add (0 : Nat)) = some (Value.slice q11 n12 n13) ∧
                    SX.Ptr p0 fun (a14 : Addr) =>
                     ∃ (q15 : Option Addr),
                      ∃ (n16 : Nat),
                       ∃ (n17 : Nat),
                        w8.drew.cell? (a14.add (0 : Nat)) = some (Value.slice q15 n16 n17) ∧
                         ((0 : Int) ≤ i9 ∧ i9 < (↑n16 : Int)) ∧
                          SX.Ptr q15 fun (a18 : Addr) =>
                           ∃ (i19 : Int),
                            w8.drew.cell? ((a18.add (i9.toNat * (2 : Nat))).add (1 : Nat)) = some (Value.int IntKind.i64 i19) ∧
                             Rets Tryz.prog (82 : Nat) #[Value.slice q11 n12 n13, Value.string p1] w8.drew fun (v20 : Value) (w21 : World) =>
                              ∃ (q22 : Option Addr),
                               ∃ (n23 : Nat),
                                ∃ (n24 : Nat),
                                 v20 = Value.slice q22 n23 n24 ∧
                                  Keeps w8.drew w21 [] ∧
                                   w21.cell? ((a18.add (i9.toNat * (2 : Nat))).add (1 : Nat)) = some (Value.int IntKind.i64 i19) ∧
                                    w21.cell? (a14.add (0 : Nat)) = some (Value.slice q15 n16 n17) ∧
                                     Rets Tryz.prog (79 : Nat) #[Value.slice q22 n23 n24, Value.string p2, Value.int IntKind.i64 i19] w21 fun (v25 : Value) (w26 : World) =>
                                      ∃ (q27 : Option Addr),
                                       ∃ (n28 : Nat),
                                        ∃ (n29 : Nat),
                                         v25 = Value.slice q27 n28 n29 ∧
                                          Keeps w21 w26 [] ∧
                                           Rets Tryz.prog (78 : Nat) #[Value.pointer p0, Value.slice q27 n28 n29] w26 fun (v30 : Value) (w31 : World) =>
                                            ∃ (i32 : Int), v30 = Value.int IntKind.i64 i32 ∧ Keeps w26 w31 [] ∧ R (Ending.returned (Value.int IntKind.i64 i32)) w31
theorem vcTryz54 (p0 : Option Addr) (p1 : ByteArray) (p2 : ByteArray) (w : World) (R : Ending → World → Prop) : SX.vcFn Tryz.prog [] Tryz.f54 [.v (.pointer p0), .v (.string p1), .v (.string p2)] [] w R = VCTryz54 p0 p1 p2 w R := by kernel_rfl
def VCTryz56 (p0 : Option Addr) (p1 : ByteArray) (w : World) (R : Ending → World → Prop) : Prop :=
SX.Ptr p0 fun (a0 : Addr) =>
 ∃ (q1 : Option Addr),
  ∃ (n2 : Nat),
   ∃ (n3 : Nat),
    w.cell? (a0.add (0 : Nat)) = some (Value.slice q1 n2 n3) ∧
     Rets Tryz.prog (77 : Nat) #[Value.slice q1 n2 n3, Value.string p1] w fun (v4 : Value) (w5 : World) =>
      ∃ (i6 : Int),
       v4 = Value.int IntKind.i64 i6 ∧
        Keeps w w5 [] ∧
         bif decide (i6 < (0 : Int)) then R (Ending.returned (Value.int IntKind.i64 (7 : Int))) w5
         else
          SX.Ptr p0 fun (a7 : Addr) =>
           ∃ (q8 : Option Addr),
            ∃ (n9 : Nat),
             ∃ (n10 : Nat),
              w5.cell? (a7.add (0 : Nat)) = some (Value.slice q8 n9 n10) ∧
               Rets Tryz.prog (82 : Nat) #[Value.slice q8 n9 n10, Value.string p1] w5 fun (v11 : Value) (w12 : World) =>
                ∃ (q13 : Option Addr),
                 ∃ (n14 : Nat),
                  ∃ (n15 : Nat),
                   v11 = Value.slice q13 n14 n15 ∧
                    Keeps w5 w12 [] ∧
                     Rets Tryz.prog (78 : Nat) #[Value.pointer p0, Value.slice q13 n14 n15] w12 fun (v16 : Value) (w17 : World) =>
                      ∃ (i18 : Int), v16 = Value.int IntKind.i64 i18 ∧ Keeps w12 w17 [] ∧ R (Ending.returned (Value.int IntKind.i64 i18)) w17
theorem vcTryz56 (p0 : Option Addr) (p1 : ByteArray) (w : World) (R : Ending → World → Prop) : SX.vcFn Tryz.prog [] Tryz.f56 [.v (.pointer p0), .v (.string p1)] [] w R = VCTryz56 p0 p1 w R := by kernel_rfl
def VCTryz60 (p0 : Option Addr) (p1 : Int) (w : World) (R : Ending → World → Prop) : Prop :=
bif decide (p1 < (0 : Int)) then
 SX.Ptr p0 fun (a0 : Addr) =>
  ∃ (q1 : Option Addr),
   ∃ (n2 : Nat),
    ∃ (n3 : Nat),
     w.cell? (a0.add (1 : Nat)) = some (Value.slice q1 n2 n3) ∧
      bif decide ((0 : Int) < (↑n2 : Int)) then
       SX.Ptr p0 fun (a4 : Addr) =>
        ∃ (q5 : Option Addr),
         ∃ (n6 : Nat),
          ∃ (n7 : Nat),
           w.cell? (a4.add (1 : Nat)) = some (Value.slice q5 n6 n7) ∧
            ((0 : Int) ≤ (0 : Int) ∧ (0 : Int) < (↑n6 : Int)) ∧
             SX.Ptr q5 fun (a8 : Addr) =>
              ∃ (q9 : Option Addr),
               ∃ (n10 : Nat),
                ∃ (n11 : Nat),
                 w.cell? (a8.add (0 : Nat)) = some (Value.slice q9 n10 n11) ∧
                  SX.Ptr p0 fun (a12 : Addr) =>
                   (∃ (v13 : Value), w.cell? ((a12.add (0 : Nat)).add (0 : Nat)) = some v13) ∧
                    w.frozen? ((a12.add (0 : Nat)).add (0 : Nat)) = false ∧
                     SX.Ptr p0 fun (a14 : Addr) =>
                      (∃ (v15 : Value), (w.setCell ((a12.add (0 : Nat)).add (0 : Nat)) (Value.slice q9 n10 n11)).cell? ((a14.add (1 : Nat)).add (0 : Nat)) = some v15) ∧
                       (w.setCell ((a12.add (0 : Nat)).add (0 : Nat)) (Value.slice q9 n10 n11)).frozen? ((a14.add (1 : Nat)).add (0 : Nat)) = false ∧
                        R (Ending.returned (Value.tuple #[]))
                         ((w.setCell ((a12.add (0 : Nat)).add (0 : Nat)) (Value.slice q9 n10 n11)).setCell ((a14.add (1 : Nat)).add (0 : Nat)) (Value.slice none (0 : Nat) (0 : Nat)))
      else
       SX.Ptr p0 fun (a16 : Addr) =>
        (∃ (v17 : Value), w.cell? ((a16.add (1 : Nat)).add (0 : Nat)) = some v17) ∧
         w.frozen? ((a16.add (1 : Nat)).add (0 : Nat)) = false ∧ R (Ending.returned (Value.tuple #[])) (w.setCell ((a16.add (1 : Nat)).add (0 : Nat)) (Value.slice none (0 : Nat) (0 : Nat)))
else
 SX.Ptr p0 fun (a18 : Addr) =>
  ∃ (q19 : Option Addr),
   ∃ (n20 : Nat),
    ∃ (n21 : Nat),
     w.cell? (a18.add (1 : Nat)) = some (Value.slice q19 n20 n21) ∧
      bif decide (p1 < (↑n20 : Int)) then
       SX.Ptr p0 fun (a22 : Addr) =>
        ∃ (q23 : Option Addr),
         ∃ (n24 : Nat),
          ∃ (n25 : Nat),
           w.cell? (a22.add (1 : Nat)) = some (Value.slice q23 n24 n25) ∧
            ((0 : Int) ≤ p1 ∧ p1 < (↑n24 : Int)) ∧
             SX.Ptr q23 fun (a26 : Addr) =>
              ∃ (q27 : Option Addr),
               ∃ (n28 : Nat),
                ∃ (n29 : Nat),
                 w.cell? (a26.add (p1.toNat * (1 : Nat))) = some (Value.slice q27 n28 n29) ∧
                  SX.Ptr p0 fun (a30 : Addr) =>
                   (∃ (v31 : Value), w.cell? ((a30.add (0 : Nat)).add (0 : Nat)) = some v31) ∧
                    w.frozen? ((a30.add (0 : Nat)).add (0 : Nat)) = false ∧
                     SX.Ptr p0 fun (a32 : Addr) =>
                      (∃ (v33 : Value), (w.setCell ((a30.add (0 : Nat)).add (0 : Nat)) (Value.slice q27 n28 n29)).cell? ((a32.add (1 : Nat)).add (0 : Nat)) = some v33) ∧
                       (w.setCell ((a30.add (0 : Nat)).add (0 : Nat)) (Value.slice q27 n28 n29)).frozen? ((a32.add (1 : Nat)).add (0 : Nat)) = false ∧
                        R (Ending.returned (Value.tuple #[]))
                         ((w.setCell ((a30.add (0 : Nat)).add (0 : Nat)) (Value.slice q27 n28 n29)).setCell ((a32.add (1 : Nat)).add (0 : Nat)) (Value.slice none (0 : Nat) (0 : Nat)))
      else
       SX.Ptr p0 fun (a34 : Addr) =>
        (∃ (v35 : Value), w.cell? ((a34.add (1 : Nat)).add (0 : Nat)) = some v35) ∧
         w.frozen? ((a34.add (1 : Nat)).add (0 : Nat)) = false ∧ R (Ending.returned (Value.tuple #[])) (w.setCell ((a34.add (1 : Nat)).add (0 : Nat)) (Value.slice none (0 : Nat) (0 : Nat)))
theorem vcTryz60 (p0 : Option Addr) (p1 : Int) (w : World) (R : Ending → World → Prop) : SX.vcFn Tryz.prog [] Tryz.f60 [.v (.pointer p0), .v (.int .i64 p1)] [] w R = VCTryz60 p0 p1 w R := by kernel_rfl
def VCTryz62 (p0 : Option Addr) (p1 : Int) (w : World) (R : Ending → World → Prop) : Prop :=
∃ (I0 : Int → World → Prop),
 ∃ (I1 : Int → World → Nat),
  I0 (0 : Int) w ∧
   ∀ (i2 : Int) (w3 : World),
    I0 i2 w3 →
     SX.Ptr p0 fun (a4 : Addr) =>
      ∃ (q5 : Option Addr),
       ∃ (n6 : Nat),
        ∃ (n7 : Nat),
         w3.cell? (a4.add (1 : Nat)) = some (Value.slice q5 n6 n7) ∧
          bif decide (i2 < (↑n6 : Int)) then
           SX.Ptr p0 fun (a8 : Addr) =>
            ∃ (q9 : Option Addr),
             ∃ (n10 : Nat),
              ∃ (n11 : Nat),
               w3.cell? (a8.add (1 : Nat)) = some (Value.slice q9 n10 n11) ∧
                ((0 : Int) ≤ i2 ∧ i2 < (↑n10 : Int)) ∧
                 SX.Ptr q9 fun (a12 : Addr) =>
                  ∃ (q13 : Option Addr),
                   ∃ (n14 : Nat),
                    ∃ (n15 : Nat),
                     w3.cell? (a12.add (i2.toNat * (1 : Nat))) = some (Value.slice q13 n14 n15) ∧
                      Rets Tryz.prog (89 : Nat) #[Value.slice q13 n14 n15, Value.int IntKind.i64 p1] w3 fun (v16 : Value) (w17 : World) =>
                       ∃ (t18 : Bool),
                        v16 = Value.bool t18 ∧
                         Keeps w3 w17 [] ∧ bif t18 then R (Ending.returned (Value.bool true)) w17 else Wr IntKind.i64 (i2 + (1 : Int)) fun (i19 : Int) => I0 i19 w17 ∧ I1 i19 w17 < I1 i2 w3
          else
           SX.Ptr p0 fun (a20 : Addr) =>
            ∃ (q21 : Option Addr),
             ∃ (n22 : Nat),
              ∃ (n23 : Nat),
               w3.cell? (a20.add (0 : Nat)) = some (Value.slice q21 n22 n23) ∧
                Rets Tryz.prog (89 : Nat) #[Value.slice q21 n22 n23, Value.int IntKind.i64 p1] w3 fun (v24 : Value) (w25 : World) =>
                 ∃ (t26 : Bool), v24 = Value.bool t26 ∧ Keeps w3 w25 [] ∧ R (Ending.returned (Value.bool t26)) w25
theorem vcTryz62 (p0 : Option Addr) (p1 : Int) (w : World) (R : Ending → World → Prop) : SX.vcFn Tryz.prog [(2, ⟨[(5, .int .i64)], [1, 0], []⟩)] Tryz.f62 [.v (.pointer p0), .v (.int .i64 p1)] [] w R = VCTryz62 p0 p1 w R := by kernel_rfl
def VCTryz41 (p0 : Option Addr) (p1 : ByteArray) (p2 : Int) (w : World) (R : Ending → World → Prop) : Prop :=
bif p0.isNone then R (Ending.returned (Value.int IntKind.i64 (1 : Int))) w
else
 SX.Ptr p0 fun (a0 : Addr) =>
  ∃ (q1 : Option Nat),
   w.cell? (a0.add (0 : Nat)) = some (Value.map q1) ∧
    Runs Tryz.prog (Instr.lookup (56 : Nat) (Value.map q1) (Value.string p1) true) w fun (v2 : Value) (w3 : World) =>
     ∃ (i4 : Int),
      ∃ (t5 : Bool),
       v2 = Value.tuple #[Value.int IntKind.i64 i4, Value.bool t5] ∧
        Keeps w w3 [] ∧
         Rets Tryz.prog (70 : Nat) #[Value.string p1] w3 fun (v6 : Value) (w7 : World) =>
          ∃ (t8 : Bool),
           v6 = Value.bool t8 ∧
            Keeps w3 w7 [] ∧
             bif !t8 then R (Ending.returned (Value.int IntKind.i64 (6 : Int))) w7
             else
              bif t5 then R (Ending.returned (Value.int IntKind.i64 (16 : Int))) w7
              else
               SX.Ptr p0 fun (a9 : Addr) =>
                ∃ (q10 : Option Nat),
                 w7.cell? (a9.add (0 : Nat)) = some (Value.map q10) ∧
                  Runs Tryz.prog (Builtin.len_ #[(56 : Nat)] (3 : Nat) #[Value.map q10]) w7 fun (v11 : Value) (w12 : World) =>
                   ∃ (i13 : Int),
                    v11 = Value.int IntKind.i64 i13 ∧
                     Keeps w7 w12 [] ∧
                      bif decide (i13 ≥ (16 : Int)) then R (Ending.returned (Value.int IntKind.i64 (14 : Int))) w12
                      else
                       Rets Tryz.prog (71 : Nat) #[Value.pointer p0, Value.agg #[Value.string { data := #[] }, Value.string p1, Value.int IntKind.i64 p2]] w12 fun (v14 : Value) (w15 : World) =>
                        ∃ (i16 : Int), v14 = Value.int IntKind.i64 i16 ∧ Keeps w12 w15 [] ∧ R (Ending.returned (Value.int IntKind.i64 i16)) w15
theorem vcTryz41 (p0 : Option Addr) (p1 : ByteArray) (p2 : Int) (w : World) (R : Ending → World → Prop) : SX.vcFn Tryz.prog [] Tryz.f41 [.v (.pointer p0), .v (.string p1), .v (.int .i64 p2)] [] w R = VCTryz41 p0 p1 p2 w R := by kernel_rfl
def VCTryz53 (p0 : Option Addr) (p1 : ByteArray) (p2 : ByteArray) (w : World) (R : Ending → World → Prop) : Prop :=
bif p0.isNone then R (Ending.returned (Value.int IntKind.i64 (1 : Int))) w
else
 SX.Ptr p0 fun (a0 : Addr) =>
  ∃ (q1 : Option Nat),
   w.cell? (a0.add (0 : Nat)) = some (Value.map q1) ∧
    Runs Tryz.prog (Instr.lookup (56 : Nat) (Value.map q1) (Value.string p1) true) w fun (v2 : Value) (w3 : World) =>
     ∃ (i4 : Int),
      ∃ (t5 : Bool),
       v2 = Value.tuple #[Value.int IntKind.i64 i4, Value.bool t5] ∧
        Keeps w w3 [] ∧
         Rets Tryz.prog (70 : Nat) #[Value.string p2] w3 fun (v6 : Value) (w7 : World) =>
          ∃ (t8 : Bool),
           v6 = Value.bool t8 ∧
            Keeps w3 w7 [] ∧
             bif !t8 then R (Ending.returned (Value.int IntKind.i64 (6 : Int))) w7
             else
              bif !t5 then R (Ending.returned (Value.int IntKind.i64 (7 : Int))) w7
              else
               Rets Tryz.prog (71 : Nat) #[Value.pointer p0, Value.agg #[Value.string p1, Value.string p2, Value.int IntKind.i64 (0 : Int)]] w7 fun (v9 : Value) (w10 : World) =>
                ∃ (i11 : Int), v9 = Value.int IntKind.i64 i11 ∧ Keeps w7 w10 [] ∧ R (Ending.returned (Value.int IntKind.i64 i11)) w10
theorem vcTryz53 (p0 : Option Addr) (p1 : ByteArray) (p2 : ByteArray) (w : World) (R : Ending → World → Prop) : SX.vcFn Tryz.prog [] Tryz.f53 [.v (.pointer p0), .v (.string p1), .v (.string p2)] [] w R = VCTryz53 p0 p1 p2 w R := by kernel_rfl
def VCTryz55 (p0 : Option Addr) (p1 : ByteArray) (w : World) (R : Ending → World → Prop) : Prop :=
bif p0.isNone then R (Ending.returned (Value.int IntKind.i64 (1 : Int))) w
else
 SX.Ptr p0 fun (a0 : Addr) =>
  ∃ (q1 : Option Nat),
   w.cell? (a0.add (0 : Nat)) = some (Value.map q1) ∧
    Runs Tryz.prog (Instr.lookup (56 : Nat) (Value.map q1) (Value.string p1) true) w fun (v2 : Value) (w3 : World) =>
     ∃ (i4 : Int),
      ∃ (t5 : Bool),
       v2 = Value.tuple #[Value.int IntKind.i64 i4, Value.bool t5] ∧
        Keeps w w3 [] ∧
         bif !t5 then R (Ending.returned (Value.int IntKind.i64 (7 : Int))) w3
         else
          Rets Tryz.prog (71 : Nat) #[Value.pointer p0, Value.agg #[Value.string p1, Value.string { data := #[] }, Value.int IntKind.i64 (0 : Int)]] w3 fun (v6 : Value) (w7 : World) =>
           ∃ (i8 : Int), v6 = Value.int IntKind.i64 i8 ∧ Keeps w3 w7 [] ∧ R (Ending.returned (Value.int IntKind.i64 i8)) w7
theorem vcTryz55 (p0 : Option Addr) (p1 : ByteArray) (w : World) (R : Ending → World → Prop) : SX.vcFn Tryz.prog [] Tryz.f55 [.v (.pointer p0), .v (.string p1)] [] w R = VCTryz55 p0 p1 w R := by kernel_rfl
def VCTryz63 (p0 : Option Addr) (p1 : ByteArray) (w : World) (R : Ending → World → Prop) : Prop :=
bif p0.isNone then R (Ending.returned (Value.tuple #[Value.int IntKind.i64 (0 : Int), Value.bool false])) w
else
 SX.Ptr p0 fun (a0 : Addr) =>
  ∃ (q1 : Option Nat),
   w.cell? (a0.add (0 : Nat)) = some (Value.map q1) ∧
    Runs Tryz.prog (Instr.lookup (56 : Nat) (Value.map q1) (Value.string p1) true) w fun (v2 : Value) (w3 : World) =>
     ∃ (i4 : Int), ∃ (t5 : Bool), v2 = Value.tuple #[Value.int IntKind.i64 i4, Value.bool t5] ∧ Keeps w w3 [] ∧ R (Ending.returned (Value.tuple #[Value.int IntKind.i64 i4, Value.bool t5])) w3
theorem vcTryz63 (p0 : Option Addr) (p1 : ByteArray) (w : World) (R : Ending → World → Prop) : SX.vcFn Tryz.prog [] Tryz.f63 [.v (.pointer p0), .v (.string p1)] [] w R = VCTryz63 p0 p1 w R := by kernel_rfl
def VCTryz61 (p0 : Option Addr) (w : World) (R : Ending → World → Prop) : Prop :=
bif p0.isNone then R (Ending.returned (Value.slice none (0 : Nat) (0 : Nat))) w
else
 SX.Ptr p0 fun (a0 : Addr) =>
  ∃ (q1 : Option Nat),
   w.cell? (a0.add (0 : Nat)) = some (Value.map q1) ∧
    Rets Tryz.prog (88 : Nat) #[Value.map q1] w fun (v2 : Value) (w3 : World) =>
     ∃ (v4 : Value),
      v2 = v4 ∧
       Keeps w w3 [] ∧
        Rets Tryz.prog (87 : Nat) #[v4] w3 fun (v5 : Value) (w6 : World) =>
         ∃ (q7 : Option Addr), ∃ (n8 : Nat), ∃ (n9 : Nat), v5 = Value.slice q7 n8 n9 ∧ Keeps w3 w6 [] ∧ R (Ending.returned (Value.slice q7 n8 n9)) w6
theorem vcTryz61 (p0 : Option Addr) (w : World) (R : Ending → World → Prop) : SX.vcFn Tryz.prog [] Tryz.f61 [.v (.pointer p0)] [] w R = VCTryz61 p0 w R := by kernel_rfl
def VCTryz36 (p0 : Option Addr) (p1 : Int) (w : World) (R : Ending → World → Prop) : Prop :=
bif p0.isNone then
 Known (w.alloc (Obj.cells #[Value.int IntKind.i64 p1] (3 : Nat))) [(w.heap.size, [((0 : Nat), Value.int IntKind.i64 p1)])] →
  R (Ending.returned (Value.bool false)) (w.alloc (Obj.cells #[Value.int IntKind.i64 p1] (3 : Nat)))
else
 SX.Ptr p0 fun (a0 : Addr) =>
  ∃ (q1 : Option Addr),
   ∃ (n2 : Nat),
    ∃ (n3 : Nat),
     (w.alloc (Obj.cells #[Value.int IntKind.i64 p1] (3 : Nat))).cell? (a0.add (2 : Nat)) = some (Value.slice q1 n2 n3) ∧
      (Known (w.alloc (Obj.cells #[Value.int IntKind.i64 p1] (3 : Nat))) [(w.heap.size, [((0 : Nat), Value.int IntKind.i64 p1)])] →
       Rets Tryz.prog (65 : Nat) #[Value.slice q1 n2 n3, Value.func (Fn.func (66 : Nat)) #[] #[Value.pointer (some { block := w.heap.size, off := (0 : Nat) })]]
        (w.alloc (Obj.cells #[Value.int IntKind.i64 p1] (3 : Nat))) fun (v4 : Value) (w5 : World) =>
        ∃ (t6 : Bool),
         v4 = Value.bool t6 ∧
          Keeps (w.alloc (Obj.cells #[Value.int IntKind.i64 p1] (3 : Nat))) w5 [] ∧
           ∃ (i7 : Int),
            w5.cell? { block := w.heap.size, off := (0 : Nat) } = some (Value.int IntKind.i64 i7) ∧
             w5.frozen? { block := w.heap.size, off := (0 : Nat) } = false ∧
              bif t6 then Known w5.drew [(w.heap.size, [((0 : Nat), Value.int IntKind.i64 i7)])] → R (Ending.returned (Value.bool true)) w5.drew
              else
               SX.Ptr p0 fun (a8 : Addr) =>
                ∃ (q9 : Option Nat),
                 w5.drew.cell? (a8.add (0 : Nat)) = some (Value.map q9) ∧
                  (Known w5.drew [(w.heap.size, [((0 : Nat), Value.int IntKind.i64 i7)])] →
                   Rets Tryz.prog (69 : Nat) #[Value.map q9] w5.drew fun (v10 : Value) (w11 : World) =>
                    ∃ (v12 : Value),
                     v10 = v12 ∧
                      Keeps w5.drew w11 [] ∧
                       ∃ (i13 : Int),
                        w11.cell? { block := w.heap.size, off := (0 : Nat) } = some (Value.int IntKind.i64 i13) ∧
                         w11.frozen? { block := w.heap.size, off := (0 : Nat) } = false ∧
                          w11.cell? { block := w.heap.size, off := (0 : Nat) } = some (Value.int IntKind.i64 i7) ∧
                           (Known w11 [(w.heap.size, [((0 : Nat), Value.int IntKind.i64 i13)])] →
                            Rets Tryz.prog (68 : Nat) #[v12] w11 fun (v14 : Value) (w15 : World) =>
                             ∃ (q16 : Option Addr),
                              ∃ (n17 : Nat),
                               ∃ (n18 : Nat),
                                v14 = Value.slice q16 n17 n18 ∧
                                 Keeps w11 w15 [] ∧
                                  ∃ (i19 : Int),
                                   w15.cell? { block := w.heap.size, off := (0 : Nat) } = some (Value.int IntKind.i64 i19) ∧
                                    w15.frozen? { block := w.heap.size, off := (0 : Nat) } = false ∧
                                     w15.cell? { block := w.heap.size, off := (0 : Nat) } = some (Value.int IntKind.i64 i7) ∧
                                      (Known w15 [(w.heap.size, [((0 : Nat), Value.int IntKind.i64 i19)])] →
                                       Rets Tryz.prog (67 : Nat) #[Value.slice q16 n17 n18, Value.int IntKind.i64 i7] w15 fun (v20 : Value) (w21 : World) =>
                                        ∃ (t22 : Bool),
                                         v20 = Value.bool t22 ∧
                                          Keeps w15 w21 [] ∧
                                           ∃ (i23 : Int),
                                            w21.cell? { block := w.heap.size, off := (0 : Nat) } = some (Value.int IntKind.i64 i23) ∧
                                             w21.frozen? { block := w.heap.size, off := (0 : Nat) } = false ∧
                                              bif t22 then Known w21 [(w.heap.size, [((0 : Nat), Value.int IntKind.i64 i23)])] → R (Ending.returned (Value.bool true)) w21
                                              else
                                               SX.Ptr p0 fun (a24 : Addr) =>
                                                ∃ (q25 : Option Nat),
                                                 w21.cell? (a24.add (1 : Nat)) = some (Value.map q25) ∧
                                                  (Known w21 [(w.heap.size, [((0 : Nat), Value.int IntKind.i64 i23)])] →
                                                   Rets Tryz.prog (69 : Nat) #[Value.map q25] w21 fun (v26 : Value) (w27 : World) =>
                                                    ∃ (v28 : Value),
                                                     v26 = v28 ∧
                                                      Keeps w21 w27 [] ∧
                                                       ∃ (i29 : Int),
                                                        w27.cell? { block := w.heap.size, off := (0 : Nat) } = some (Value.int IntKind.i64 i29) ∧
                                                         w27.frozen? { block := w.heap.size, off := (0 : Nat) } = false ∧
                                                          w27.cell? { block := w.heap.size, off := (0 : Nat) } = some (Value.int IntKind.i64 i23) ∧
                                                           (Known w27 [(w.heap.size, [((0 : Nat), Value.int IntKind.i64 i29)])] →
                                                            Rets Tryz.prog (68 : Nat) #[v28] w27 fun (v30 : Value) (w31 : World) =>
                                                             ∃ (q32 : Option Addr),
                                                              ∃ (n33 : Nat),
                                                               ∃ (n34 : Nat),
                                                                v30 = Value.slice q32 n33 n34 ∧
                                                                 Keeps w27 w31 [] ∧
                                                                  ∃ (i35 : Int),
                                                                   w31.cell? { block := w.heap.size, off := (0 : Nat) } =
                                                                     some (Value.int IntKind.i64 i35) ∧
                                                                    w31.frozen? { block := w.heap.size, off := (0 : Nat) } = false ∧
                                                                     w31.cell? { block := w.heap.size, off := (0 : Nat) } =
                                                                       some (Value.int IntKind.i64 i23) ∧
                                                                      (Known w31 [(w.heap.size, [((0 : Nat), Value.int IntKind.i64 i35)])] →
                                                                       Rets Tryz.prog (67 : Nat) #[Value.slice q32 n33 n34, Value.int IntKind.i64 i23]
                                                                        w31 fun (v36 : Value) (w37 : World) =>
                                                                        ∃ (t38 : Bool),
                                                                         v36 = Value.bool t38 ∧
                                                                          Keeps w31 w37 [] ∧
                                                                           ∃ (i39 : Int),
                                                                            w37.cell? { block := w.heap.size, off := (0 : Nat) } =
                                                                              some (Value.int IntKind.i64 i39) ∧
                                                                             w37.frozen? { block := w.heap.size, off := (0 : Nat) } = false ∧
                                                                              (Known w37
                                                                                [(w.heap.size, [((0 : Nat), Value.int IntKind.i64 i39)])] →
                                                                               R (Ending.returned (Value.bool t38)) w37))))))))
theorem vcTryz36 (p0 : Option Addr) (p1 : Int) (w : World) (R : Ending → World → Prop) : SX.vcFn Tryz.prog [] Tryz.f36 [.v (.pointer p0), .v (.int .i64 p1)] [] w R = VCTryz36 p0 p1 w R := by kernel_rfl
def VCTryz52 (p0 : Option Addr) (w : World) (R : Ending → World → Prop) : Prop :=
bif !p0.isNone then
 SX.Ptr p0 fun (a0 : Addr) =>
  ∃ (q1 : Option Nat),
   w.cell? (a0.add (0 : Nat)) = some (Value.map q1) ∧
    Rets Tryz.prog (81 : Nat) #[Value.map q1] w fun (v2 : Value) (w3 : World) =>
     ∃ (q4 : Option Nat),
      v2 = Value.map q4 ∧
       Keeps w w3 [] ∧
        SX.Ptr p0 fun (a5 : Addr) =>
         (∃ (v6 : Value), w3.cell? ((a5.add (1 : Nat)).add (0 : Nat)) = some v6) ∧
          w3.frozen? ((a5.add (1 : Nat)).add (0 : Nat)) = false ∧
           SX.Ptr p0 fun (a7 : Addr) =>
            (∃ (v8 : Value), (w3.setCell ((a5.add (1 : Nat)).add (0 : Nat)) (Value.map q4)).cell? ((a7.add (2 : Nat)).add (0 : Nat)) = some v8) ∧
             (w3.setCell ((a5.add (1 : Nat)).add (0 : Nat)) (Value.map q4)).frozen? ((a7.add (2 : Nat)).add (0 : Nat)) = false ∧
              R (Ending.returned (Value.tuple #[])) ((w3.setCell ((a5.add (1 : Nat)).add (0 : Nat)) (Value.map q4)).setCell ((a7.add (2 : Nat)).add (0 : Nat)) (Value.slice none (0 : Nat) (0 : Nat)))
else R (Ending.returned (Value.tuple #[])) w
theorem vcTryz52 (p0 : Option Addr) (w : World) (R : Ending → World → Prop) : SX.vcFn Tryz.prog [] Tryz.f52 [.v (.pointer p0)] [] w R = VCTryz52 p0 w R := by kernel_rfl
def VCTryz58 (p0 : Option Addr) (p1 : Int) (w : World) (R : Ending → World → Prop) : Prop :=
bif p0.isNone then R (Ending.returned (Value.tuple #[])) w
else
 SX.Ptr p0 fun (a0 : Addr) =>
  (∃ (v1 : Value), (w.alloc (Obj.map #[] (0 : Nat))).cell? ((a0.add (0 : Nat)).add (0 : Nat)) = some v1) ∧
   (w.alloc (Obj.map #[] (0 : Nat))).frozen? ((a0.add (0 : Nat)).add (0 : Nat)) = false ∧
    SX.Ptr p0 fun (a2 : Addr) =>
     ∃ (q3 : Option Nat),
      ((w.alloc (Obj.map #[] (0 : Nat))).setCell ((a0.add (0 : Nat)).add (0 : Nat)) (Value.map (some w.heap.size))).drew.cell? (a2.add (0 : Nat)) = some (Value.map q3) ∧
       SX.Ptr p0 fun (a4 : Addr) =>
        ∃ (q5 : Option Nat),
         ((w.alloc (Obj.map #[] (0 : Nat))).setCell ((a0.add (0 : Nat)).add (0 : Nat)) (Value.map (some w.heap.size))).drew.cell? (a4.add (1 : Nat)) = some (Value.map q5) ∧
          Rets Tryz.prog (84 : Nat) #[Value.map q3, Value.map q5] ((w.alloc (Obj.map #[] (0 : Nat))).setCell ((a0.add (0 : Nat)).add (0 : Nat)) (Value.map (some w.heap.size))).drew
           fun (v6 : Value) (w7 : World) =>
           v6 = Value.tuple #[] ∧
            Keeps ((w.alloc (Obj.map #[] (0 : Nat))).setCell ((a0.add (0 : Nat)).add (0 : Nat)) (Value.map (some w.heap.size))).drew w7 [] ∧
             SX.Ptr p0 fun (a8 : Addr) =>
              ∃ (q9 : Option Addr),
               ∃ (n10 : Nat),
                ∃ (n11 : Nat),
                 w7.cell? (a8.add (2 : Nat)) = some (Value.slice q9 n10 n11) ∧
                  ∃ (I12 : Int → World → Prop),
                   ∃ (I13 : Int → World → Nat),
                    I12 (0 : Int) w7 ∧
                     ∀ (i14 : Int) (w15 : World),
                      I12 i14 w15 →
                       bif decide (i14 < (↑n10 : Int)) then
                        ((0 : Int) ≤ i14 ∧ i14 < (↑n10 : Int)) ∧
                         SX.Ptr q9 fun (a16 : Addr) =>
                          ∃ (s17 : ByteArray),
                           ∃ (s18 : ByteArray),
                            ∃ (i19 : Int),
                             (w15.cell? ((a16.add (i14.toNat * (3 : Nat))).add (0 : Nat)) = some (Value.string s17) ∧
                               w15.cell? ((a16.add (i14.toNat * (3 : Nat))).add (1 : Nat)) = some (Value.string s18) ∧
                                w15.cell? ((a16.add (i14.toNat * (3 : Nat))).add (2 : Nat)) = some (Value.int IntKind.i64 i19) ∧ True) ∧
                              bif decide (i14 ≥ p1) then
                               Known
                                 ((((w15.alloc (Obj.cells #[Value.string { data := #[] }, Value.string { data := #[] }, Value.int IntKind.i64 (0 : Int)] (100 : Nat))).setCell
                                      {block := w15.heap.size, off := (0 : Nat) } (Value.string s17)).setCell
                                    {block := w15.heap.size, off := (1 : Nat) } (Value.string s18)).setCell
                                  {block := w15.heap.size, off := (2 : Nat) } (Value.int IntKind.i64 i19))
                                 [(w15.heap.size, [((0 : Nat), Value.string s17), ((1 : Nat), Value.string s18), ((2 : Nat), Value.int IntKind.i64 i19)])] →
                                Rets Tryz.prog (52 : Nat) #[Value.pointer p0]
                                 ((((w15.alloc (Obj.cells #[Value.string { data := #[] }, Value.string { data := #[] }, Value.int IntKind.i64 (0 : Int)] (100 : Nat))).setCell
                                      {block := w15.heap.size, off := (0 : Nat) } (Value.string s17)).setCell
                                    {block := w15.heap.size, off := (1 : Nat) } (Value.string s18)).setCell
                                  {block := w15.heap.size, off := (2 : Nat) } (Value.int IntKind.i64 i19))
                                 fun (v20 : Value) (w21 : World) =>
                                 v20 = Value.tuple #[] ∧
                                  Keeps
                                    ((((w15.alloc (Obj.cells #[Value.string { data := #[] }, Value.string { data := #[] }, Value.int IntKind.i64 (0 : Int)] (100 : Nat))).setCell
                                         {block := w15.heap.size, off := (0 : Nat) } (Value.string s17)).setCell
                                       {block := w15.heap.size, off := (1 : Nat) } (Value.string s18)).setCell
                                     {block := w15.heap.size, off := (2 : Nat) } (Value.int IntKind.i64 i19))
                                    w21 [w15.heap.size] ∧
                                   (Known w21 [(w15.heap.size, [((0 : Nat), Value.string s17), ((1 : Nat), Value.string s18), ((2 : Nat), Value.int IntKind.i64 i19)])] →
                                    R (Ending.returned (Value.tuple #[])) w21)
                              else
                               SX.Ptr p0 fun (a22 : Addr) =>
                                ∃ (q23 : Option Nat),
                                 ((((w15.alloc (Obj.cells #[Value.string { data := #[] }, Value.string { data := #[] }, Value.int IntKind.i64 (0 : Int)] (100 : Nat))).setCell
                                           {block := w15.heap.size, off := (0 : Nat) } (Value.string s17)).setCell
                                         {block := w15.heap.size, off := (1 : Nat) } (Value.string s18)).setCell
                                       {block := w15.heap.size, off := (2 : Nat) } (Value.int IntKind.i64 i19)).drew.cell?
                                    (a22.add (0 : Nat)) =
                                   some (Value.map q23) ∧
                                  (Known
                                    ((((w15.alloc (Obj.cells #[Value.string { data := #[] }, Value.string { data := #[] }, Value.int IntKind.i64 (0 : Int)] (100 : Nat))).setCell
                                          {block := w15.heap.size, off := (0 : Nat) } (Value.string s17)).setCell
                                        {block := w15.heap.size, off := (1 : Nat) } (Value.string s18)).setCell
                                      {block := w15.heap.size, off := (2 : Nat) } (Value.int IntKind.i64 i19)).drew
                                    [(w15.heap.size, [((0 : Nat), Value.string s17), ((1 : Nat), Value.string s18), ((2 : Nat), Value.int IntKind.i64 i19)])] →
                                   Rets Tryz.prog (85 : Nat) #[Value.map q23, Value.agg #[Value.string s17, Value.string s18, Value.int IntKind.i64 i19]]
                                    ((((w15.alloc (Obj.cells #[Value.string { data := #[] }, Value.string { data := #[] }, Value.int IntKind.i64 (0 : Int)] (100 : Nat))).setCell
                                          {block := w15.heap.size, off := (0 : Nat) } (Value.string s17)).setCell
                                        {block := w15.heap.size, off := (1 : Nat) } (Value.string s18)).setCell
                                      {block := w15.heap.size, off := (2 : Nat) } (Value.int IntKind.i64 i19)).drew
                                    fun (v24 : Value) (w25 : World) =>
                                    v24 = Value.tuple #[] ∧
                                     Keeps
                                       ((((w15.alloc (Obj.cells #[Value.string { data := #[] }, Value.string { data := #[] }, Value.int IntKind.i64 (0 : Int)] (100 : Nat))).setCell
                                            {block := w15.heap.size, off := (0 : Nat) } (Value.string s17)).setCell
                                           {block := w15.heap.size, off := (1 : Nat) } (Value.string s18)).setCell
                                         {block := w15.heap.size, off := (2 : Nat) } (Value.int IntKind.i64 i19)).drew
                                       w25 [w15.heap.size] ∧
                                      Wr IntKind.i64 (i14 + (1 : Int)) fun (i26 : Int) => I12 i26 w25 ∧ I13 i26 w25 < I13 i14 w15)
                       else Rets Tryz.prog (52 : Nat) #[Value.pointer p0] w15 fun (v27 : Value) (w28 : World) => v27 = Value.tuple #[] ∧ Keeps w15 w28 [] ∧ R (Ending.returned (Value.tuple #[])) w28
theorem vcTryz58 (p0 : Option Addr) (p1 : Int) (w : World) (R : Ending → World → Prop) : SX.vcFn Tryz.prog [(4, ⟨[(26, .int .i64)], [0, 1, 24, 25], []⟩)] Tryz.f58 [.v (.pointer p0), .v (.int .i64 p1)] [] w R = VCTryz58 p0 p1 w R := by kernel_rfl
def VCTryz87 (p0 : Value) (w : World) (R : Ending → World → Prop) : Prop :=
Rets Tryz.prog (95 : Nat) #[p0] w fun (v0 : Value) (w1 : World) =>
 ∃ (q2 : Option Addr),
  ∃ (n3 : Nat),
   ∃ (n4 : Nat),
    v0 = Value.slice q2 n3 n4 ∧
     Keeps w w1 [] ∧ Rets Tryz.prog (96 : Nat) #[Value.slice q2 n3 n4] w1 fun (v5 : Value) (w6 : World) => v5 = Value.tuple #[] ∧ Keeps w1 w6 [] ∧ R (Ending.returned (Value.slice q2 n3 n4)) w6
theorem vcTryz87 (p0 : Value) (w : World) (R : Ending → World → Prop) : SX.vcFn Tryz.prog [] Tryz.f87 [.v p0] [] w R = VCTryz87 p0 w R := by kernel_rfl
def VCTryz88 (p0 : Option Nat) (w : World) (R : Ending → World → Prop) : Prop :=
Known (w.alloc (Obj.cells #[Value.map p0] (56 : Nat))) [(w.heap.size, [((0 : Nat), Value.map p0)])] →
 R (Ending.returned (Value.func (Fn.func (97 : Nat)) #[] #[Value.pointer (some { block := w.heap.size, off := (0 : Nat) })])) (w.alloc (Obj.cells #[Value.map p0] (56 : Nat)))
theorem vcTryz88 (p0 : Option Nat) (w : World) (R : Ending → World → Prop) : SX.vcFn Tryz.prog [] Tryz.f88 [.v (.map p0)] [] w R = VCTryz88 p0 w R := by kernel_rfl
def VCTryz84 (p0 : Option Nat) (p1 : Option Nat) (w : World) (R : Ending → World → Prop) : Prop :=
Runs Tryz.prog (Instr.range (56 : Nat) (Value.map p1)) w fun (v0 : Value) (w1 : World) =>
 ∃ (q2 : Option Addr),
  v0 = Value.pointer q2 ∧
   Keeps w w1 [] ∧
    ∃ (I3 : World → Prop),
     ∃ (I4 : World → Nat),
      I3 w1 ∧
       ∀ (w5 : World),
        I3 w5 →
         Runs Tryz.prog (Instr.next (Value.pointer q2) false (0 : Nat)) w5 fun (v6 : Value) (w7 : World) =>
          v6 = Value.tuple #[Value.bool false] ∧ Keeps w5 w7 [] ∧ R (Ending.returned (Value.tuple #[])) w7 ∨
           ∃ (v8 : Value),
            ∃ (v9 : Value),
             v6 = Value.tuple #[Value.bool true, v8, v9] ∧
              Keeps w5 w7 [] ∧
               Runs Tryz.prog (Instr.entry (Value.pointer q2)) w7 fun (v10 : Value) (w11 : World) =>
                ∃ (v12 : Value),
                 ∃ (v13 : Value),
                  v10 = Value.tuple #[v12, v13] ∧
                   Keeps w7 w11 [] ∧ Runs Tryz.prog (Instr.mapUpdate (56 : Nat) (Value.map p0) v12 v13) w11 fun (x14 : Unit) (w15 : World) => Keeps w11 w15 [] ∧ I3 w15 ∧ I4 w15 < I4 w5
theorem vcTryz84 (p0 : Option Nat) (p1 : Option Nat) (w : World) (R : Ending → World → Prop) : SX.vcFn Tryz.prog [(1, ⟨[], [0, 7], []⟩)] Tryz.f84 [.v (.map p0), .v (.map p1)] [] w R = VCTryz84 p0 p1 w R := by kernel_rfl
def VCTryz95 (p0 : Value) (w : World) (R : Ending → World → Prop) : Prop :=
Rets Tryz.prog (98 : Nat) #[Value.slice none (0 : Nat) (0 : Nat), p0] w fun (v0 : Value) (w1 : World) =>
 ∃ (q2 : Option Addr), ∃ (n3 : Nat), ∃ (n4 : Nat), v0 = Value.slice q2 n3 n4 ∧ Keeps w w1 [] ∧ R (Ending.returned (Value.slice q2 n3 n4)) w1
theorem vcTryz95 (p0 : Value) (w : World) (R : Ending → World → Prop) : SX.vcFn Tryz.prog [] Tryz.f95 [.v p0] [] w R = VCTryz95 p0 w R := by kernel_rfl
def VCTryz68 (p0 : Value) (w : World) (R : Ending → World → Prop) : Prop :=
Rets Tryz.prog (92 : Nat) #[Value.slice none (0 : Nat) (0 : Nat), p0] w fun (v0 : Value) (w1 : World) =>
 ∃ (q2 : Option Addr), ∃ (n3 : Nat), ∃ (n4 : Nat), v0 = Value.slice q2 n3 n4 ∧ Keeps w w1 [] ∧ R (Ending.returned (Value.slice q2 n3 n4)) w1
theorem vcTryz68 (p0 : Value) (w : World) (R : Ending → World → Prop) : SX.vcFn Tryz.prog [] Tryz.f68 [.v p0] [] w R = VCTryz68 p0 w R := by kernel_rfl
def VCTryz69 (p0 : Option Nat) (w : World) (R : Ending → World → Prop) : Prop :=
Known (w.alloc (Obj.cells #[Value.map p0] (56 : Nat))) [(w.heap.size, [((0 : Nat), Value.map p0)])] →
 R (Ending.returned (Value.func (Fn.func (93 : Nat)) #[] #[Value.pointer (some { block := w.heap.size, off := (0 : Nat) })])) (w.alloc (Obj.cells #[Value.map p0] (56 : Nat)))
theorem vcTryz69 (p0 : Option Nat) (w : World) (R : Ending → World → Prop) : SX.vcFn Tryz.prog [] Tryz.f69 [.v (.map p0)] [] w R = VCTryz69 p0 w R := by kernel_rfl
def VCTryz65 (p0 : Option Addr) (n0 c0 : Nat) (p1 : Value) (w : World) (R : Ending → World → Prop) : Prop :=
Rets Tryz.prog (90 : Nat) #[Value.slice p0 n0 c0, p1] w fun (v0 : Value) (w1 : World) => ∃ (i2 : Int), v0 = Value.int IntKind.i64 i2 ∧ Keeps w w1 [] ∧ R (Ending.returned (Value.bool (decide (i2 ≥ (0 : Int))))) w1
theorem vcTryz65 (p0 : Option Addr) (n0 c0 : Nat) (p1 : Value) (w : World) (R : Ending → World → Prop) : SX.vcFn Tryz.prog [] Tryz.f65 [.v (.slice p0 n0 c0), .v p1] [] w R = VCTryz65 p0 n0 c0 p1 w R := by kernel_rfl
def VCTryz90 (p0 : Option Addr) (n0 c0 : Nat) (p1 : Value) (w : World) (R : Ending → World → Prop) : Prop :=
∃ (I0 : Int → World → Prop),
 ∃ (I1 : Int → World → Nat),
  I0 (0 : Int) w ∧
   ∀ (i2 : Int) (w3 : World),
    I0 i2 w3 →
     bif decide (i2 < (↑n0 : Int)) then
      ((0 : Int) ≤ i2 ∧ i2 < (↑n0 : Int)) ∧
       SX.Ptr p0 fun (a4 : Addr) =>
        ∃ (s5 : ByteArray),
         ∃ (s6 : ByteArray),
          ∃ (i7 : Int),
           (w3.cell? ((a4.add (i2.toNat * (3 : Nat))).add (0 : Nat)) = some (Value.string s5) ∧
             w3.cell? ((a4.add (i2.toNat * (3 : Nat))).add (1 : Nat)) = some (Value.string s6) ∧ w3.cell? ((a4.add (i2.toNat * (3 : Nat))).add (2 : Nat)) = some (Value.int IntKind.i64 i7) ∧ True) ∧
            CallsVal Tryz.prog p1 #[Value.agg #[Value.string s5, Value.string s6, Value.int IntKind.i64 i7]] w3 fun (v8 : Value) (w9 : World) =>
             ∃ (t10 : Bool),
              v8 = Value.bool t10 ∧ Keeps w3 w9 [] ∧ bif t10 then R (Ending.returned (Value.int IntKind.i64 i2)) w9 else Wr IntKind.i64 (i2 + (1 : Int)) fun (i11 : Int) => I0 i11 w9 ∧ I1 i11 w9 < I1 i2 w3
     else R (Ending.returned (Value.int IntKind.i64 (-1 : Int))) w3
theorem vcTryz90 (p0 : Option Addr) (n0 c0 : Nat) (p1 : Value) (w : World) (R : Ending → World → Prop) : SX.vcFn Tryz.prog [(2, ⟨[(8, .int .i64)], [0, 1, 7], []⟩)] Tryz.f90 [.v (.slice p0 n0 c0), .v p1] [] w R = VCTryz90 p0 n0 c0 p1 w R := by kernel_rfl
def VCTryz67 (p0 : Option Addr) (n0 c0 : Nat) (p1 : Int) (w : World) (R : Ending → World → Prop) : Prop :=
Rets Tryz.prog (91 : Nat) #[Value.slice p0 n0 c0, Value.int IntKind.i64 p1] w fun (v0 : Value) (w1 : World) =>
 ∃ (i2 : Int), v0 = Value.int IntKind.i64 i2 ∧ Keeps w w1 [] ∧ R (Ending.returned (Value.bool (decide (i2 ≥ (0 : Int))))) w1
theorem vcTryz67 (p0 : Option Addr) (n0 c0 : Nat) (p1 : Int) (w : World) (R : Ending → World → Prop) : SX.vcFn Tryz.prog [] Tryz.f67 [.v (.slice p0 n0 c0), .v (.int .i64 p1)] [] w R = VCTryz67 p0 n0 c0 p1 w R := by kernel_rfl
def VCTryz91 (p0 : Option Addr) (n0 c0 : Nat) (p1 : Int) (w : World) (R : Ending → World → Prop) : Prop :=
∃ (I0 : Int → World → Prop),
 ∃ (I1 : Int → World → Nat),
  I0 (0 : Int) w ∧
   ∀ (i2 : Int) (w3 : World),
    I0 i2 w3 →
     bif decide (i2 < (↑n0 : Int)) then
      ((0 : Int) ≤ i2 ∧ i2 < (↑n0 : Int)) ∧
       SX.Ptr p0 fun (a4 : Addr) =>
        ∃ (i5 : Int),
         w3.cell? (a4.add (i2.toNat * (1 : Nat))) = some (Value.int IntKind.i64 i5) ∧
          bif p1 == i5 then R (Ending.returned (Value.int IntKind.i64 i2)) w3 else Wr IntKind.i64 (i2 + (1 : Int)) fun (i6 : Int) => I0 i6 w3 ∧ I1 i6 w3 < I1 i2 w3
     else R (Ending.returned (Value.int IntKind.i64 (-1 : Int))) w3
theorem vcTryz91 (p0 : Option Addr) (n0 c0 : Nat) (p1 : Int) (w : World) (R : Ending → World → Prop) : SX.vcFn Tryz.prog [(2, ⟨[(8, .int .i64)], [0, 1, 7], []⟩)] Tryz.f91 [.v (.slice p0 n0 c0), .v (.int .i64 p1)] [] w R = VCTryz91 p0 n0 c0 p1 w R := by kernel_rfl
def VCTryz97 (y : Value) (p1 : Option Addr) (w : World) (R : Ending → World → Prop) : Prop :=
SX.Ptr p1 fun (a0 : Addr) =>
 ∃ (q1 : Option Nat),
  w.cell? a0 = some (Value.map q1) ∧
   Runs Tryz.prog (Instr.range (56 : Nat) (Value.map q1)) w fun (v2 : Value) (w3 : World) =>
    ∃ (q4 : Option Addr),
     v2 = Value.pointer q4 ∧
      Keeps w w3 [] ∧
       ∃ (I5 : World → Prop),
        ∃ (I6 : World → Nat),
         I5 w3 ∧
          ∀ (w7 : World),
           I5 w7 →
            Runs Tryz.prog (Instr.next (Value.pointer q4) false (0 : Nat)) w7 fun (v8 : Value) (w9 : World) =>
             v8 = Value.tuple #[Value.bool false] ∧ Keeps w7 w9 [] ∧ R (Ending.returned (Value.tuple #[])) w9 ∨
              ∃ (v10 : Value),
               ∃ (v11 : Value),
                v8 = Value.tuple #[Value.bool true, v10, v11] ∧
                 Keeps w7 w9 [] ∧
                  Runs Tryz.prog (Instr.entry (Value.pointer q4)) w9 fun (v12 : Value) (w13 : World) =>
                   ∃ (v14 : Value),
                    ∃ (v15 : Value),
                     v12 = Value.tuple #[v14, v15] ∧
                      Keeps w9 w13 [] ∧
                       CallsVal Tryz.prog y #[v14] w13 fun (v16 : Value) (w17 : World) =>
                        ∃ (t18 : Bool), v16 = Value.bool t18 ∧ Keeps w13 w17 [] ∧ bif !t18 then R (Ending.returned (Value.tuple #[])) w17 else I5 w17 ∧ I6 w17 < I6 w7
theorem vcTryz97 (y : Value) (p1 : Option Addr) (w : World) (R : Ending → World → Prop) : SX.vcFn Tryz.prog [(1, ⟨[], [0, 5], []⟩)] Tryz.f97 [.v y, .v (.pointer p1)] [] w R = VCTryz97 y p1 w R := by kernel_rfl
def VCTryz93 (y : Value) (p1 : Option Addr) (w : World) (R : Ending → World → Prop) : Prop :=
SX.Ptr p1 fun (a0 : Addr) =>
 ∃ (q1 : Option Nat),
  w.cell? a0 = some (Value.map q1) ∧
   Runs Tryz.prog (Instr.range (56 : Nat) (Value.map q1)) w fun (v2 : Value) (w3 : World) =>
    ∃ (q4 : Option Addr),
     v2 = Value.pointer q4 ∧
      Keeps w w3 [] ∧
       ∃ (I5 : World → Prop),
        ∃ (I6 : World → Nat),
         I5 w3 ∧
          ∀ (w7 : World),
           I5 w7 →
            Runs Tryz.prog (Instr.next (Value.pointer q4) false (0 : Nat)) w7 fun (v8 : Value) (w9 : World) =>
             v8 = Value.tuple #[Value.bool false] ∧ Keeps w7 w9 [] ∧ R (Ending.returned (Value.tuple #[])) w9 ∨
              ∃ (v10 : Value),
               ∃ (v11 : Value),
                v8 = Value.tuple #[Value.bool true, v10, v11] ∧
                 Keeps w7 w9 [] ∧
                  Runs Tryz.prog (Instr.entry (Value.pointer q4)) w9 fun (v12 : Value) (w13 : World) =>
                   ∃ (v14 : Value),
                    ∃ (v15 : Value),
                     v12 = Value.tuple #[v14, v15] ∧
                      Keeps w9 w13 [] ∧
                       CallsVal Tryz.prog y #[v15] w13 fun (v16 : Value) (w17 : World) =>
                        ∃ (t18 : Bool), v16 = Value.bool t18 ∧ Keeps w13 w17 [] ∧ bif !t18 then R (Ending.returned (Value.tuple #[])) w17 else I5 w17 ∧ I6 w17 < I6 w7
theorem vcTryz93 (y : Value) (p1 : Option Addr) (w : World) (R : Ending → World → Prop) : SX.vcFn Tryz.prog [(1, ⟨[], [0, 6], []⟩)] Tryz.f93 [.v y, .v (.pointer p1)] [] w R = VCTryz93 y p1 w R := by kernel_rfl
def VCTryz98 (q : Option Addr) (n c : Nat) (y : Value) (w : World) (R : Ending → World → Prop) : Prop :=
Known (w.alloc (Obj.cells #[Value.slice q n c] (67 : Nat))) [(w.heap.size, [((0 : Nat), Value.slice q n c)])] →
 ∀ (I0 : LoopState → Option Code → Obj),
  (∀ (x1 : LoopState) (q2 : Option Code), (I0 x1 q2).isCells = false) →
   (∀ (s3 : ByteArray) (q4 : Option Addr) (n5 n6 : Nat) (w7 : World) (I8 : Value → World → Prop),
     w7.heap[(w.alloc (Obj.cells #[Value.slice q n c] (67 : Nat))).heap.size + (1 : Nat)]? = some (I0 LoopState.ready none) →
      Known w7 [(w.heap.size, [((0 : Nat), Value.slice q4 n5 n6)])] →
       (w7.heap[(w.alloc (Obj.cells #[Value.slice q n c] (67 : Nat))).heap.size + (1 : Nat)]? = some (I0 LoopState.ready none) ∧
         Runs Tryz.prog
          (Builtin.append_ #[(67 : Nat), (67 : Nat)] (67 : Nat)
           #[Value.slice q4 n5 n6,
            Value.slice (some { block := (w7.putObj ((w.alloc (Obj.cells #[Value.slice q n c] (67 : Nat))).heap.size + (1 : Nat)) (I0 LoopState.busy none)).heap.size, off := (0 : Nat) }) (1 : Nat) (1 : Nat)])
          ((w7.putObj ((w.alloc (Obj.cells #[Value.slice q n c] (67 : Nat))).heap.size + (1 : Nat)) (I0 LoopState.busy none)).alloc (Obj.cells #[Value.string s3] (9 : Nat))) fun (v13 : Value) (w14 : World) =>
          ∃ (q15 : Option Addr),
           ∃ (n16 : Nat),
            ∃ (n17 : Nat),
             v13 = Value.slice q15 n16 n17 ∧
              Keeps ((w7.putObj ((w.alloc (Obj.cells #[Value.slice q n c] (67 : Nat))).heap.size + (1 : Nat)) (I0 LoopState.busy none)).alloc (Obj.cells #[Value.string s3] (9 : Nat))) w14 [w.heap.size] ∧
               (Known (w14.setCell { block := w.heap.size, off := (0 : Nat) } (Value.slice q15 n16 n17)) [(w.heap.size, [((0 : Nat), Value.slice q15 n16 n17)])] →
                (w14.setCell { block := w.heap.size, off := (0 : Nat) } (Value.slice q15 n16 n17)).heap[(w.alloc (Obj.cells #[Value.slice q n c] (67 : Nat))).heap.size + (1 : Nat)]? =
                  some (I0 LoopState.busy none) ∧
                 I8 (Value.bool true)
                  ((w14.setCell { block := w.heap.size, off := (0 : Nat) } (Value.slice q15 n16 n17)).putObj ((w.alloc (Obj.cells #[Value.slice q n c] (67 : Nat))).heap.size + (1 : Nat))
                   (I0 LoopState.ready none)))) →
        CallsVal Tryz.prog (Value.func (Fn.yield ((w.alloc (Obj.cells #[Value.slice q n c] (67 : Nat))).heap.size + (1 : Nat))) #[] #[]) #[Value.string s3] w7 I8) →
    RangeVal Tryz.prog y (Value.func (Fn.yield ((w.alloc (Obj.cells #[Value.slice q n c] (67 : Nat))).heap.size + (1 : Nat))) #[] #[])
     (((w.alloc (Obj.cells #[Value.slice q n c] (67 : Nat))).alloc (Obj.deferred (some []))).alloc (I0 LoopState.ready none)) fun (w20 : World) =>
     ∃ (q21 : Option Addr),
      ∃ (n22 : Nat),
       ∃ (n23 : Nat),
        Known w20 [(w.heap.size, [((0 : Nat), Value.slice q21 n22 n23)])] ∧
         w20.heap[(w.alloc (Obj.cells #[Value.slice q n c] (67 : Nat))).heap.size + (1 : Nat)]? = some (I0 LoopState.ready none) ∧
          (Known (w20.putObj ((w.alloc (Obj.cells #[Value.slice q n c] (67 : Nat))).heap.size + (1 : Nat)) (I0 LoopState.exhausted none)) [(w.heap.size, [((0 : Nat), Value.slice q21 n22 n23)])] →
           (w20.putObj ((w.alloc (Obj.cells #[Value.slice q n c] (67 : Nat))).heap.size + (1 : Nat)) (I0 LoopState.exhausted none)).heap[(w.alloc (Obj.cells #[Value.slice q n c] (67 : Nat))).heap.size]? =
             some (Obj.deferred (some [])) ∧
            R (Ending.returned (Value.slice q21 n22 n23))
             ((w20.putObj ((w.alloc (Obj.cells #[Value.slice q n c] (67 : Nat))).heap.size + (1 : Nat)) (I0 LoopState.exhausted none)).putObj (w.alloc (Obj.cells #[Value.slice q n c] (67 : Nat))).heap.size
              (Obj.deferred none)))
theorem vcTryz98 (q : Option Addr) (n c : Nat) (y : Value) (w : World) (R : Ending → World → Prop) : SX.vcFn Tryz.prog [(3, ⟨[(7, .str)], [], [(0, 0, .slice)]⟩)] Tryz.f98 [.v (.slice q n c), .v y] [] w R = VCTryz98 q n c y w R := by kernel_rfl
def VCTryz92 (q : Option Addr) (n c : Nat) (y : Value) (w : World) (R : Ending → World → Prop) : Prop :=
Known (w.alloc (Obj.cells #[Value.slice q n c] (34 : Nat))) [(w.heap.size, [((0 : Nat), Value.slice q n c)])] →
 ∀ (I0 : LoopState → Option Code → Obj),
  (∀ (x1 : LoopState) (q2 : Option Code), (I0 x1 q2).isCells = false) →
   (∀ (i3 : Int) (q4 : Option Addr) (n5 n6 : Nat) (w7 : World) (I8 : Value → World → Prop),
     w7.heap[(w.alloc (Obj.cells #[Value.slice q n c] (34 : Nat))).heap.size + (1 : Nat)]? = some (I0 LoopState.ready none) →
      Known w7 [(w.heap.size, [((0 : Nat), Value.slice q4 n5 n6)])] →
       (w7.heap[(w.alloc (Obj.cells #[Value.slice q n c] (34 : Nat))).heap.size + (1 : Nat)]? = some (I0 LoopState.ready none) ∧
         Runs Tryz.prog
          (Builtin.append_ #[(34 : Nat), (34 : Nat)] (34 : Nat)
           #[Value.slice q4 n5 n6,
            Value.slice (some { block := (w7.putObj ((w.alloc (Obj.cells #[Value.slice q n c] (34 : Nat))).heap.size + (1 : Nat)) (I0 LoopState.busy none)).heap.size, off := (0 : Nat) }) (1 : Nat) (1 : Nat)])
          ((w7.putObj ((w.alloc (Obj.cells #[Value.slice q n c] (34 : Nat))).heap.size + (1 : Nat)) (I0 LoopState.busy none)).alloc (Obj.cells #[Value.int IntKind.i64 i3] (3 : Nat)))
          fun (v13 : Value) (w14 : World) =>
          ∃ (q15 : Option Addr),
           ∃ (n16 : Nat),
            ∃ (n17 : Nat),
             v13 = Value.slice q15 n16 n17 ∧
              Keeps ((w7.putObj ((w.alloc (Obj.cells #[Value.slice q n c] (34 : Nat))).heap.size + (1 : Nat)) (I0 LoopState.busy none)).alloc (Obj.cells #[Value.int IntKind.i64 i3] (3 : Nat))) w14
                [w.heap.size] ∧
               (Known (w14.setCell { block := w.heap.size, off := (0 : Nat) } (Value.slice q15 n16 n17)) [(w.heap.size, [((0 : Nat), Value.slice q15 n16 n17)])] →
                (w14.setCell { block := w.heap.size, off := (0 : Nat) } (Value.slice q15 n16 n17)).heap[(w.alloc (Obj.cells #[Value.slice q n c] (34 : Nat))).heap.size + (1 : Nat)]? =
                  some (I0 LoopState.busy none) ∧
                 I8 (Value.bool true)
                  ((w14.setCell { block := w.heap.size, off := (0 : Nat) } (Value.slice q15 n16 n17)).putObj ((w.alloc (Obj.cells #[Value.slice q n c] (34 : Nat))).heap.size + (1 : Nat))
                   (I0 LoopState.ready none)))) →
        CallsVal Tryz.prog (Value.func (Fn.yield ((w.alloc (Obj.cells #[Value.slice q n c] (34 : Nat))).heap.size + (1 : Nat))) #[] #[]) #[Value.int IntKind.i64 i3] w7 I8) →
    RangeVal Tryz.prog y (Value.func (Fn.yield ((w.alloc (Obj.cells #[Value.slice q n c] (34 : Nat))).heap.size + (1 : Nat))) #[] #[])
     (((w.alloc (Obj.cells #[Value.slice q n c] (34 : Nat))).alloc (Obj.deferred (some []))).alloc (I0 LoopState.ready none)) fun (w20 : World) =>
     ∃ (q21 : Option Addr),
      ∃ (n22 : Nat),
       ∃ (n23 : Nat),
        Known w20 [(w.heap.size, [((0 : Nat), Value.slice q21 n22 n23)])] ∧
         w20.heap[(w.alloc (Obj.cells #[Value.slice q n c] (34 : Nat))).heap.size + (1 : Nat)]? = some (I0 LoopState.ready none) ∧
          (Known (w20.putObj ((w.alloc (Obj.cells #[Value.slice q n c] (34 : Nat))).heap.size + (1 : Nat)) (I0 LoopState.exhausted none)) [(w.heap.size, [((0 : Nat), Value.slice q21 n22 n23)])] →
           (w20.putObj ((w.alloc (Obj.cells #[Value.slice q n c] (34 : Nat))).heap.size + (1 : Nat)) (I0 LoopState.exhausted none)).heap[(w.alloc (Obj.cells #[Value.slice q n c] (34 : Nat))).heap.size]? =
             some (Obj.deferred (some [])) ∧
            R (Ending.returned (Value.slice q21 n22 n23))
             ((w20.putObj ((w.alloc (Obj.cells #[Value.slice q n c] (34 : Nat))).heap.size + (1 : Nat)) (I0 LoopState.exhausted none)).putObj (w.alloc (Obj.cells #[Value.slice q n c] (34 : Nat))).heap.size
              (Obj.deferred none)))
theorem vcTryz92 (q : Option Addr) (n c : Nat) (y : Value) (w : World) (R : Ending → World → Prop) : SX.vcFn Tryz.prog [(3, ⟨[(7, .int .i64)], [], [(0, 0, .slice)]⟩)] Tryz.f92 [.v (.slice q n c), .v y] [] w R = VCTryz92 q n c y w R := by kernel_rfl
def VCTryz85 (p : Option Nat) (f t : ByteArray) (i : Int) (w : World) (R : Ending → World → Prop) : Prop :=
Runs Tryz.prog (Instr.lookup (56 : Nat) (Value.map p) (Value.string f) true) (w.alloc (Obj.cells #[Value.string f, Value.string t, Value.int IntKind.i64 i] (100 : Nat))) fun (v0 : Value) (w1 : World) =>
 ∃ (i2 : Int),
  ∃ (t3 : Bool),
   v0 = Value.tuple #[Value.int IntKind.i64 i2, Value.bool t3] ∧
    Keeps (w.alloc (Obj.cells #[Value.string f, Value.string t, Value.int IntKind.i64 i] (100 : Nat))) w1 [w.heap.size] ∧
     bif !t3 then
      Runs Tryz.prog (Builtin.delete_ #[(56 : Nat), (9 : Nat)] (0 : Nat) #[Value.map p, Value.string f]) w1 fun (v4 : Value) (w5 : World) =>
       v4 = Value.tuple #[] ∧
        Keeps w1 w5 [w.heap.size] ∧
         bif !t.toList == ({ data := #[] } : ByteArray).toList then
          Runs Tryz.prog (Instr.mapUpdate (56 : Nat) (Value.map p) (Value.string t) (Value.int IntKind.i64 i)) w5 fun (x6 : Unit) (w7 : World) =>
           Keeps w5 w7 [w.heap.size] ∧ (Known w7 [(w.heap.size, [((0 : Nat), Value.string f), ((1 : Nat), Value.string t), ((2 : Nat), Value.int IntKind.i64 i)])] → R (Ending.returned (Value.tuple #[])) w7)
         else Known w5 [(w.heap.size, [((0 : Nat), Value.string f), ((1 : Nat), Value.string t), ((2 : Nat), Value.int IntKind.i64 i)])] → R (Ending.returned (Value.tuple #[])) w5
     else
      Runs Tryz.prog (Builtin.delete_ #[(56 : Nat), (9 : Nat)] (0 : Nat) #[Value.map p, Value.string f]) w1 fun (v8 : Value) (w9 : World) =>
       v8 = Value.tuple #[] ∧
        Keeps w1 w9 [w.heap.size] ∧
         bif !t.toList == ({ data := #[] } : ByteArray).toList then
          Runs Tryz.prog (Instr.mapUpdate (56 : Nat) (Value.map p) (Value.string t) (Value.int IntKind.i64 i2)) w9 fun (x10 : Unit) (w11 : World) =>
           Keeps w9 w11 [w.heap.size] ∧ (Known w11 [(w.heap.size, [((0 : Nat), Value.string f), ((1 : Nat), Value.string t), ((2 : Nat), Value.int IntKind.i64 i)])] → R (Ending.returned (Value.tuple #[])) w11)
         else Known w9 [(w.heap.size, [((0 : Nat), Value.string f), ((1 : Nat), Value.string t), ((2 : Nat), Value.int IntKind.i64 i)])] → R (Ending.returned (Value.tuple #[])) w9
theorem vcTryz85 (p : Option Nat) (f t : ByteArray) (i : Int) (w : World) (R : Ending → World → Prop) : SX.vcFn Tryz.prog [] Tryz.f85 [.v (.map p), .v (.agg #[.string f, .string t, .int .i64 i])] [] w R = VCTryz85 p f t i w R := by kernel_rfl
def VCTryz71 (p : Option Addr) (f t : ByteArray) (i : Int) (w : World) (R : Ending → World → Prop) : Prop :=
SX.Ptr p fun (a0 : Addr) =>
 ∃ (q1 : Option Nat),
  (w.alloc (Obj.cells #[Value.string f, Value.string t, Value.int IntKind.i64 i] (100 : Nat))).cell? (a0.add (0 : Nat)) = some (Value.map q1) ∧
   bif q1.isNone then
    SX.Ptr p fun (a2 : Addr) =>
     (∃ (v3 : Value), ((w.alloc (Obj.cells #[Value.string f, Value.string t, Value.int IntKind.i64 i] (100 : Nat))).alloc (Obj.map #[] (0 : Nat))).cell? ((a2.add (0 : Nat)).add (0 : Nat)) = some v3) ∧
      ((w.alloc (Obj.cells #[Value.string f, Value.string t, Value.int IntKind.i64 i] (100 : Nat))).alloc (Obj.map #[] (0 : Nat))).frozen? ((a2.add (0 : Nat)).add (0 : Nat)) = false ∧
       Apart ((a2.add (0 : Nat)).add (0 : Nat)) w.heap.size [(0 : Nat), (1 : Nat), (2 : Nat)] ∧
        SX.Ptr p fun (a4 : Addr) =>
         ∃ (q5 : Option Nat),
          (((w.alloc (Obj.cells #[Value.string f, Value.string t, Value.int IntKind.i64 i] (100 : Nat))).alloc (Obj.map #[] (0 : Nat))).setCell ((a2.add (0 : Nat)).add (0 : Nat))
                (Value.map (some (w.alloc (Obj.cells #[Value.string f, Value.string t, Value.int IntKind.i64 i] (100 : Nat))).heap.size))).drew.cell?
             (a4.add (0 : Nat)) =
            some (Value.map q5) ∧
           (Known
             (((w.alloc (Obj.cells #[Value.string f, Value.string t, Value.int IntKind.i64 i] (100 : Nat))).alloc (Obj.map #[] (0 : Nat))).setCell ((a2.add (0 : Nat)).add (0 : Nat))
               (Value.map (some (w.alloc (Obj.cells #[Value.string f, Value.string t, Value.int IntKind.i64 i] (100 : Nat))).heap.size))).drew
             [(w.heap.size, [((0 : Nat), Value.string f), ((1 : Nat), Value.string t), ((2 : Nat), Value.int IntKind.i64 i)])] →
            Rets Tryz.prog (85 : Nat) #[Value.map q5, Value.agg #[Value.string f, Value.string t, Value.int IntKind.i64 i]]
             (((w.alloc (Obj.cells #[Value.string f, Value.string t, Value.int IntKind.i64 i] (100 : Nat))).alloc (Obj.map #[] (0 : Nat))).setCell ((a2.add (0 : Nat)).add (0 : Nat))
               (Value.map (some (w.alloc (Obj.cells #[Value.string f, Value.string t, Value.int IntKind.i64 i] (100 : Nat))).heap.size))).drew
             fun (v6 : Value) (w7 : World) =>
             v6 = Value.tuple #[] ∧
              Keeps
                (((w.alloc (Obj.cells #[Value.string f, Value.string t, Value.int IntKind.i64 i] (100 : Nat))).alloc (Obj.map #[] (0 : Nat))).setCell ((a2.add (0 : Nat)).add (0 : Nat))
                  (Value.map (some (w.alloc (Obj.cells #[Value.string f, Value.string t, Value.int IntKind.i64 i] (100 : Nat))).heap.size))).drew
                w7 [w.heap.size] ∧
               SX.Ptr p fun (a8 : Addr) =>
                ∃ (q9 : Option Addr),
                 ∃ (n10 : Nat),
                  ∃ (n11 : Nat),
                   w7.drew.cell? (a8.add (2 : Nat)) = some (Value.slice q9 n10 n11) ∧
                    (w7.drew.alloc (Obj.cells #[Value.string f, Value.string t, Value.int IntKind.i64 i] (100 : Nat))).cell? (a8.add (2 : Nat)) = some (Value.slice q9 n10 n11) ∧
                     Runs Tryz.prog
                      (Builtin.append_ #[(57 : Nat), (57 : Nat)] (57 : Nat) #[Value.slice q9 n10 n11, Value.slice (some { block := w7.drew.heap.size, off := (0 : Nat) }) (1 : Nat) (1 : Nat)])
                      (w7.drew.alloc (Obj.cells #[Value.string f, Value.string t, Value.int IntKind.i64 i] (100 : Nat))) fun (v12 : Value) (w13 : World) =>
                      ∃ (q14 : Option Addr),
                       ∃ (n15 : Nat),
                        ∃ (n16 : Nat),
                         v12 = Value.slice q14 n15 n16 ∧
                          Keeps (w7.drew.alloc (Obj.cells #[Value.string f, Value.string t, Value.int IntKind.i64 i] (100 : Nat))) w13 [w.heap.size] ∧
                           SX.Ptr p fun (a17 : Addr) =>
                            (∃ (v18 : Value), w13.cell? ((a17.add (2 : Nat)).add (0 : Nat)) = some v18) ∧
                             w13.frozen? ((a17.add (2 : Nat)).add (0 : Nat)) = false ∧
                              Apart ((a17.add (2 : Nat)).add (0 : Nat)) w.heap.size [(0 : Nat), (1 : Nat), (2 : Nat)] ∧
                               (Known (w13.setCell ((a17.add (2 : Nat)).add (0 : Nat)) (Value.slice q14 n15 n16))
                                 [(w.heap.size, [((0 : Nat), Value.string f), ((1 : Nat), Value.string t), ((2 : Nat), Value.int IntKind.i64 i)])] →
                                R (Ending.returned (Value.int IntKind.i64 (0 : Int))) (w13.setCell ((a17.add (2 : Nat)).add (0 : Nat)) (Value.slice q14 n15 n16))))
   else
    SX.Ptr p fun (a19 : Addr) =>
     ∃ (q20 : Option Nat),
      (w.alloc (Obj.cells #[Value.string f, Value.string t, Value.int IntKind.i64 i] (100 : Nat))).drew.cell? (a19.add (0 : Nat)) = some (Value.map q20) ∧
       (Known (w.alloc (Obj.cells #[Value.string f, Value.string t, Value.int IntKind.i64 i] (100 : Nat))).drew
         [(w.heap.size, [((0 : Nat), Value.string f), ((1 : Nat), Value.string t), ((2 : Nat), Value.int IntKind.i64 i)])] →
        Rets Tryz.prog (85 : Nat) #[Value.map q20, Value.agg #[Value.string f, Value.string t, Value.int IntKind.i64 i]]
         (w.alloc (Obj.cells #[Value.string f, Value.string t, Value.int IntKind.i64 i] (100 : Nat))).drew fun (v21 : Value) (w22 : World) =>
         v21 = Value.tuple #[] ∧
          Keeps (w.alloc (Obj.cells #[Value.string f, Value.string t, Value.int IntKind.i64 i] (100 : Nat))).drew w22 [w.heap.size] ∧
           SX.Ptr p fun (a23 : Addr) =>
            ∃ (q24 : Option Addr),
             ∃ (n25 : Nat),
              ∃ (n26 : Nat),
               w22.drew.cell? (a23.add (2 : Nat)) = some (Value.slice q24 n25 n26) ∧
                (w22.drew.alloc (Obj.cells #[Value.string f, Value.string t, Value.int IntKind.i64 i] (100 : Nat))).cell? (a23.add (2 : Nat)) = some (Value.slice q24 n25 n26) ∧
                 Runs Tryz.prog (Builtin.append_ #[(57 : Nat), (57 : Nat)] (57 : Nat) #[Value.slice q24 n25 n26, Value.slice (some { block := w22.drew.heap.size, off := (0 : Nat) }) (1 : Nat) (1 : Nat)])
                  (w22.drew.alloc (Obj.cells #[Value.string f, Value.string t, Value.int IntKind.i64 i] (100 : Nat))) fun (v27 : Value) (w28 : World) =>
                  ∃ (q29 : Option Addr),
                   ∃ (n30 : Nat),
                    ∃ (n31 : Nat),
                     v27 = Value.slice q29 n30 n31 ∧
                      Keeps (w22.drew.alloc (Obj.cells #[Value.string f, Value.string t, Value.int IntKind.i64 i] (100 : Nat))) w28 [w.heap.size] ∧
                       SX.Ptr p fun (a32 : Addr) =>
                        (∃ (v33 : Value), w28.cell? ((a32.add (2 : Nat)).add (0 : Nat)) = some v33) ∧
                         w28.frozen? ((a32.add (2 : Nat)).add (0 : Nat)) = false ∧
                          Apart ((a32.add (2 : Nat)).add (0 : Nat)) w.heap.size [(0 : Nat), (1 : Nat), (2 : Nat)] ∧
                           (Known (w28.setCell ((a32.add (2 : Nat)).add (0 : Nat)) (Value.slice q29 n30 n31))
                             [(w.heap.size, [((0 : Nat), Value.string f), ((1 : Nat), Value.string t), ((2 : Nat), Value.int IntKind.i64 i)])] →
                            R (Ending.returned (Value.int IntKind.i64 (0 : Int))) (w28.setCell ((a32.add (2 : Nat)).add (0 : Nat)) (Value.slice q29 n30 n31))))
theorem vcTryz71 (p : Option Addr) (f t : ByteArray) (i : Int) (w : World) (R : Ending → World → Prop) : SX.vcFn Tryz.prog [] Tryz.f71 [.v (.pointer p), .v (.agg #[.string f, .string t, .int .i64 i])] [] w R = VCTryz71 p f t i w R := by kernel_rfl
def VCTryz66 (f t : ByteArray) (i : Int) (p : Option Addr) (w : World) (R : Ending → World → Prop) : Prop :=
bif f.toList == ({ data := #[] } : ByteArray).toList then
 SX.Ptr p fun (a0 : Addr) =>
  ∃ (i1 : Int),
   (w.alloc (Obj.cells #[Value.string f, Value.string t, Value.int IntKind.i64 i] (100 : Nat))).cell? a0 = some (Value.int IntKind.i64 i1) ∧
    (Known (w.alloc (Obj.cells #[Value.string f, Value.string t, Value.int IntKind.i64 i] (100 : Nat)))
      [(w.heap.size, [((0 : Nat), Value.string f), ((1 : Nat), Value.string t), ((2 : Nat), Value.int IntKind.i64 i)])] →
     R (Ending.returned (Value.bool (i == i1))) (w.alloc (Obj.cells #[Value.string f, Value.string t, Value.int IntKind.i64 i] (100 : Nat))))
else
 Known (w.alloc (Obj.cells #[Value.string f, Value.string t, Value.int IntKind.i64 i] (100 : Nat))) [(w.heap.size, [((0 : Nat), Value.string f), ((1 : Nat), Value.string t), ((2 : Nat), Value.int IntKind.i64 i)])] →
  R (Ending.returned (Value.bool false)) (w.alloc (Obj.cells #[Value.string f, Value.string t, Value.int IntKind.i64 i] (100 : Nat)))
theorem vcTryz66 (f t : ByteArray) (i : Int) (p : Option Addr) (w : World) (R : Ending → World → Prop) : SX.vcFn Tryz.prog [] Tryz.f66 [.v (.agg #[.string f, .string t, .int .i64 i]), .v (.pointer p)] [] w R = VCTryz66 f t i p w R := by kernel_rfl
end Go.Proofs.YtlgkcbdpaffigaaGreat

namespace Go.Proofs.YtlgkcbdpaffigaaGreat
open Go Go.SX Go.Proofs
set_option maxRecDepth 100000
set_option linter.unusedVariables false
set_option linter.unusedSimpArgs false
theorem toL (s : ByteArray) : s.toList = strL s := ByteArray.toList_eq s
theorem toL_ba (l : List UInt8) : (ba l).toList = l := by rw [toL, strL_ba]
def named (s : List UInt8) : Bool := decide (1 ≤ s.length ∧ s.length ≤ 100)
theorem c87 (s : List UInt8) (w : World) : Rets Tryz.prog 70 #[.string (ba s)] w fun v w' => v = .bool (named s) ∧ w' = w := by
  refine ent [_] Tryz.func70 ((vcTryz70 _ w _).mpr ?_)
  unfold VCTryz70
  rw [ba_size]
  refine bif_dec (fun h => ⟨_, rfl, ?_, rfl⟩) (fun h => ⟨_, rfl, ?_, rfl⟩)
  · congr 1; unfold named; rw [decide_eq_decide]; omega
  · congr 1; unfold named; symm; rw [decide_eq_false_iff_not]; omega
theorem c44 (s : List UInt8) (w : World) : Rets Tryz.prog 76 #[.string (ba s)] w fun v w' => v = .bool (named s) ∧ w' = w := by
  refine ent [_] Tryz.func76 ((vcTryz76 _ w _).mpr ?_)
  unfold VCTryz76
  rw [ba_size]
  refine bif_dec (fun h => ⟨_, rfl, ?_, rfl⟩) (fun h => ⟨_, rfl, ?_, rfl⟩)
  · congr 1; unfold named; rw [decide_eq_decide]; omega
  · congr 1; unfold named; symm; rw [decide_eq_false_iff_not]; omega
def entC (e : Ent) : List Value := [.string (ba e.1), .int .i64 e.2]
theorem entC_len (e : Ent) : (entC e).length = 2 := rfl
theorem entC_one (e : Ent) : ∀ u ∈ entC e, u.oneCell' = true := fun u hu => by
  simp only [entC, List.mem_cons, List.not_mem_nil, or_false] at hu
  rcases hu with rfl | rfl <;> simp [Value.oneCell']
theorem elem105 : elemOk Tryz.prog 74 2 = true := by kernel_rfl
theorem und80 : Tryz.prog.underlying 41 = some (.slice 74) := Tryz.underlying41
abbrev EAt (w : World) (q : Option Addr) (l : List Ent) : Prop := RowsAt w 2 entC q l
abbrev EIn (w : World) (Q : Nat → Prop) (q : Option Addr) (l : List Ent) : Prop := RwIn w Q 2 entC q l
theorem c49 {w : World} {q : Option Addr} {c : Nat} {l : List Ent} (h : EAt w q l) (hl : l.length ≤ 1000000) (s : List UInt8) : Rets Tryz.prog 77 #[.slice q l.length c, .string (ba s)] w fun v w' => w' = w ∧ ∃ i : Int, v = .int .i64 i ∧ ((i = -1 ∧ has Prod.fst l s = false) ∨ ∃ (j : Nat) (hj : j < l.length), i = j ∧ (l[j]).1 = s) := by
  refine ent [_, _] Tryz.func77 ((vcTryz77 _ _ _ _ w _).mpr ?_)
  unfold VCTryz77
  refine ⟨fun i w' => ∃ j : Nat, i = j ∧ j ≤ l.length ∧ w' = w ∧ ∀ x (hx : x < l.length), x < j → (l[x]).1 ≠ s, fun i _ => (l.length - i).toNat, ⟨0, rfl, by omega, rfl, fun x hx h => by omega⟩, ?_⟩
  rintro i w3 ⟨j, rfl, hj, rfl, hn⟩
  refine bif_dec (fun h1 => ?_) (fun h1 => ⟨_, rfl, rfl, _, rfl, .inl ⟨rfl, ?_⟩⟩)
  · have hjl : j < l.length := by omega
    refine ⟨⟨by omega, by omega⟩, h.get hjl fun a _ ha => ⟨_, ha 0 _ rfl, ?_⟩⟩
    rw [toL_ba, toL_ba]
    refine bif_b (fun e => ⟨_, rfl, rfl, _, rfl, .inr ⟨j, hjl, rfl, by simpa using e⟩⟩) (fun e => wr64 (by omega) ⟨⟨j + 1, by omega, by omega, rfl, fun x hx hxj => ?_⟩, by first | omega | (dsimp only; omega)⟩)
    by_cases ee : x = j
    · subst ee; simpa using e
    · exact hn x hx (by omega)
  · cases hh : has Prod.fst l s with
    | false => rfl
    | true =>
      obtain ⟨b, hb, e⟩ := has_iff.1 hh
      obtain ⟨x, hx, rfl⟩ := List.getElem_of_mem hb
      exact absurd e (hn x hx (by omega))
theorem c94 {w : World} {q : Option Addr} {c : Nat} {l : List Ent} (h : EAt w q l) (hl : l.length ≤ 1000000) (id : Int) : Rets Tryz.prog 89 #[.slice q l.length c, .int .i64 id] w fun v w' => w' = w ∧ v = .bool (idIn l id) := by
  refine ent [_, _] Tryz.func89 ((vcTryz89 _ _ _ _ w _).mpr ?_)
  unfold VCTryz89
  refine ⟨fun i w' => ∃ j : Nat, i = j ∧ j ≤ l.length ∧ w' = w ∧ ∀ x (hx : x < l.length), x < j → (l[x]).2 ≠ id, fun i _ => (l.length - i).toNat, ⟨0, rfl, by omega, rfl, fun x hx h => by omega⟩, ?_⟩
  rintro i w3 ⟨j, rfl, hj, rfl, hn⟩
  refine bif_dec (fun h1 => ?_) (fun h1 => ⟨_, rfl, rfl, ?_⟩)
  · have hjl : j < l.length := by omega
    refine ⟨⟨by omega, by omega⟩, h.get hjl fun a _ ha => ⟨_, ha 1 _ rfl, bif_eq (fun e => ⟨_, rfl, rfl, ?_⟩) (fun e => wr64 (by omega) ⟨⟨j + 1, by omega, by omega, rfl, fun x hx hxj => ?_⟩, by first | omega | (dsimp only; omega)⟩)⟩⟩
    · rw [idIn_iff.2 ⟨_, List.getElem_mem hjl, e⟩]
    · by_cases ee : x = j
      · subst ee; exact e
      · exact hn x hx (by omega)
  · congr 1
    symm
    cases hh : idIn l id with
    | false => rfl
    | true =>
      obtain ⟨b, hb, e⟩ := idIn_iff.1 hh
      obtain ⟨x, hx, rfl⟩ := List.getElem_of_mem hb
      exact absurd e (hn x hx (by omega))
/-- A list's rows in blocks that are new. -/
theorem push_ent {w : World} {own : Nat → Prop} {v : Value} {l : List Ent} {n : Nat} (b : Ent) {K : Value → World → Prop} (hrow : OwnRow w own 74 2 v n (flatC entC l)) (hn : n = l.length) (hb : l.length + 1 ≤ 137438953472)
    (hK : ∀ q' c' w', OwnRow w' (fun i => own i ∨ fresh w i) 74 2 (.slice q' (l.length + 1) c') (l ++ [b]).length (flatC entC (l ++ [b])) → Kp own w w' → Kp own (w.alloc (.cells #[.string (ba b.1), .int .i64 b.2] 74)) w' → K (.slice q' (l.length + 1) c') w') :
    Runs Tryz.prog (Builtin.append_ #[41, 41] 41 #[v, .slice (some ⟨w.heap.size, 0, none⟩) 1 1]) (w.alloc (.cells #[.string (ba b.1), .int .i64 b.2] 74)) K := push_row b entC_len entC_one (by omega) und80 elem105 rfl hrow hn hb hK
theorem c104 {w : World} {q : Option Addr} {c : Nat} {l : List Ent} (h : EAt w q l) (hl : l.length ≤ 1000000) (s : List UInt8) : Rets Tryz.prog 82 #[.slice q l.length c, .string (ba s)] w fun v w' =>
    ∃ q' c', v = .slice q' (withoutK Prod.fst l s).length c' ∧ EIn w' (fun i => w.heap.size ≤ i) q' (withoutK Prod.fst l s) ∧ Kp none_ w w' := by
  refine ent [_, _] Tryz.func82 ((vcTryz82 _ _ _ _ w _).mpr ?_)
  unfold VCTryz82
  refine ⟨fun i q n c w' => ∃ (j : Nat) (own : Nat → Prop), i = j ∧ j ≤ l.length ∧ n = (withoutK Prod.fst (l.take j) s).length ∧ (∀ i, own i → w.heap.size ≤ i) ∧ OwnRow w' own 74 2 (.slice q n c) (withoutK Prod.fst (l.take j) s).length (flatC entC (withoutK Prod.fst (l.take j) s)) ∧ Kp (fun i => w.heap.size ≤ i) w w', fun i _ _ _ _ => (l.length - i).toNat, ⟨0, fun _ => False, rfl, by omega, by simp [withoutK], fun i h => h.elim, by simpa [withoutK, flatC] using OwnRow.nil _ _ _ _, Kp.refl _ _⟩, ?_⟩
  rintro i q3 n3 c3 w3 ⟨j, own, rfl, hj, rfl, ho, r3, k3⟩
  have k3n := k3.narrow (Nat.le_refl _)
  refine bif_dec (fun h1 => ?_) (fun h1 => ⟨_, rfl, q3, c3, ?_, ?_, k3n⟩)
  · have hjl : j < l.length := by omega
    have et : l.take (j + 1) = l.take j ++ [l[j]] := List.take_succ_eq_append_getElem hjl
    refine ⟨⟨by omega, by omega⟩, (h.kp0 k3n).get hjl fun a _ ha => ⟨_, ha 0 _ rfl, ?_⟩⟩
    rw [toL_ba, toL_ba]
    refine bif_not (fun e => ?_) (fun e => wr64 (by omega) ⟨⟨j + 1, own, by omega, by omega, ?_, ho, ?_, k3⟩, by first | omega | (dsimp only; omega)⟩)
    · have en : withoutK Prod.fst (l.take (j + 1)) s = withoutK Prod.fst (l.take j) s ++ [l[j]] := by
        rw [et]
        have : (!(l[j].1 == s)) = true := by rw [e]; rfl
        simp only [withoutK, List.filter_append, List.filter_cons, this, if_true, List.filter_nil]
      refine ⟨⟨by omega, by omega⟩, (h.kp0 k3n).get hjl fun a _ ha => ⟨_, _, ⟨ha 0 _ rfl, ha 1 _ rfl, trivial⟩, ?_⟩⟩
      have hle : (withoutK Prod.fst (l.take j) s).length ≤ l.length := Nat.le_trans (List.length_filter_le _ _) (by rw [List.length_take]; omega)
      refine push_ent l[j] r3 rfl (by omega) fun q4 c4 w4 r4 k4 k4' => ⟨_, _, _, rfl, k4'.keeps0, wr64 (by omega) ⟨⟨j + 1, fun i => own i ∨ fresh w3 i, by omega, by omega, by rw [en]; simp, ?_, ?_, ?_⟩, by first | omega | (dsimp only; omega)⟩⟩
      · rintro i (hi | hi)
        · exact ho i hi
        · exact Nat.le_trans k3.size hi
      · rw [en]; exact r4
      · exact k3.trans (k4.mono fun i _ hi => ho i hi)
    · rw [et]
      have : (!(l[j].1 == s)) = false := by rw [e]; rfl
      simp only [withoutK, List.filter_append, List.filter_cons, this, List.filter_nil]
      simp
    · rw [et]
      have : (!(l[j].1 == s)) = false := by rw [e]; rfl
      have e2 : withoutK Prod.fst (l.take j ++ [l[j]]) s = withoutK Prod.fst (l.take j) s := by
        simp only [withoutK, List.filter_append, List.filter_cons, this, List.filter_nil]
        simp
      rw [e2]; exact r3
  · have : j = l.length := by omega
    subst this
    rw [List.take_length]
  · have : j = l.length := by omega
    subst this
    rw [List.take_length] at r3
    exact rwIn_of entC_len (by omega) r3 ho
theorem ins_take (x : Ent) (L : List Ent) {j : Nat} (h : j < L.length) : insGo x (L.take (j + 1)) = insStep x (insGo x (L.take j)) L[j] := by
  unfold insGo
  rw [List.take_succ_eq_append_getElem h, List.foldl_append]
  rfl
theorem ins_len (x : Ent) : ∀ (L : List Ent) (st : List Ent × Bool), (L.foldl (insStep x) st).1.length ≤ st.1.length + L.length * 2
  | [], st => by simp
  | b :: r, st => by
    rw [List.foldl_cons]
    have := ins_len x r (insStep x st b)
    have h2 : (insStep x st b).1.length ≤ st.1.length + 2 := by
      unfold insStep
      split <;> simp
    simp only [List.length_cons]
    omega
theorem c103 {w : World} {q : Option Addr} {c : Nat} {l : List Ent} (h : EAt w q l) (hl : l.length ≤ 1000000) (s : List UInt8) (id : Int) : Rets Tryz.prog 79 #[.slice q l.length c, .string (ba s), .int .i64 id] w fun v w' =>
    ∃ q' c', v = .slice q' (with5 l s id).length c' ∧ EIn w' (fun i => w.heap.size ≤ i) q' (with5 l s id) ∧ Kp none_ w w' := by
  refine ent [_, _, _] Tryz.func79 ((vcTryz79 _ _ _ _ _ w _).mpr ?_)
  unfold VCTryz79
  refine (c104 h hl s).mono ?_
  rintro v w1 ⟨q2, c2, rfl, ⟨h2, _⟩, k1⟩
  have hL : (withoutK Prod.fst l s).length ≤ 1000000 := Nat.le_trans (List.length_filter_le _ _) hl
  have hw : with5 l s id = if (insGo (s, id) (withoutK Prod.fst l s)).2 = true then (insGo (s, id) (withoutK Prod.fst l s)).1 else (insGo (s, id) (withoutK Prod.fst l s)).1 ++ [(s, id)] := rfl
  rw [hw]
  generalize withoutK Prod.fst l s = L at *
  have hz := k1.size
  refine ⟨_, _, _, rfl, k1.keeps0, fun i q n c t w' => ∃ (j : Nat) (own : Nat → Prop), i = j ∧ j ≤ L.length ∧ n = (insGo (s, id) (L.take j)).1.length ∧ t = (insGo (s, id) (L.take j)).2 ∧ (∀ i, own i → w1.heap.size ≤ i) ∧ OwnRow w' own 74 2 (.slice q n c) (insGo (s, id) (L.take j)).1.length (flatC entC (insGo (s, id) (L.take j)).1) ∧ Kp (fun i => w1.heap.size ≤ i) w1 w', fun i _ _ _ _ _ => (L.length - i).toNat,
    ⟨0, fun _ => False, rfl, by omega, rfl, rfl, fun i h => h.elim, OwnRow.nil _ _ _ _, Kp.refl _ _⟩, ?_⟩
  rintro i q3 n3 c3 t3 w3 ⟨j, own, rfl, hj, rfl, rfl, ho, r3, k3⟩
  have k3n := k3.narrow (Nat.le_refl _)
  have K3 : Kp none_ w w3 := k1.trans k3n
  have lenj : (insGo (s, id) (L.take j)).1.length ≤ 2000000 := by
    have := ins_len (s, id) (L.take j) ([], false)
    simp only [List.length_nil, List.length_take] at this
    unfold insGo
    omega
  refine bif_dec (fun h1 => ?_) (fun h1 => ?_)
  · have hjl : j < L.length := by omega
    have et := ins_take (s, id) L hjl
    -- one more, of the list
    have one : ∀ {w5 : World} {own5 : Nat → Prop} {q5 : Option Addr} {c5 : Nat} (A : List Ent), A.length ≤ 2000001 → Kp (fun i => w1.heap.size ≤ i) w1 w5 → (∀ i, own5 i → w1.heap.size ≤ i) → OwnRow w5 own5 74 2 (.slice q5 A.length c5) A.length (flatC entC A) → insGo (s, id) (L.take (j + 1)) = (A ++ [L[j]], (insGo (s, id) (L.take (j + 1))).2) →
        Runs Tryz.prog (Builtin.append_ #[41, 41] 41 #[.slice q5 A.length c5, .slice (some ⟨w5.heap.size, 0, none⟩) 1 1]) (w5.alloc (.cells #[.string (ba L[j].1), .int .i64 L[j].2] 74)) fun v w6 => ∃ q n c, v = .slice q n c ∧ Keeps (w5.alloc (.cells #[.string (ba L[j].1), .int .i64 L[j].2] 74)) w6 [] ∧ Wr .i64 (j + 1) fun i => (∃ (j : Nat) (own : Nat → Prop), i = j ∧ j ≤ L.length ∧ n = (insGo (s, id) (L.take j)).1.length ∧ (insGo (s, id) (L.take ((i - 1).toNat + 1))).2 = (insGo (s, id) (L.take j)).2 ∧ (∀ i, own i → w1.heap.size ≤ i) ∧ OwnRow w6 own 74 2 (.slice q n c) (insGo (s, id) (L.take j)).1.length (flatC entC (insGo (s, id) (L.take j)).1) ∧ Kp (fun i => w1.heap.size ≤ i) w1 w6) ∧ (L.length - i).toNat < (L.length - (j : Int)).toNat := by
      intro w5 own5 q5 c5 A hA k5 ho5 r5 e5
      refine push_ent L[j] r5 rfl (by omega) fun q4 c4 w4 r4 k4 k4' => ⟨_, _, _, rfl, k4'.keeps0, wr64 (by omega) ⟨⟨j + 1, fun i => own5 i ∨ fresh w5 i, by omega, by omega, by rw [e5]; simp, by rw [show ((j : Int) + 1 - 1).toNat + 1 = j + 1 by omega], ?_, by rw [e5]; exact (by simpa using r4), k5.trans (k4.mono fun i _ hi => ho5 i hi)⟩, by first | omega | (dsimp only; omega)⟩⟩
      rintro i (hi | hi)
      · exact ho5 i hi
      · exact Nat.le_trans k5.size hi
    have fin : ∀ {w6 : World} {q6 : Option Addr} {n6 c6 : Nat} {i : Int} {t : Bool}, t = (insGo (s, id) (L.take (j + 1))).2 → i = (j : Int) + 1 → (∃ (j : Nat) (own : Nat → Prop), i = j ∧ j ≤ L.length ∧ n6 = (insGo (s, id) (L.take j)).1.length ∧ (insGo (s, id) (L.take ((i - 1).toNat + 1))).2 = (insGo (s, id) (L.take j)).2 ∧ (∀ i, own i → w1.heap.size ≤ i) ∧ OwnRow w6 own 74 2 (.slice q6 n6 c6) (insGo (s, id) (L.take j)).1.length (flatC entC (insGo (s, id) (L.take j)).1) ∧ Kp (fun i => w1.heap.size ≤ i) w1 w6) →
        ∃ (j : Nat) (own : Nat → Prop), i = j ∧ j ≤ L.length ∧ n6 = (insGo (s, id) (L.take j)).1.length ∧ t = (insGo (s, id) (L.take j)).2 ∧ (∀ i, own i → w1.heap.size ≤ i) ∧ OwnRow w6 own 74 2 (.slice q6 n6 c6) (insGo (s, id) (L.take j)).1.length (flatC entC (insGo (s, id) (L.take j)).1) ∧ Kp (fun i => w1.heap.size ≤ i) w1 w6 := by
      rintro w6 q6 n6 c6 i t rfl rfl ⟨j', own', e1, e2, e3, _, e5⟩
      have : j' = j + 1 := by omega
      subst this
      exact ⟨j + 1, own', e1, e2, e3, rfl, e5⟩
    have rows : ∀ {w5 : World}, Kp (fun i => w1.heap.size ≤ i) w1 w5 → EAt w5 q2 L := fun k => h2.kp0 (k.narrow (Nat.le_refl _))
    have eI : insStep (s, id) (insGo (s, id) (L.take j)) L[j] = ((if (insGo (s, id) (L.take j)).2 = false ∧ Op.bytesLess s L[j].1 = true then (insGo (s, id) (L.take j)).1 ++ [(s, id)] else (insGo (s, id) (L.take j)).1) ++ [L[j]], (insGo (s, id) (L.take j)).2 || Op.bytesLess s L[j].1) := rfl
    refine bif_not (fun ht => ?_) (fun ht => ?_)
    · refine ⟨⟨by omega, by omega⟩, (rows k3).get hjl fun a _ ha => ⟨_, ha 0 _ rfl, ?_⟩⟩
      rw [toL_ba, toL_ba]
      refine bif_b (fun hb => ?_) (fun hb => ?_)
      · have en : insGo (s, id) (L.take (j + 1)) = ((insGo (s, id) (L.take j)).1 ++ [(s, id)] ++ [L[j]], true) := by rw [et, eI, if_pos ⟨ht, hb⟩, hb, Bool.or_true]
        refine push_ent (s, id) r3 rfl (by omega) fun q4 c4 w4 r4 k4 k4' => ⟨_, _, _, rfl, k4'.keeps0, ⟨by omega, by omega⟩, ?_⟩
        have k34 := k3.trans (k4.mono fun i _ hi => ho i hi)
        refine (rows k34).get hjl fun a _ ha => ⟨_, _, ⟨ha 0 _ rfl, ha 1 _ rfl, trivial⟩, ?_⟩
        have := one ((insGo (s, id) (L.take j)).1 ++ [(s, id)]) (by simp; omega) k34 (own5 := fun i => own i ∨ fresh w3 i) (fun i (hi : own i ∨ fresh w3 i) => hi.elim (ho i) fun hf => Nat.le_trans k3.size hf) (by simpa using r4) (by rw [en])
        simp only [List.length_append, List.length_cons, List.length_nil, Nat.zero_add] at this
        obtain ⟨v, w6, hr, q, n, c, e1, e2, e3⟩ := this
        exact ⟨v, w6, hr, q, n, c, e1, e2, by
          unfold Wr at e3 ⊢
          rw [wrap64 (by omega)] at e3 ⊢
          exact ⟨fin (by rw [en]) rfl e3.1, e3.2⟩⟩
      · have en : insGo (s, id) (L.take (j + 1)) = ((insGo (s, id) (L.take j)).1 ++ [L[j]], false) := by rw [et, eI, if_neg (by rw [hb]; simp), hb, ht]; rfl
        refine ⟨⟨by omega, by omega⟩, (rows k3).get hjl fun a _ ha => ⟨_, _, ⟨ha 0 _ rfl, ha 1 _ rfl, trivial⟩, ?_⟩⟩
        obtain ⟨v, w6, hr, q, n, c, e1, e2, e3⟩ := one (insGo (s, id) (L.take j)).1 (by omega) k3 ho r3 (by rw [en])
        exact ⟨v, w6, hr, q, n, c, e1, e2, by
          unfold Wr at e3 ⊢
          rw [wrap64 (by omega)] at e3 ⊢
          exact ⟨fin (by rw [en]; exact ht) rfl e3.1, e3.2⟩⟩
    · have en : insGo (s, id) (L.take (j + 1)) = ((insGo (s, id) (L.take j)).1 ++ [L[j]], true) := by rw [et, eI, if_neg (by rw [ht]; simp), ht]; rfl
      refine ⟨⟨by omega, by omega⟩, (rows k3).get hjl fun a _ ha => ⟨_, _, ⟨ha 0 _ rfl, ha 1 _ rfl, trivial⟩, ?_⟩⟩
      obtain ⟨v, w6, hr, q, n, c, e1, e2, e3⟩ := one (insGo (s, id) (L.take j)).1 (by omega) k3 ho r3 (by rw [en])
      exact ⟨v, w6, hr, q, n, c, e1, e2, by
        unfold Wr at e3 ⊢
        rw [wrap64 (by omega)] at e3 ⊢
        exact ⟨fin (by rw [en]; exact ht) rfl e3.1, e3.2⟩⟩
  · have ej : j = L.length := by omega
    subst ej
    rw [List.take_length] at *
    refine bif_not (fun ht => ?_) (fun ht => ?_)
    · rw [if_neg (by rw [ht]; decide)]
      refine push_ent (s, id) r3 rfl (by omega) fun q4 c4 w4 r4 k4 k4' => ⟨_, _, _, rfl, k4'.keeps0, _, rfl, q4, c4, by simp, rwIn_of entC_len (by omega) r4 (fun i (hi : own i ∨ fresh w3 i) => hi.elim (fun h => Nat.le_trans hz (ho i h)) fun hf => Nat.le_trans K3.size hf), K3.then k4 fun i hi hh => by have := ho i hh; omega⟩
    · rw [if_pos ht]
      exact ⟨_, rfl, q3, c3, rfl, rwIn_of entC_len (by omega) r3 fun i hi => Nat.le_trans hz (ho i hi), K3⟩
end Go.Proofs.YtlgkcbdpaffigaaGreat

namespace Go.Proofs.YtlgkcbdpaffigaaGreat
open Go Go.SX Go.Proofs
set_option maxRecDepth 100000
set_option linter.unusedVariables false
set_option linter.unusedSimpArgs false
/-- A list that was, and where it lies. -/
structure Px where
  l : List Ent
  q : Option Addr
  c : Nat
def pxC (p : Px) : List Value := [.slice p.q p.l.length p.c]
theorem pxC_len (p : Px) : (pxC p).length = 1 := rfl
theorem pxC_one (p : Px) : ∀ u ∈ pxC p, u.oneCell' = true := fun u hu => by
  simp only [pxC, List.mem_cons, List.not_mem_nil, or_false] at hu
  subst hu
  simp [Value.oneCell']
theorem elem80 : elemOk Tryz.prog 41 1 = true := by kernel_rfl
theorem und81 : Tryz.prog.underlying 42 = some (.slice 41) := Tryz.underlying42
theorem push_px {w : World} {own : Nat → Prop} {v : Value} {l : List Px} {n : Nat} (b : Px) {K : Value → World → Prop} (hrow : OwnRow w own 41 1 v n (flatC pxC l)) (hn : n = l.length) (hb : l.length + 1 ≤ 137438953472)
    (hK : ∀ q' c' w', OwnRow w' (fun i => own i ∨ fresh w i) 41 1 (.slice q' (l.length + 1) c') (l ++ [b]).length (flatC pxC (l ++ [b])) → Kp own w w' → Kp own (w.alloc (.cells #[.slice b.q b.l.length b.c] 41)) w' → K (.slice q' (l.length + 1) c') w') :
    Runs Tryz.prog (Builtin.append_ #[42, 42] 42 #[v, .slice (some ⟨w.heap.size, 0, none⟩) 1 1]) (w.alloc (.cells #[.slice b.q b.l.length b.c] 41)) K := push_row b pxC_len pxC_one (by omega) und81 elem80 rfl hrow hn hb hK
/-- The document's directory: at (b, o); H what it was, N what it is; O its blocks. -/
def RD (w : World) (O : Nat → Prop) (b o : Nat) (H : List (List Ent)) (N : List Ent) : Prop :=
  ∃ (qn : Option Addr) (cn : Nat) (vp : Value) (own : Nat → Prop) (ps : List Px), Cs w b o [.slice qn N.length cn, vp] ∧ O b ∧ (∀ i, own i → O i ∧ i ≠ b) ∧ EIn w (fun i => O i ∧ i ≠ b ∧ ¬ own i) qn N ∧ ps.map Px.l = H ∧ OwnRow w own 41 1 vp ps.length (flatC pxC ps) ∧ ∀ p ∈ ps, EIn w (fun i => O i ∧ i ≠ b ∧ ¬ own i) p.q p.l
theorem RD.kp {S O O' : Nat → Prop} {w w' : World} {b o : Nat} {H : List (List Ent)} {N : List Ent} (h : RD w O b o H N) (k : Kp S w w') (hs : ∀ i, i < w.heap.size → O i → ¬ S i ∧ O' i) : RD w' O' b o H N := by
  obtain ⟨qn, cn, vp, own, ps, h1, h2, h3, h4, h5, h6, h7⟩ := h
  have hb := h1.lt (by simp)
  have hq : ∀ i, i < w.heap.size → (O i ∧ i ≠ b ∧ ¬ own i) → ¬ S i ∧ (O' i ∧ i ≠ b ∧ ¬ (own i ∧ i < w.heap.size)) := fun i hl hi => ⟨(hs i hl hi.1).1, (hs i hl hi.1).2, hi.2.1, fun hh => hi.2.2 hh.1⟩
  refine ⟨qn, cn, vp, fun i => own i ∧ i < w.heap.size, ps, h1.kp k (hs b hb h2).1, (hs b hb h2).2, fun i hi => ⟨(hs i hi.2 (h3 i hi.1).1).2, (h3 i hi.1).2⟩, h4.kp entC_len (by omega) k hq, h5, (h6.mono (own' := fun i => own i ∧ i < w.heap.size) fun i hi hl => ⟨hi, hl⟩).kp k fun g n cap _ hg => (hs g hg.2 (h3 g hg.1).1).1, fun p hp => (h7 p hp).kp entC_len (by omega) k hq⟩
theorem RD.mono {O O' : Nat → Prop} {w : World} {b o : Nat} {H : List (List Ent)} {N : List Ent} (h : RD w O b o H N) (hs : ∀ i, i < w.heap.size → O i → O' i) : RD w O' b o H N := h.kp (Kp.refl none_ w) fun i hl hi => ⟨id, hs i hl hi⟩
theorem RD.kp0 {O : Nat → Prop} {w w' : World} {b o : Nat} {H : List (List Ent)} {N : List Ent} (h : RD w O b o H N) (k : Kp none_ w w') : RD w' O b o H N := h.kp k fun i _ hi => ⟨id, hi⟩
/-- What it holds, read. -/
theorem RD.now {O : Nat → Prop} {w : World} {b o : Nat} {H : List (List Ent)} {N : List Ent} (h : RD w O b o H N) : ∃ q c, w.cell? ⟨b, o, none⟩ = some (.slice q N.length c) ∧ EIn w (fun i => O i ∧ i ≠ b) q N := by
  obtain ⟨qn, cn, vp, own, ps, h1, h2, h3, h4, _⟩ := h
  exact ⟨qn, cn, h1.get 0 rfl, h4.kp entC_len (by omega) (Kp.refl none_ w) fun i _ hi => ⟨id, hi.1, hi.2.1⟩⟩
theorem RD.past {O : Nat → Prop} {w : World} {b o : Nat} {H : List (List Ent)} {N : List Ent} (h : RD w O b o H N) : ∃ (q : Option Addr) (c : Nat) (ps : List Px), ps.map Px.l = H ∧ w.cell? ⟨b, o + 1, none⟩ = some (.slice q ps.length c) ∧ RowsAt w 1 pxC q ps ∧ ∀ p ∈ ps, EAt w p.q p.l := by
  obtain ⟨qn, cn, vp, own, ps, h1, h2, h3, h4, h5, h6, h7⟩ := h
  obtain ⟨q, c, rfl⟩ := h6.slice
  exact ⟨q, c, ps, h5, h1.get 1 rfl, rows_of pxC_len (by omega) h6, fun p hp => (h7 p hp).1⟩
theorem RD.lt {O : Nat → Prop} {w : World} {b o : Nat} {H : List (List Ent)} {N : List Ent} (h : RD w O b o H N) : b < w.heap.size ∧ O b := by
  obtain ⟨qn, cn, vp, own, ps, h1, h2, _⟩ := h
  exact ⟨h1.lt (by simp), h2⟩
/-- It is new. -/
theorem RD.zero {w : World} {b o : Nat} (h : Cs w b o [.slice none 0 0, .slice none 0 0]) (O : Nat → Prop) (hO : O b) : RD w O b o [] [] :=
  ⟨none, 0, .slice none 0 0, fun _ => False, [], h, hO, fun _ h => h.elim, RwIn.nil _ _ _, rfl, OwnRow.nil _ _ _ _, fun p hp => by cases hp⟩
theorem ad3 (b o k : Nat) : (⟨b, o, none⟩ : Addr).add k = ⟨b, o + k, none⟩ := ad_add b o k
theorem set_size (w : World) (x : Addr) (v : Value) : (w.setCell x v).heap.size = w.heap.size := by simp [World.setCell]
/-- Both cells set anew. -/
theorem RD.lay {S O O' own : Nat → Prop} {w w' : World} {b o : Nat} {vs : List Value} {qn : Option Addr} {cn : Nat} {vp : Value} {N : List Ent} {ps : List Px} (h : Cs w' b o vs) (hv : vs.length = 2) (hO : O' b) (ho : ∀ i, own i → O' i ∧ i ≠ b) (hn : EIn w' (fun i => O' i ∧ i ≠ b ∧ ¬ own i) qn N) (hr : OwnRow w' own 41 1 vp ps.length (flatC pxC ps)) (hp : ∀ p ∈ ps, EIn w' (fun i => O' i ∧ i ≠ b ∧ ¬ own i) p.q p.l) {w2 : World} (k : Kp (one_ b) w' w2) (hc : Cs w2 b o [.slice qn N.length cn, vp]) : RD w2 O' b o (ps.map Px.l) N := by
  have hq : ∀ i, i < w'.heap.size → (O' i ∧ i ≠ b ∧ ¬ own i) → ¬ one_ b i ∧ (O' i ∧ i ≠ b ∧ ¬ own i) := fun i _ hi => ⟨hi.2.1, hi⟩
  exact ⟨qn, cn, vp, own, ps, hc, hO, ho, hn.kp entC_len (by omega) k hq, rfl, hr.kp k fun g n cap _ hg e => (ho g hg).2 e, fun p hm => (hp p hm).kp entC_len (by omega) k hq⟩
theorem c102 {w : World} {O F : Nat → Prop} {b o : Nat} {H : List (List Ent)} {N : List Ent} (h : RD w O b o H N) (hH : H.length ≤ 1000000) {q : Option Addr} {c : Nat} {l : List Ent} (hl : EIn w F q l) (hF : ∀ i, F i → ¬ O i) : Rets Tryz.prog 78 #[.pointer (some ⟨b, o, none⟩), .slice q l.length c] w fun v w' =>
    v = .int .i64 0 ∧ RD w' (fun i => O i ∨ F i ∨ w.heap.size ≤ i) b o (H ++ [N]) l ∧ Kp O w w' ∧ Nb b o 2 w w' := by
  refine ent [_, _] Tryz.func78 ((vcTryz78 _ _ _ _ w _).mpr ?_)
  unfold VCTryz78
  obtain ⟨qn, cn, vp, own, ps, h1, h2, h3, h4, rfl, h6, h7⟩ := h
  have hb := h1.lt (by simp)
  obtain ⟨qp, cp, rfl⟩ := h6.slice
  have hps : ps.length ≤ 1000000 := by simpa using hH
  have kd : Kp none_ w w.drew := Kp.drew1
  have e0 := (h1.kp0 kd).get 0 rfl
  have e1 := (h1.kp0 kd).get 1 rfl
  have ka : Kp none_ w.drew (w.drew.alloc (.cells #[.slice qn N.length cn] 41)) := (Kp.refl none_ _).alloc1 _
  simp only [ptr_some, ad3, Nat.add_zero]
  refine ⟨_, _, _, e1, _, _, _, e0, ka.cell0 e1, ?_⟩
  have r0 : OwnRow w.drew (fun i => own i ∧ i < w.heap.size) 41 1 (.slice qp ps.length cp) ps.length (flatC pxC ps) := (h6.mono fun i hi hl => ⟨hi, hl⟩).kp kd fun _ _ _ _ _ => id
  refine push_px ⟨N, qn, cn⟩ r0 rfl (by omega) fun q2 c2 w2 r2 k2 k2' => ⟨_, _, _, rfl, k2'.keeps0, ?_⟩
  have K2 : Kp (fun i => own i ∧ i < w.heap.size) w w2 := kd.wide.trans k2
  have nb : ¬ (own b ∧ b < w.heap.size) := fun hh => (h3 b hh.1).2 rfl
  have c2' := h1.kp K2 nb
  obtain ⟨g1, g2⟩ := c2'.slot 1 (by simp)
  refine ⟨g1, g2, ?_⟩
  have c3 := c2'.set 1 (.slice q2 (ps.length + 1) c2)
  obtain ⟨g3, g4⟩ := c3.slot 0 (by simp)
  refine ⟨g3, g4, _, rfl, rfl, ?_⟩
  have c4 := c3.set 0 (.slice q l.length c)
  have kk : Kp (one_ b) w2 ((w2.setCell ⟨b, o + 1, none⟩ (.slice q2 (ps.length + 1) c2)).setCell ⟨b, o, none⟩ (.slice q l.length c)) := (kp_set _ _ _ _).trans (kp_set _ _ _ _)
  have hz := K2.size
  have quiet : ∀ i, i < w.heap.size → (O i ∧ i ≠ b ∧ ¬ own i) → ¬ (own i ∧ i < w.heap.size) ∧ ((O i ∨ F i ∨ w.heap.size ≤ i) ∧ i ≠ b ∧ ¬ ((own i ∧ i < w.heap.size) ∨ fresh w.drew i)) := fun i hl hi => ⟨fun hh => hi.2.2 hh.1, .inl hi.1, hi.2.1, fun hh => hh.elim (fun h => hi.2.2 h.1) fun hf => by
    have hf : w.heap.size ≤ i := hf
    omega⟩
  have final := RD.lay (S := none_) (O := O) (O' := fun i => O i ∨ F i ∨ w.heap.size ≤ i) (own := fun i => (own i ∧ i < w.heap.size) ∨ fresh w.drew i) (w := w) c2' rfl (.inl h2) (fun i hi => ?_) (qn := q) (cn := c) (vp := .slice q2 (ps.length + 1) c2) (N := l) (ps := ps ++ [⟨N, qn, cn⟩]) ?_ (by simpa using r2) (fun p hp => ?_) kk (by simpa using c4)
  · refine ⟨by simpa using final, (K2.mono fun i _ hi => (h3 i hi.1).1).trans (kk.mono fun i _ hi => by have hi : i = b := hi; rw [hi]; exact h2), ?_⟩
    exact (Nb.of_kp K2 hb nb).trans ((Nb.set w2 (i := 1) (by omega) _).trans (Nb.set _ (i := 0) (by omega) _))
  · rcases hi with hi | hi
    · exact ⟨.inl (h3 i hi.1).1, (h3 i hi.1).2⟩
    · have hi : w.heap.size ≤ i := hi
      exact ⟨.inr (.inr hi), by omega⟩
  · refine hl.kp entC_len (by omega) K2 fun i hil hi => ⟨fun hh => hF i hi (h3 i hh.1).1, .inr (.inl hi), fun e => hF i hi (by rw [e]; exact h2), fun hh => hh.elim (fun h => hF i hi (h3 i h.1).1) fun hf => ?_⟩
    have hf : w.heap.size ≤ i := hf
    omega
  · rcases List.mem_append.1 hp with hp | hp
    · exact (h7 p hp).kp entC_len (by omega) K2 quiet
    · rw [List.mem_singleton] at hp
      subst hp
      exact h4.kp entC_len (by omega) K2 quiet
end Go.Proofs.YtlgkcbdpaffigaaGreat

namespace Go.Proofs.YtlgkcbdpaffigaaGreat
open Go Go.SX Go.Proofs
set_option maxRecDepth 100000
set_option linter.unusedVariables false
set_option linter.unusedSimpArgs false
def createE (l : List Ent) (a : List UInt8) : Int := if named a = false then 6 else if has Prod.fst l a = true then 16 else if 16 ≤ l.length then 14 else 0
def renameE (l : List Ent) (a b : List UInt8) : Int := if named b = false then 6 else if has Prod.fst l a = false then 7 else 0
def removeE (l : List Ent) (a : List UInt8) : Int := if has Prod.fst l a = false then 7 else 0
abbrev ptA (b o : Nat) : Value := .pointer (some ⟨b, o, none⟩)
/-- What a call leaves behind. -/
def RStep (w : World) (O : Nat → Prop) (b o : Nat) (H : List (List Ent)) (N : List Ent) (w' : World) (E : Int) (N' : List Ent) : Prop :=
  RD w' (fun i => O i ∨ w.heap.size ≤ i) b o (if E = 0 then H ++ [N] else H) (if E = 0 then N' else N) ∧ Kp O w w' ∧ Nb b o 2 w w'
theorem RStep.no {w w' : World} {O : Nat → Prop} {b o : Nat} {H : List (List Ent)} {N N' : List Ent} {E : Int} (h : RD w O b o H N) (hE : E ≠ 0) (k : Kp none_ w w') : RStep w O b o H N w' E N' := by
  unfold RStep
  rw [if_neg hE, if_neg hE]
  exact ⟨(h.kp0 k).mono fun i _ hi => .inl hi, k.wide, Nb.of_kp k h.lt.1 id⟩
theorem RStep.yes {w w1 w' : World} {O F : Nat → Prop} {b o : Nat} {H : List (List Ent)} {N N' : List Ent} (h : RD w O b o H N) (k : Kp none_ w w1) (hF : ∀ i, F i → w.heap.size ≤ i) (r : RD w' (fun i => O i ∨ F i ∨ w1.heap.size ≤ i) b o (H ++ [N]) N') (k' : Kp O w1 w') (nb : Nb b o 2 w1 w') : RStep w O b o H N w' 0 N' := by
  unfold RStep
  rw [if_pos rfl, if_pos rfl]
  have hz := k.size
  exact ⟨r.mono fun i _ hi => hi.imp id fun hh => hh.elim (hF i) fun h => by omega, k.wide.trans k', (Nb.of_kp k h.lt.1 id).trans nb⟩
theorem c78 {w : World} {O : Nat → Prop} {b o : Nat} {H : List (List Ent)} {N : List Ent} (h : RD w O b o H N) (hO : ∀ i, O i → i < w.heap.size) (hH : H.length ≤ 1000000) (hN : N.length ≤ 1000000) (a : List UInt8) (id : Int) : Rets Tryz.prog 46 #[ptA b o, .string (ba a), .int .i64 id] w fun v w' =>
    v = .int .i64 (createE N a) ∧ RStep w O b o H N w' (createE N a) (with5 N a id) := by
  refine ent [_, _, _] Tryz.func46 ((vcTryz46 _ _ _ w _).mpr ?_)
  unfold VCTryz46
  refine (c44 a w).mono ?_
  rintro v wx ⟨rfl, e⟩
  obtain rfl := e.symm
  have k00 : Kp none_ w w := Kp.refl _ _
  obtain ⟨q, c, e0, r0, _⟩ := h.now
  simp only [ptr_some, ad3, Nat.add_zero]
  refine ⟨_, rfl, k00.keeps0, bif_not (fun hn => ?_) (fun hn => ⟨_, _, _, e0, (c49 r0 hN a).mono ?_⟩)⟩
  · have : createE N a = 6 := by unfold createE; rw [if_pos hn]
    rw [this]
    exact ⟨_, rfl, rfl, .no h (by decide) k00⟩
  · rintro v wx ⟨e, i, rfl, hi⟩
    obtain rfl := e.symm
    refine ⟨_, rfl, k00.keeps0, bif_dec (fun hge => ?_) (fun hge => ?_)⟩
    · have hh : has Prod.fst N a = true := by
        rcases hi with ⟨rfl, _⟩ | ⟨j, hj, rfl, e⟩
        · omega
        · exact has_iff.2 ⟨_, List.getElem_mem hj, e⟩
      have : createE N a = 16 := by unfold createE; rw [if_neg (by rw [hn]; decide), if_pos hh]
      rw [this]
      exact ⟨_, rfl, rfl, .no h (by decide) k00⟩
    · have hh : has Prod.fst N a = false := by
        rcases hi with ⟨_, hh⟩ | ⟨j, hj, rfl, e⟩
        · exact hh
        · omega
      refine ⟨_, _, _, e0, bif_dec (fun hl => ?_) (fun hl => ?_)⟩
      · have : createE N a = 14 := by unfold createE; rw [if_neg (by rw [hn]; decide), if_neg (by rw [hh]; decide), if_pos (by omega)]
        rw [this]
        exact ⟨_, rfl, rfl, .no h (by decide) k00⟩
      · have : createE N a = 0 := by unfold createE; rw [if_neg (by rw [hn]; decide), if_neg (by rw [hh]; decide), if_neg (by omega)]
        rw [this]
        refine ⟨_, _, _, e0, (c103 r0 hN a id).mono ?_⟩
        rintro v w1 ⟨q1, c1, rfl, r1, k1⟩
        refine ⟨_, _, _, rfl, k1.keeps0, (c102 (h.kp0 k1) hH r1 fun i hi hh => by have := hO i hh; omega).mono ?_⟩
        rintro v w2 ⟨rfl, r2, k2, n2⟩
        exact ⟨_, rfl, Kp.keeps0 k2, _, rfl, rfl, .yes h k1 (fun i hi => hi) r2 k2 n2⟩
theorem c80 {w : World} {O : Nat → Prop} {b o : Nat} {H : List (List Ent)} {N : List Ent} (h : RD w O b o H N) (hO : ∀ i, O i → i < w.heap.size) (hH : H.length ≤ 1000000) (hN : N.length ≤ 1000000) (a : List UInt8) : Rets Tryz.prog 56 #[ptA b o, .string (ba a)] w fun v w' =>
    v = .int .i64 (removeE N a) ∧ RStep w O b o H N w' (removeE N a) (withoutK Prod.fst N a) := by
  refine ent [_, _] Tryz.func56 ((vcTryz56 _ _ w _).mpr ?_)
  unfold VCTryz56
  have k00 : Kp none_ w w := Kp.refl _ _
  obtain ⟨q, c, e0, r0, _⟩ := h.now
  simp only [ptr_some, ad3, Nat.add_zero]
  refine ⟨_, _, _, e0, (c49 r0 hN a).mono ?_⟩
  rintro v wx ⟨e, i, rfl, hi⟩
  obtain rfl := e.symm
  refine ⟨_, rfl, k00.keeps0, bif_dec (fun hlt => ?_) (fun hge => ?_)⟩
  · have hh : has Prod.fst N a = false := by
      rcases hi with ⟨_, hh⟩ | ⟨j, hj, rfl, e⟩
      · exact hh
      · omega
    have : removeE N a = 7 := by unfold removeE; rw [if_pos hh]
    rw [this]
    exact ⟨_, rfl, rfl, .no h (by decide) k00⟩
  · have hh : has Prod.fst N a = true := by
      rcases hi with ⟨rfl, _⟩ | ⟨j, hj, rfl, e⟩
      · omega
      · exact has_iff.2 ⟨_, List.getElem_mem hj, e⟩
    have : removeE N a = 0 := by unfold removeE; rw [if_neg (by rw [hh]; decide)]
    rw [this]
    refine ⟨_, _, _, e0, (c104 r0 hN a).mono ?_⟩
    rintro v w1 ⟨q1, c1, rfl, r1, k1⟩
    refine ⟨_, _, _, rfl, k1.keeps0, (c102 (h.kp0 k1) hH r1 fun i hi hh => by have := hO i hh; omega).mono ?_⟩
    rintro v w2 ⟨rfl, r2, k2, n2⟩
    exact ⟨_, rfl, Kp.keeps0 k2, _, rfl, rfl, .yes h k1 (fun i hi => hi) r2 k2 n2⟩
theorem c79 {w : World} {O : Nat → Prop} {b o : Nat} {H : List (List Ent)} {N : List Ent} (h : RD w O b o H N) (hO : ∀ i, O i → i < w.heap.size) (hH : H.length ≤ 1000000) (hN : N.length ≤ 1000000) (hk : NK N) (a t : List UInt8) : Rets Tryz.prog 54 #[ptA b o, .string (ba a), .string (ba t)] w fun v w' =>
    v = .int .i64 (renameE N a t) ∧ RStep w O b o H N w' (renameE N a t) (with5 (withoutK Prod.fst N a) t ((lookE N a).getD 0)) := by
  refine ent [_, _, _] Tryz.func54 ((vcTryz54 _ _ _ w _).mpr ?_)
  unfold VCTryz54
  refine (c44 t w).mono ?_
  rintro v wx ⟨rfl, e⟩
  obtain rfl := e.symm
  have k00 : Kp none_ w w := Kp.refl _ _
  have kd : Kp none_ w w.drew := Kp.drew1
  obtain ⟨q, c, e0, r0, _⟩ := h.now
  simp only [ptr_some, ad3, Nat.add_zero]
  refine ⟨_, rfl, k00.keeps0, bif_not (fun hn => ?_) (fun hn => ⟨_, _, _, e0, (c49 r0 hN a).mono ?_⟩)⟩
  · have : renameE N a t = 6 := by unfold renameE; rw [if_pos hn]
    rw [this]
    exact ⟨_, rfl, rfl, .no h (by decide) k00⟩
  · rintro v wx ⟨e, i, rfl, hi⟩
    obtain rfl := e.symm
    refine ⟨_, rfl, k00.keeps0, bif_dec (fun hlt => ?_) (fun hge => ?_)⟩
    · have hh : has Prod.fst N a = false := by
        rcases hi with ⟨_, hh⟩ | ⟨j, hj, rfl, e⟩
        · exact hh
        · omega
      have : renameE N a t = 7 := by unfold renameE; rw [if_neg (by rw [hn]; decide), if_pos hh]
      rw [this]
      exact ⟨_, rfl, rfl, .no h (by decide) k00⟩
    · obtain ⟨j, hj, rfl, ej⟩ : ∃ (j : Nat) (hj : j < N.length), i = j ∧ (N[j]).1 = a := by
        rcases hi with ⟨rfl, _⟩ | hi
        · omega
        · exact hi
      have hh : has Prod.fst N a = true := has_iff.2 ⟨_, List.getElem_mem hj, ej⟩
      have : renameE N a t = 0 := by unfold renameE; rw [if_neg (by rw [hn]; decide), if_neg (by rw [hh]; decide)]
      rw [this]
      have el : lookE N a = some N[j].2 := (lookE_nk hk).2 (by rw [← ej]; exact List.getElem_mem hj)
      rw [el]
      have e0d : w.drew.cell? ⟨b, o, none⟩ = some (.slice q N.length c) := e0
      refine ⟨_, _, _, e0d, _, _, _, e0d, ⟨by omega, by omega⟩, (r0.kp0 kd).get hj fun x hx hc => ⟨_, hc 1 _ rfl, (c104 (r0.kp0 kd) hN a).mono ?_⟩⟩
      rintro v w1 ⟨q1, c1, rfl, r1, k1⟩
      have k1' : Kp none_ w w1 := Kp.of_drew k1
      have hz : w.heap.size ≤ w1.heap.size := k1'.size
      have hl1 : (withoutK Prod.fst N a).length ≤ 1000000 := Nat.le_trans (List.length_filter_le _ _) hN
      refine ⟨_, _, _, rfl, k1.keeps0, k1.cell0 (hc 1 _ rfl), k1.cell0 e0d, (c103 r1.1 hl1 t N[j].2).mono ?_⟩
      rintro v w2 ⟨q2, c2, rfl, r2, k2⟩
      refine ⟨_, _, _, rfl, k2.keeps0, (c102 ((h.kp0 k1').kp0 k2) hH r2 fun i hi hh => by have := hO i hh; omega).mono ?_⟩
      rintro v w3 ⟨rfl, r3, k3, n3⟩
      exact ⟨_, rfl, Kp.keeps0 k3, _, rfl, rfl, .yes h (k1'.trans k2) (fun i hi => by omega) r3 k3 n3⟩
/-- So many changes, and no more. -/
def crashN (H : List (List Ent)) (N : List Ent) (n : Int) : List Ent := (H[n.toNat]?).getD N
theorem c81 {w : World} {O : Nat → Prop} {b o : Nat} {H : List (List Ent)} {N : List Ent} (h : RD w O b o H N) (n : Int) : Rets Tryz.prog 60 #[ptA b o, .int .i64 n] w fun v w' =>
    v = .tuple #[] ∧ RD w' O b o [] (crashN H N n) ∧ Kp O w w' ∧ Nb b o 2 w w' := by
  refine ent [_, _] Tryz.func60 ((vcTryz60 _ _ w _).mpr ?_)
  unfold VCTryz60
  obtain ⟨q1, c1, ps0, e10, e11, e12, e13⟩ := h.past
  obtain ⟨qn, cn, vp, own, ps, h1, h2, h3, h4, rfl, h6, h7⟩ := h
  have hb := h1.lt (by simp)
  obtain ⟨qp, cp, rfl⟩ := h6.slice
  simp only [ptr_some, ad3, Nat.add_zero]
  have e1 := h1.get 1 rfl
  obtain ⟨g1, g2⟩ := h1.slot 1 (by simp)
  have g0 := h1.slot 0 (by simp)
  obtain ⟨g3, g4⟩ := g0
  have drop : ∀ {w2 : World} {q : Option Addr} {c : Nat} {L : List Ent}, Kp (one_ b) w w2 → Cs w2 b o [.slice q L.length c, .slice none 0 0] → EIn w (fun i => O i ∧ i ≠ b ∧ ¬ own i) q L → RD w2 O b o [] L := fun {w2 q c L} k hc he => ⟨q, c, .slice none 0 0, fun _ => False, [], hc, h2, fun _ h => h.elim, he.kp entC_len (by omega) k fun i _ hi => ⟨hi.2.1, hi.1, hi.2.1, id⟩, rfl, OwnRow.nil _ _ _ _, fun p hp => by cases hp⟩
  have only : ∃ v, Ending.returned (.tuple #[]) = Ending.returned v ∧ v = .tuple #[] ∧ RD (w.setCell ⟨b, o + 1, none⟩ (.slice none 0 0)) O b o [] N ∧ Kp O w (w.setCell ⟨b, o + 1, none⟩ (.slice none 0 0)) ∧ Nb b o 2 w (w.setCell ⟨b, o + 1, none⟩ (.slice none 0 0)) :=
    ⟨_, rfl, rfl, drop (kp_set _ _ _ _) (by simpa using h1.set 1 (.slice none 0 0)) h4, (kp_set _ _ _ _).mono fun i _ hi => by have hi : i = b := hi; rw [hi]; exact h2, Nb.set w (i := 1) (by omega) _⟩
  have both : ∀ (j : Nat) (hj : j < ps.length), ∃ q c, (RowsAt w 1 pxC qp ps) ∧ (pxC ps[j] = [.slice q ps[j].l.length c]) ∧ (∃ v, Ending.returned (.tuple #[]) = Ending.returned v ∧ v = .tuple #[] ∧ RD ((w.setCell ⟨b, o, none⟩ (.slice q ps[j].l.length c)).setCell ⟨b, o + 1, none⟩ (.slice none 0 0)) O b o [] ps[j].l ∧ Kp O w ((w.setCell ⟨b, o, none⟩ (.slice q ps[j].l.length c)).setCell ⟨b, o + 1, none⟩ (.slice none 0 0)) ∧ Nb b o 2 w ((w.setCell ⟨b, o, none⟩ (.slice q ps[j].l.length c)).setCell ⟨b, o + 1, none⟩ (.slice none 0 0))) := fun j hj => by
    have kk : Kp (one_ b) w ((w.setCell ⟨b, o, none⟩ (.slice ps[j].q ps[j].l.length ps[j].c)).setCell ⟨b, o + 1, none⟩ (.slice none 0 0)) := (kp_set _ _ _ _).trans (kp_set _ _ _ _)
    have cc := (h1.set 0 (.slice ps[j].q ps[j].l.length ps[j].c)).set 1 (.slice none 0 0)
    refine ⟨ps[j].q, ps[j].c, rows_of pxC_len (by omega) h6, rfl, _, rfl, rfl, drop kk (by simpa using cc) (h7 _ (List.getElem_mem hj)), kk.mono fun i _ hi => by have hi : i = b := hi; rw [hi]; exact h2, ?_⟩
    exact (Nb.set w (i := 0) (by omega) _).trans (Nb.set _ (i := 1) (by omega) _)
  have g5 : ∀ u, (∃ v, (w.setCell ⟨b, o, none⟩ u).cell? ⟨b, o + 1, none⟩ = some v) ∧ (w.setCell ⟨b, o, none⟩ u).frozen? ⟨b, o + 1, none⟩ = false := fun u => (h1.set 0 u).slot 1 (by simp)
  have key : ∀ (j : Nat), (List.map Px.l ps)[j]? = (ps[j]?).map Px.l := fun j => List.getElem?_map
  refine bif_dec (fun hn => ?_) (fun hn => ?_)
  · have en : n.toNat = 0 := by omega
    unfold crashN
    rw [en, key]
    refine ⟨_, _, _, e1, bif_dec (fun hl => ?_) (fun hl => ?_)⟩
    · have hj : 0 < ps.length := by omega
      obtain ⟨q, c, hr, hx, hfin⟩ := both 0 hj
      rw [List.getElem?_eq_getElem hj]
      refine ⟨_, _, _, e1, ⟨by omega, by omega⟩, ?_⟩
      obtain ⟨a, ea, hc⟩ := hr 0 hj
      subst ea
      rw [ptr_some]
      have hcc := hc 0 _ (by rw [hx]; rfl)
      simp only [Nat.zero_mul, cell_add0] at hcc
      refine ⟨_, _, _, by rw [cell_add0]; exact hcc, g3, g4, (g5 _).1, (g5 _).2, hfin⟩
    · have : ps = [] := List.eq_nil_of_length_eq_zero (by omega)
      subst this
      exact ⟨g1, g2, only⟩
  · unfold crashN
    rw [key]
    refine ⟨_, _, _, e1, bif_dec (fun hl => ?_) (fun hl => ?_)⟩
    · have hj : n.toNat < ps.length := by omega
      obtain ⟨q, c, hr, hx, hfin⟩ := both n.toNat hj
      rw [List.getElem?_eq_getElem hj]
      refine ⟨_, _, _, e1, ⟨by omega, by omega⟩, ?_⟩
      obtain ⟨a, ea, hc⟩ := hr n.toNat hj
      subst ea
      rw [ptr_some]
      have hcc := hc 0 _ (by rw [hx]; rfl)
      rw [cell_add0] at hcc
      refine ⟨_, _, _, hcc, g3, g4, (g5 _).1, (g5 _).2, hfin⟩
    · rw [List.getElem?_eq_none (by omega)]
      exact ⟨g1, g2, only⟩
theorem c50 {w : World} {O : Nat → Prop} {b o : Nat} {H : List (List Ent)} {N : List Ent} (h : RD w O b o H N) (hH : H.length ≤ 1000000) (hl : ∀ l ∈ H, l.length ≤ 1000000) (hN : N.length ≤ 1000000) (id : Int) : Rets Tryz.prog 62 #[ptA b o, .int .i64 id] w fun v w' => w' = w ∧ v = .bool ((H ++ [N]).any fun l => idIn l id) := by
  refine ent [_, _] Tryz.func62 ((vcTryz62 _ _ w _).mpr ?_)
  unfold VCTryz62
  obtain ⟨qp, cp, ps, rfl, e1, r1, r2⟩ := h.past
  obtain ⟨qn, cn, e0, r0, _⟩ := h.now
  simp only [ptr_some, ad3, Nat.add_zero]
  have hps : ps.length ≤ 1000000 := by simpa using hH
  refine ⟨fun i w' => ∃ j : Nat, i = j ∧ j ≤ ps.length ∧ w' = w ∧ ∀ x (hx : x < ps.length), x < j → idIn (ps[x]).l id = false, fun i _ => (ps.length - i).toNat, ⟨0, rfl, by omega, rfl, fun x hx h => by omega⟩, ?_⟩
  rintro i w3 ⟨j, rfl, hj, rfl, hn⟩
  refine ⟨_, _, _, e1, bif_dec (fun h1 => ?_) (fun h1 => ⟨_, _, _, e0, (c94 r0 hN id).mono ?_⟩)⟩
  · have hjl : j < ps.length := by omega
    refine ⟨_, _, _, e1, ⟨by omega, by omega⟩, r1.get hjl fun a _ hc => ⟨_, _, _, by have := hc 0 _ rfl; rwa [cell_add0] at this, (c94 (r2 _ (List.getElem_mem hjl)) (hl _ (List.mem_map_of_mem (List.getElem_mem hjl))) id).mono ?_⟩⟩
    rintro v wx ⟨e, rfl⟩
    obtain rfl := e.symm
    refine ⟨_, rfl, (Kp.refl none_ _).keeps0, bif_b (fun ht => ⟨_, rfl, rfl, ?_⟩) (fun ht => wr64 (by omega) ⟨⟨j + 1, by omega, by omega, rfl, fun x hx hxj => ?_⟩, by first | omega | (dsimp only; omega)⟩)⟩
    · congr 1
      symm
      rw [List.any_eq_true]
      exact ⟨_, List.mem_append_left _ (List.mem_map_of_mem (List.getElem_mem hjl)), ht⟩
    · by_cases ee : x = j
      · subst ee; exact ht
      · exact hn x hx (by omega)
  · rintro v wx ⟨e, rfl⟩
    obtain rfl := e.symm
    refine ⟨_, rfl, (Kp.refl none_ _).keeps0, _, rfl, rfl, ?_⟩
    congr 1
    rw [List.any_append]
    have : ((List.map Px.l ps).any fun l => idIn l id) = false := by
      rw [List.any_eq_false]
      intro l hm
      obtain ⟨p, hp, rfl⟩ := List.mem_map.1 hm
      obtain ⟨x, hx, rfl⟩ := List.getElem_of_mem hp
      rw [hn x hx (by omega)]
      decide
    rw [this]
    simp
end Go.Proofs.YtlgkcbdpaffigaaGreat

namespace Go.Proofs.YtlgkcbdpaffigaaGreat
open Go Go.SX Go.Proofs
set_option maxRecDepth 100000
set_option linter.unusedVariables false
set_option linter.unusedSimpArgs false
theorem look_without (l : List Ent) (s t : List UInt8) : lookE (withoutK Prod.fst l s) t = if t = s then none else lookE l t := by
  induction l with
  | nil => unfold withoutK lookE; simp
  | cons b r ih =>
    unfold withoutK lookE at ih ⊢
    by_cases hb : b.1 = s
    · rw [List.filter_cons, if_neg (by simp [hb])]
      rw [ih]
      by_cases ht : t = s
      · rw [if_pos ht, if_pos ht]
      · rw [if_neg ht, if_neg ht, List.find?_cons]
        have : (b.1 == t) = false := by rw [hb]; simp; exact fun h => ht h.symm
        rw [this]
    · rw [List.filter_cons, if_pos (by simp [hb]), List.find?_cons, List.find?_cons]
      by_cases ht : b.1 = t
      · have : (b.1 == t) = true := by simp [ht]
        rw [this]
        rw [if_neg (by rw [← ht]; exact hb)]
      · have : (b.1 == t) = false := by simp [ht]
        rw [this]
        exact ih
theorem look_with {l : List Ent} (h : Asc Prod.fst l) {s : List UInt8} (hn : has Prod.fst l s = false) (i : Int) (t : List UInt8) : lookE (withE l s i) t = if t = s then some i else lookE l t := by
  have ha : Asc Prod.fst (withE l s i) := asc_with h rfl
  by_cases ht : t = s
  · rw [if_pos ht, ht]
    exact (lookE_mem ha).2 ((mem_with h hn i _).2 (.inl rfl))
  · rw [if_neg ht]
    cases e : lookE l t with
    | some j => exact (lookE_mem ha).2 ((mem_with h hn i _).2 (.inr ((lookE_mem h).1 e)))
    | none =>
      cases e' : lookE (withE l s i) t with
      | none => rfl
      | some j =>
        rcases (mem_with h hn i _).1 ((lookE_mem ha).1 e') with hh | hh
        · exact absurd (congrArg Prod.fst hh) ht
        · rw [(lookE_mem h).2 hh] at e; cases e
def chC (c : Chg) : List Value := [.string (ba c.fr), .string (ba c.tr), .int .i64 c.id]
def chV (c : Chg) : Value := .agg #[.string (ba c.fr), .string (ba c.tr), .int .i64 c.id]
theorem chC_len (c : Chg) : (chC c).length = 3 := rfl
theorem chC_one (c : Chg) : ∀ u ∈ chC c, u.oneCell' = true := fun u hu => by
  simp only [chC, List.mem_cons, List.not_mem_nil, or_false] at hu
  rcases hu with rfl | rfl | rfl <;> simp [Value.oneCell']
theorem elem135 : elemOk Tryz.prog 100 3 = true := by kernel_rfl
theorem und77 : Tryz.prog.underlying 57 = some (.slice 100) := Tryz.underlying57
theorem und76 : Tryz.prog.underlying 56 = some (.map 9 3) := Tryz.underlying56
theorem u9s : Tryz.prog.underlying 9 = some .string := Tryz.underlying9
theorem z3 (w : World) : (zeroValue 3).run Tryz.prog w = .ok (.int .i64 0) w := Tryz.zeroValue3 w
theorem push_ch {w : World} {own : Nat → Prop} {v : Value} {l : List Chg} {n : Nat} (b : Chg) {K : Value → World → Prop} (hrow : OwnRow w own 100 3 v n (flatC chC l)) (hn : n = l.length) (hb : l.length + 1 ≤ 137438953472)
    (hK : ∀ q' c' w', OwnRow w' (fun i => own i ∨ fresh w i) 100 3 (.slice q' (l.length + 1) c') (l ++ [b]).length (flatC chC (l ++ [b])) → Kp own w w' → Kp own (w.alloc (.cells #[.string (ba b.fr), .string (ba b.tr), .int .i64 b.id] 100)) w' → K (.slice q' (l.length + 1) c') w') :
    Runs Tryz.prog (Builtin.append_ #[57, 57] 57 #[v, .slice (some ⟨w.heap.size, 0, none⟩) 1 1]) (w.alloc (.cells #[.string (ba b.fr), .string (ba b.tr), .int .i64 b.id] 100)) K := push_row b chC_len chC_one (by omega) und77 elem135 rfl hrow hn hb hK
/-- A change is done. -/
theorem c86 {w : World} {r : Nat} {l : List Ent} (h : MapE w r l) (ha : Asc Prod.fst l) (c : Chg) : Rets Tryz.prog 85 #[.map (some r), chV c] w fun v w' => v = .tuple #[] ∧ MapE w' r (doL l c) ∧ Kp (one_ r) w w' := by
  refine ent [_, _] Tryz.func85 ((vcTryz85 _ _ _ _ w _).mpr ?_)
  unfold VCTryz85
  have ka : Kp none_ w (w.alloc (.cells #[.string (ba c.fr), .string (ba c.tr), .int .i64 c.id] 100)) := (Kp.refl none_ _).alloc1 _
  have za : w.heap.size < (w.alloc (.cells #[.string (ba c.fr), .string (ba c.tr), .int .i64 c.id] 100)).heap.size := by rw [alloc_size]; omega
  generalize w.alloc (.cells #[.string (ba c.fr), .string (ba c.tr), .int .i64 c.id] 100) = W at *
  have hW := h.kp ka id
  have hr := h.lt
  have a1 := asc_without ha c.fr
  have a2 := asc_without a1 c.tr
  have n2 := has_without (l := withoutK Prod.fst l c.fr) c.tr
  have e0 : ({ data := #[] } : ByteArray).toList = [] := toL_ba []
  have keep : ∀ {w5 w6 : World}, Kp (one_ r) W w5 → Kp (one_ r) w5 w6 → Keeps w5 w6 [w.heap.size] := fun k k' => k'.keeps fun b hb => by
    rw [List.mem_singleton] at hb
    subst hb
    exact ⟨Nat.lt_of_lt_of_le za k.size, fun e => by have e : w.heap.size = r := e; omega⟩
  have tail : ∀ {P : Prop} {Q : World → Prop} {w5 : World} (i : Int), (lookE l c.fr).getD c.id = i → MapE w5 r (withoutK Prod.fst l c.fr) → Kp (one_ r) W w5 →
      bif !((ba c.tr).toList == ({ data := #[] } : ByteArray).toList) then Runs Tryz.prog (Instr.mapUpdate 56 (.map (some r)) (.string (ba c.tr)) (.int .i64 i)) w5 fun x w6 => Keeps w5 w6 [w.heap.size] ∧ (Q w6 → ∃ v, Ending.returned (.tuple #[]) = Ending.returned v ∧ v = .tuple #[] ∧ MapE w6 r (doL l c) ∧ Kp (one_ r) w w6)
      else (P → ∃ v, Ending.returned (.tuple #[]) = Ending.returned v ∧ v = .tuple #[] ∧ MapE w5 r (doL l c) ∧ Kp (one_ r) w w5) := fun {P Q w5} i hi hm k => by
    rw [toL_ba, e0]
    refine bif_not (fun ht => ?_) (fun ht => fun _ => ⟨_, rfl, rfl, ?_, ka.wide.trans k⟩)
    · have ht : c.tr ≠ [] := by simpa using ht
      have ed : doL l c = withE (withoutK Prod.fst (withoutK Prod.fst l c.fr) c.tr) c.tr i := by unfold doL; rw [if_neg ht, hi]
      refine hm.put und76 u9s (ba c.tr) i (l' := doL l c) ?_ (fun t hne => ?_) fun w6 hm6 k6 => ⟨keep k k6, fun _ => ⟨_, rfl, rfl, hm6, (ka.wide.trans k).trans k6⟩⟩
      · rw [ed, look_with a2 n2, if_pos (strL_ba _)]
      · rw [strL_ba] at hne
        rw [ed, look_with a2 n2, if_neg hne, look_without _ c.tr, if_neg hne]
    · have ht : c.tr = [] := by simpa using ht
      have ed : doL l c = withoutK Prod.fst l c.fr := by unfold doL; rw [if_pos ht]
      rw [ed]
      exact hm
  refine MapO.look (m := some r) (l := l) hW und76 u9s (z3 _) (ba c.fr) true ?_
  rw [if_pos rfl, strL_ba]
  refine ⟨_, _, rfl, keep (Kp.refl _ _) (Kp.refl _ _), bif_not (fun hs => ?_) (fun hs => ?_)⟩
  · refine hW.drop und76 u9s (ba c.fr) (l' := withoutK Prod.fst l c.fr) (by rw [strL_ba, look_without, if_pos rfl]) (fun t hne => by rw [strL_ba] at hne; rw [look_without, if_neg hne]) 0 fun w5 hm5 k5 => ⟨rfl, keep (Kp.refl _ _) k5, tail c.id ?_ hm5 k5⟩
    cases hl : lookE l c.fr with
    | none => rfl
    | some x => rw [hl] at hs; cases hs
  · refine hW.drop und76 u9s (ba c.fr) (l' := withoutK Prod.fst l c.fr) (by rw [strL_ba, look_without, if_pos rfl]) (fun t hne => by rw [strL_ba] at hne; rw [look_without, if_neg hne]) 0 fun w5 hm5 k5 => ⟨rfl, keep (Kp.refl _ _) k5, tail _ ?_ hm5 k5⟩
    cases hl : lookE l c.fr with
    | none => rw [hl] at hs; cases hs
    | some x => rfl
/-- The program's directory: at (b, o); S what is safe, ws what waits; O its blocks. -/
def DR (w : World) (O : Nat → Prop) (b o : Nat) (S : List Ent) (ws : List Chg) : Prop :=
  ∃ (m0 m1 : Option Nat) (vw : Value) (own : Nat → Prop), Cs w b o [.map m0, .map m1, vw] ∧ O b ∧ MapO w m0 (lastE S ws) ∧ MapO w m1 S ∧ (∀ r, m0 = some r → O r ∧ m1 ≠ some r) ∧ (∀ r, m1 = some r → O r) ∧ (∀ i, own i → O i ∧ i ≠ b ∧ m0 ≠ some i ∧ m1 ≠ some i) ∧ OwnRow w own 100 3 vw ws.length (flatC chC ws)
theorem ne_cell {w : World} {r : Nat} {l : List Ent} (h : MapE w r l) {a : Addr} {v : Value} (hc : w.cell? a = some v) : r ≠ a.block := by
  rintro rfl
  obtain ⟨es, clock, hb, _⟩ := h
  unfold World.cell? at hc
  rw [hb] at hc
  simp at hc
theorem mapO_lt {w : World} {m : Option Nat} {l : List Ent} (h : MapO w m l) : ∀ r, m = some r → r < w.heap.size := fun r e => by
  subst e
  exact MapE.lt h
theorem mapO_ne {w : World} {m : Option Nat} {l : List Ent} (h : MapO w m l) {a : Addr} {v : Value} (hc : w.cell? a = some v) : ∀ r, m = some r → r ≠ a.block := fun r e => by
  subst e
  exact ne_cell h hc
theorem DR.kp {S' O O' : Nat → Prop} {w w' : World} {b o : Nat} {S : List Ent} {ws : List Chg} (h : DR w O b o S ws) (k : Kp S' w w') (hs : ∀ i, i < w.heap.size → O i → ¬ S' i ∧ O' i) : DR w' O' b o S ws := by
  obtain ⟨m0, m1, vw, own, h1, h2, h3, h4, h5, h6, h8, h9⟩ := h
  have hb := h1.lt (by simp)
  exact ⟨m0, m1, vw, fun i => own i ∧ i < w.heap.size, h1.kp k (hs b hb h2).1, (hs b hb h2).2, h3.kp k fun r e => (hs r (mapO_lt h3 r e) (h5 r e).1).1, h4.kp k fun r e => (hs r (mapO_lt h4 r e) (h6 r e)).1,
    fun r e => ⟨(hs r (mapO_lt h3 r e) (h5 r e).1).2, (h5 r e).2⟩, fun r e => (hs r (mapO_lt h4 r e) (h6 r e)).2, fun i hi => ⟨(hs i hi.2 (h8 i hi.1).1).2, (h8 i hi.1).2⟩, (h9.mono (own' := fun i => own i ∧ i < w.heap.size) fun i hi hl => ⟨hi, hl⟩).kp k fun g n cap _ hg => (hs g hg.2 (h8 g hg.1).1).1⟩
theorem DR.mono {O O' : Nat → Prop} {w : World} {b o : Nat} {S : List Ent} {ws : List Chg} (h : DR w O b o S ws) (hs : ∀ i, i < w.heap.size → O i → O' i) : DR w O' b o S ws := h.kp (Kp.refl none_ w) fun i hl hi => ⟨id, hs i hl hi⟩
theorem DR.kp0 {O : Nat → Prop} {w w' : World} {b o : Nat} {S : List Ent} {ws : List Chg} (h : DR w O b o S ws) (k : Kp none_ w w') : DR w' O b o S ws := h.kp k fun i _ hi => ⟨id, hi⟩
theorem DR.lt {O : Nat → Prop} {w : World} {b o : Nat} {S : List Ent} {ws : List Chg} (h : DR w O b o S ws) : b < w.heap.size ∧ O b := by
  obtain ⟨m0, m1, vw, own, h1, h2, _⟩ := h
  exact ⟨h1.lt (by simp), h2⟩
theorem DR.zero {w : World} {b o : Nat} (h : Cs w b o [.map none, .map none, .slice none 0 0]) (O : Nat → Prop) (hO : O b) : DR w O b o [] [] :=
  ⟨none, none, .slice none 0 0, fun _ => False, h, hO, rfl, rfl, (fun r e => by cases e), (fun r e => by cases e), (fun i h => h.elim), OwnRow.nil _ _ _ _⟩
theorem DR.now {O : Nat → Prop} {w : World} {b o : Nat} {S : List Ent} {ws : List Chg} (h : DR w O b o S ws) : ∃ m, w.cell? ⟨b, o, none⟩ = some (.map m) ∧ MapO w m (lastE S ws) := by
  obtain ⟨m0, m1, vw, own, h1, h2, h3, _⟩ := h
  exact ⟨m0, h1.get 0 rfl, h3⟩
theorem DR.safe {O : Nat → Prop} {w : World} {b o : Nat} {S : List Ent} {ws : List Chg} (h : DR w O b o S ws) : ∃ m, w.cell? ⟨b, o + 1, none⟩ = some (.map m) ∧ MapO w m S := by
  obtain ⟨m0, m1, vw, own, h1, h2, _, h4, _⟩ := h
  exact ⟨m1, h1.get 1 rfl, h4⟩
theorem DR.wait {O : Nat → Prop} {w : World} {b o : Nat} {S : List Ent} {ws : List Chg} (h : DR w O b o S ws) : ∃ q c, w.cell? ⟨b, o + 2, none⟩ = some (.slice q ws.length c) ∧ RowsAt w 3 chC q ws := by
  obtain ⟨m0, m1, vw, own, h1, h2, _, _, _, _, _, h9⟩ := h
  obtain ⟨q, c, rfl⟩ := h9.slice
  exact ⟨q, c, h1.get 2 rfl, rows_of chC_len (by omega) h9⟩
theorem last_snoc (S : List Ent) (ws : List Chg) (c : Chg) : lastE S (ws ++ [c]) = doL (lastE S ws) c := by simp [lastE]
/-- A change that waits then. -/
theorem c88 {w : World} {O : Nat → Prop} {b o : Nat} {S : List Ent} {ws : List Chg} (h : DR w O b o S ws) (hl : ws.length ≤ 1000000) (ha : Asc Prod.fst (lastE S ws)) (c : Chg) : Rets Tryz.prog 71 #[ptA b o, chV c] w fun v w' =>
    v = .int .i64 0 ∧ DR w' (fun i => O i ∨ w.heap.size ≤ i) b o S (ws ++ [c]) ∧ Kp O w w' ∧ Nb b o 3 w w' := by
  refine ent [_, _] Tryz.func71 ((vcTryz71 _ _ _ _ w _).mpr ?_)
  unfold VCTryz71
  have ka : Kp none_ w (w.alloc (.cells #[.string (ba c.fr), .string (ba c.tr), .int .i64 c.id] 100)) := (Kp.refl none_ _).alloc1 _
  have za : w.heap.size < (w.alloc (.cells #[.string (ba c.fr), .string (ba c.tr), .int .i64 c.id] 100)).heap.size := by rw [alloc_size]; omega
  generalize w.alloc (.cells #[.string (ba c.fr), .string (ba c.tr), .int .i64 c.id] 100) = W at *
  have hbl := h.lt.1
  obtain ⟨m0, m1, vw, own, h1, h2, h3, h4, h5, h6, h8, h9⟩ := h.mono (O' := fun i => O i ∧ i < w.heap.size) fun i hl hi => ⟨hi, hl⟩
  have hbw : b ≠ w.heap.size := by omega
  have e0 := h1.get 0 rfl
  have m1b := mapO_ne h4 e0
  have m0b := mapO_ne h3 e0
  simp only [ptr_some, ad3, Nat.add_zero]
  -- behind the map's change: the row, and the cell
  have tail : ∀ {P2 : World → Option Addr → Nat → Nat → Prop} {r : Nat} {w5 : World}, ((O r ∧ r < w.heap.size) ∨ W.heap.size ≤ r) → r ≠ b → m1 ≠ some r → (∀ i, own i → i ≠ r) → Kp (fun i => i = r ∨ i = b) W w5 → Nb b o 3 W w5 → Cs w5 b o [.map (some r), .map m1, vw] → (∀ i, i = r → O i ∨ w.heap.size ≤ i) → ∀ {w6 : World}, MapE w6 r (doL (lastE S ws) c) → Kp (one_ r) w5.drew w6 → Keeps w5.drew w6 [w.heap.size] ∧ ∃ q n cc, w6.drew.cell? ⟨b, o + 2, none⟩ = some (.slice q n cc) ∧ (w6.drew.alloc (.cells #[.string (ba c.fr), .string (ba c.tr), .int .i64 c.id] 100)).cell? ⟨b, o + 2, none⟩ = some (.slice q n cc) ∧
      Runs Tryz.prog (Builtin.append_ #[57, 57] 57 #[.slice q n cc, .slice (some ⟨w6.drew.heap.size, 0, none⟩) 1 1]) (w6.drew.alloc (.cells #[.string (ba c.fr), .string (ba c.tr), .int .i64 c.id] 100)) fun v12 w13 => ∃ q14 n15 n16, v12 = .slice q14 n15 n16 ∧ Keeps (w6.drew.alloc (.cells #[.string (ba c.fr), .string (ba c.tr), .int .i64 c.id] 100)) w13 [w.heap.size] ∧ (∃ v18, w13.cell? ⟨b, o + 2, none⟩ = some v18) ∧ w13.frozen? ⟨b, o + 2, none⟩ = false ∧ Apart ⟨b, o + 2, none⟩ w.heap.size [0, 1, 2] ∧
        (P2 w13 q14 n15 n16 → ∃ v, Ending.returned (.int .i64 0) = Ending.returned v ∧ v = .int .i64 0 ∧ DR (w13.setCell ⟨b, o + 2, none⟩ (.slice q14 n15 n16)) (fun i => O i ∨ w.heap.size ≤ i) b o S (ws ++ [c]) ∧ Kp O w (w13.setCell ⟨b, o + 2, none⟩ (.slice q14 n15 n16)) ∧ Nb b o 3 w (w13.setCell ⟨b, o + 2, none⟩ (.slice q14 n15 n16))) := by
    intro P2 r w5 hr hrb hm1 hown k5 nb5 c5 hO6 w6 hm6 k6
    have k6' := Kp.of_drew k6
    have z5 := k5.size
    have z6 := k6'.size
    have hrw : r ≠ w.heap.size := by rcases hr with hr | hr <;> omega
    have c6 := c5.kp k6' (fun e : b = r => hrb e.symm)
    have ownb : ∀ i, own i → i ≠ b := fun i hi => (h8 i hi).2.1
    have r6 : OwnRow w6 (fun i => own i ∧ i < w.heap.size) 100 3 vw ws.length (flatC chC ws) := (((h9.mono fun i hi hl => ⟨hi, hl⟩).kp ka fun _ _ _ _ _ => id).kp k5 fun g n cap _ hg hh => hh.elim (hown g hg.1) (ownb g hg.1)).kp k6' fun g n cap _ hg hh => hown g hg.1 hh
    have r6d : OwnRow w6.drew (fun i => own i ∧ i < w.heap.size) 100 3 vw ws.length (flatC chC ws) := r6.kp (Kp.drew1 (S := none_)) fun _ _ _ _ _ => id
    have M1 : MapO w6 m1 S := ((h4.kp ka fun _ _ => id).kp k5 fun x e hh => hh.elim (fun h => hm1 (by rw [e, h])) (m1b x e)).kp k6' fun x e hh => hm1 (by rw [e]; congr 1)
    obtain ⟨q, cc, rfl⟩ := h9.slice
    have e2 : w6.drew.cell? ⟨b, o + 2, none⟩ = some (.slice q ws.length cc) := c6.get 2 rfl
    have kz : Kp none_ w6.drew (w6.drew.alloc (.cells #[.string (ba c.fr), .string (ba c.tr), .int .i64 c.id] 100)) := (Kp.refl none_ _).alloc1 _
    have k56 : Kp (fun i => i = r ∨ i = b) W w6 := k5.trans (k6'.mono fun i _ hi => .inl hi)
    refine ⟨k6.keeps fun i hi => ?_, _, _, _, e2, kz.cell0 e2, ?_⟩
    · rw [List.mem_singleton] at hi
      subst hi
      exact ⟨by show w.heap.size < w5.heap.size; omega, fun e => hrw (show w.heap.size = r from e).symm⟩
    refine push_ch (own := fun i => own i ∧ i < w.heap.size) c r6d rfl (by omega) fun q3 c3 w7 r7 k7 k7' => ?_
    have k67 : Kp (fun i => own i ∧ i < w.heap.size) w6 w7 := (Kp.drew1 (S := none_)).wide.trans k7
    have z7 := k67.size
    have c7 := c6.kp k67 (fun hh => ownb b hh.1 rfl)
    have g1 := c7.slot 2 (by simp)
    refine ⟨_, _, _, rfl, k7'.keeps fun i hi => ?_, g1.1, g1.2, .inl hbw, fun _ => ⟨_, rfl, rfl, ?_, ?_, ?_⟩⟩
    · rw [List.mem_singleton] at hi
      subst hi
      exact ⟨by rw [alloc_size]; show w.heap.size < w6.heap.size + 1; omega, fun hh => by omega⟩
    · have ks : Kp (one_ b) w7 (w7.setCell ⟨b, o + 2, none⟩ (.slice q3 (ws.length + 1) c3)) := kp_set _ _ _ _
      refine ⟨some r, m1, _, fun i => (own i ∧ i < w.heap.size) ∨ fresh w6.drew i, by simpa using c7.set 2 (.slice q3 (ws.length + 1) c3), .inl h2.1, ?_, ?_, fun x e => ?_, fun x e => .inl (h6 x e).1, fun i hi => ?_, r7.kp ks fun g n cap _ hg e => ?_⟩
      · rw [last_snoc]
        show MapE _ _ _
        exact (hm6.kp k67 fun hh => hown r hh.1 rfl).kp ks hrb
      · exact (M1.kp k67 fun x e hh => (h8 x hh.1).2.2.2 e).kp ks fun x e => m1b x e
      · cases e
        exact ⟨hr.elim (fun h => .inl h.1) fun h => .inr (by omega), hm1⟩
      · rcases hi with hi | hi
        · refine ⟨.inl (h8 i hi.1).1.1, ownb i hi.1, fun e => hown i hi.1 (Option.some.inj e).symm, (h8 i hi.1).2.2.2⟩
        · have hi : w6.heap.size ≤ i := hi
          refine ⟨.inr (by omega), by omega, fun e => ?_, fun e => ?_⟩
          · cases e
            have := hm6.lt
            omega
          · have := mapO_lt M1 i e
            omega
      · have e : g = b := e
        rcases hg with hg | hg
        · exact ownb g hg.1 e
        · have hg : w6.heap.size ≤ g := hg
          omega
    · refine (((ka.wide : Kp O w W).then k56 fun i hi hh => ?_).then k67 fun i hi hh => (h8 i hh.1).1.1).trans ((kp_set _ _ _ _).mono fun i _ hi => by have hi : i = b := hi; rw [hi]; exact h2.1)
      rcases hh with rfl | rfl
      · rcases hr with hr | hr
        · exact hr.1
        · omega
      · exact h2.1
    · exact ((Nb.of_kp ka hbl id).trans (nb5.trans (Nb.of_kp k6' (by omega) fun e => hrb e.symm))).trans ((Nb.of_kp k67 (by omega) fun hh => ownb b hh.1 rfl).trans (Nb.set _ (i := 2) (by omega) _))
  have cW := h1.kp0 ka
  cases m0 with
  | none =>
    have el : lastE S ws = [] := h3
    have kn : Kp none_ W (W.alloc (.map #[] 0)) := (Kp.refl none_ _).alloc1 _
    have mn := MapE.new W
    have cn := cW.kp0 kn
    have g0 := cn.slot 0 (by simp)
    refine ⟨none, cW.get 0 rfl, bif_b (fun _ => ?_) (fun hh => by cases hh)⟩
    refine ⟨g0.1, g0.2, .inl hbw, some W.heap.size, (cn.set 0 (.map (some W.heap.size))).get 0 rfl, fun _ => ?_⟩
    have mn' : MapE (((W.alloc (.map #[] 0)).setCell ⟨b, o, none⟩ (.map (some W.heap.size))).drew) W.heap.size (lastE S ws) := by
      rw [el]
      exact (mn.kp (kp_set _ b o _) (by show ¬ W.heap.size = b; omega)).kp (Kp.drew1 (S := none_)) id
    refine (c86 mn' ha c).mono ?_
    rintro v w6 ⟨rfl, m6, k6⟩
    refine ⟨rfl, tail (r := W.heap.size) (w5 := (W.alloc (.map #[] 0)).setCell ⟨b, o, none⟩ (.map (some W.heap.size))) (.inr (Nat.le_refl _)) (by omega) (fun e => by have := mapO_lt h4 _ e; omega) (fun i hi => by have := (h8 i hi).1.2; omega) (kn.wide.trans ((kp_set _ _ _ _).mono fun i _ hi => .inr hi)) ((Nb.of_kp kn (by omega) id).trans (Nb.set _ (i := 0) (by omega) _)) (by simpa using cn.set 0 (.map (some W.heap.size))) (fun i e => .inr (by omega)) m6 k6⟩
  | some r =>
    have hr := (h5 r rfl)
    refine ⟨some r, cW.get 0 rfl, bif_b (fun hh => by cases hh) (fun _ => ?_)⟩
    refine ⟨some r, cW.get 0 rfl, fun _ => ?_⟩
    have mr : MapE W.drew r (lastE S ws) := (MapE.kp h3 ka id).kp (Kp.drew1 (S := none_)) id
    refine (c86 mr ha c).mono ?_
    rintro v w6 ⟨rfl, m6, k6⟩
    exact ⟨rfl, tail (r := r) (w5 := W) (.inl hr.1) (m0b r rfl) hr.2 (fun i hi e => (h8 i hi).2.2.1 (by rw [e])) (Kp.refl _ _) (Nb.refl _ _ _ _) cW (fun i e => .inl (by rw [e]; exact hr.1.1)) m6 k6⟩
end Go.Proofs.YtlgkcbdpaffigaaGreat

namespace Go.Proofs.YtlgkcbdpaffigaaGreat
open Go Go.SX Go.Proofs
set_option maxRecDepth 100000
set_option linter.unusedVariables false
set_option linter.unusedSimpArgs false
/-- What a call leaves behind. -/
def DStep (w : World) (O : Nat → Prop) (b o : Nat) (S : List Ent) (ws : List Chg) (w' : World) (E : Int) (c : Chg) : Prop :=
  DR w' (fun i => O i ∨ w.heap.size ≤ i) b o S (if E = 0 then ws ++ [c] else ws) ∧ Kp O w w' ∧ Nb b o 3 w w'
theorem DStep.no {w : World} {O : Nat → Prop} {b o : Nat} {S : List Ent} {ws : List Chg} {E : Int} {c : Chg} (h : DR w O b o S ws) (hE : E ≠ 0) : DStep w O b o S ws w E c := by
  unfold DStep
  rw [if_neg hE]
  exact ⟨h.mono fun i _ hi => .inl hi, Kp.refl _ _, Nb.refl _ _ _ _⟩
theorem DStep.yes {w w' : World} {O : Nat → Prop} {b o : Nat} {S : List Ent} {ws : List Chg} {c : Chg} (h : DR w' (fun i => O i ∨ w.heap.size ≤ i) b o S (ws ++ [c])) (k : Kp O w w') (nb : Nb b o 3 w w') : DStep w O b o S ws w' 0 c := by
  unfold DStep
  rw [if_pos rfl]
  exact ⟨h, k, nb⟩
theorem look_none {l : List Ent} {s : List UInt8} : (lookE l s).isSome = has Prod.fst l s := look_has.symm
theorem c47 {w : World} {O : Nat → Prop} {b o : Nat} {S : List Ent} {ws : List Chg} (h : DR w O b o S ws) (hl : ws.length ≤ 1000000) (ha : Asc Prod.fst (lastE S ws)) (a : List UInt8) (id : Int) : Rets Tryz.prog 41 #[ptA b o, .string (ba a), .int .i64 id] w fun v w' =>
    v = .int .i64 (createE (lastE S ws) a) ∧ DStep w O b o S ws w' (createE (lastE S ws) a) ⟨[], a, id⟩ := by
  refine ent [_, _, _] Tryz.func41 ((vcTryz41 _ _ _ w _).mpr ?_)
  unfold VCTryz41
  refine bif_b (fun hh => by cases hh) (fun _ => ?_)
  simp only [ptr_some, ad3, Nat.add_zero]
  obtain ⟨m, e0, hm⟩ := h.now
  have k0 : Kp none_ w w := Kp.refl _ _
  refine ⟨_, e0, hm.look und76 u9s (z3 _) (ba a) true ?_⟩
  rw [if_pos rfl, strL_ba, look_none]
  refine ⟨_, _, rfl, k0.keeps0, (c87 a w).mono ?_⟩
  rintro v wx ⟨rfl, e⟩
  obtain rfl := e.symm
  refine ⟨_, rfl, k0.keeps0, bif_not (fun hn => ?_) (fun hn => bif_b (fun hh => ?_) (fun hh => ⟨_, e0, hm.len (asc_nk ha) und76 3 ?_⟩))⟩
  · have : createE (lastE S ws) a = 6 := by unfold createE; rw [if_pos hn]
    rw [this]
    exact ⟨_, rfl, rfl, .no h (by decide)⟩
  · have : createE (lastE S ws) a = 16 := by unfold createE; rw [if_neg (by rw [hn]; decide), if_pos hh]
    rw [this]
    exact ⟨_, rfl, rfl, .no h (by decide)⟩
  · refine ⟨_, rfl, k0.keeps0, bif_dec (fun hge => ?_) (fun hge => ?_)⟩
    · have : createE (lastE S ws) a = 14 := by unfold createE; rw [if_neg (by rw [hn]; decide), if_neg (by rw [hh]; decide), if_pos (by omega)]
      rw [this]
      exact ⟨_, rfl, rfl, .no h (by decide)⟩
    · have : createE (lastE S ws) a = 0 := by unfold createE; rw [if_neg (by rw [hn]; decide), if_neg (by rw [hh]; decide), if_neg (by omega)]
      rw [this]
      refine (c88 h hl ha ⟨[], a, id⟩).mono ?_
      rintro v w1 ⟨rfl, r1, k1, n1⟩
      exact ⟨_, rfl, Kp.keeps0 k1, _, rfl, rfl, .yes r1 k1 n1⟩
theorem c43 {w : World} {O : Nat → Prop} {b o : Nat} {S : List Ent} {ws : List Chg} (h : DR w O b o S ws) (hl : ws.length ≤ 1000000) (ha : Asc Prod.fst (lastE S ws)) (a t : List UInt8) : Rets Tryz.prog 53 #[ptA b o, .string (ba a), .string (ba t)] w fun v w' =>
    v = .int .i64 (renameE (lastE S ws) a t) ∧ DStep w O b o S ws w' (renameE (lastE S ws) a t) ⟨a, t, 0⟩ := by
  refine ent [_, _, _] Tryz.func53 ((vcTryz53 _ _ _ w _).mpr ?_)
  unfold VCTryz53
  refine bif_b (fun hh => by cases hh) (fun _ => ?_)
  simp only [ptr_some, ad3, Nat.add_zero]
  obtain ⟨m, e0, hm⟩ := h.now
  have k0 : Kp none_ w w := Kp.refl _ _
  refine ⟨_, e0, hm.look und76 u9s (z3 _) (ba a) true ?_⟩
  rw [if_pos rfl, strL_ba, look_none]
  refine ⟨_, _, rfl, k0.keeps0, (c87 t w).mono ?_⟩
  rintro v wx ⟨rfl, e⟩
  obtain rfl := e.symm
  refine ⟨_, rfl, k0.keeps0, bif_not (fun hn => ?_) (fun hn => bif_not (fun hh => ?_) (fun hh => ?_))⟩
  · have : renameE (lastE S ws) a t = 6 := by unfold renameE; rw [if_pos hn]
    rw [this]
    exact ⟨_, rfl, rfl, .no h (by decide)⟩
  · have : renameE (lastE S ws) a t = 7 := by unfold renameE; rw [if_neg (by rw [hn]; decide), if_pos hh]
    rw [this]
    exact ⟨_, rfl, rfl, .no h (by decide)⟩
  · have : renameE (lastE S ws) a t = 0 := by unfold renameE; rw [if_neg (by rw [hn]; decide), if_neg (by rw [hh]; decide)]
    rw [this]
    refine (c88 h hl ha ⟨a, t, 0⟩).mono ?_
    rintro v w1 ⟨rfl, r1, k1, n1⟩
    exact ⟨_, rfl, Kp.keeps0 k1, _, rfl, rfl, .yes r1 k1 n1⟩
theorem c48 {w : World} {O : Nat → Prop} {b o : Nat} {S : List Ent} {ws : List Chg} (h : DR w O b o S ws) (hl : ws.length ≤ 1000000) (ha : Asc Prod.fst (lastE S ws)) (a : List UInt8) : Rets Tryz.prog 55 #[ptA b o, .string (ba a)] w fun v w' =>
    v = .int .i64 (removeE (lastE S ws) a) ∧ DStep w O b o S ws w' (removeE (lastE S ws) a) ⟨a, [], 0⟩ := by
  refine ent [_, _] Tryz.func55 ((vcTryz55 _ _ w _).mpr ?_)
  unfold VCTryz55
  refine bif_b (fun hh => by cases hh) (fun _ => ?_)
  simp only [ptr_some, ad3, Nat.add_zero]
  obtain ⟨m, e0, hm⟩ := h.now
  have k0 : Kp none_ w w := Kp.refl _ _
  refine ⟨_, e0, hm.look und76 u9s (z3 _) (ba a) true ?_⟩
  rw [if_pos rfl, strL_ba, look_none]
  refine ⟨_, _, rfl, k0.keeps0, bif_not (fun hh => ?_) (fun hh => ?_)⟩
  · have : removeE (lastE S ws) a = 7 := by unfold removeE; rw [if_pos hh]
    rw [this]
    exact ⟨_, rfl, rfl, .no h (by decide)⟩
  · have : removeE (lastE S ws) a = 0 := by unfold removeE; rw [if_neg (by rw [hh]; decide)]
    rw [this]
    refine (c88 h hl ha ⟨a, [], 0⟩).mono ?_
    rintro v w1 ⟨rfl, r1, k1, n1⟩
    exact ⟨_, rfl, Kp.keeps0 k1, _, rfl, rfl, .yes r1 k1 n1⟩
theorem c42 {w : World} {O : Nat → Prop} {b o : Nat} {S : List Ent} {ws : List Chg} (h : DR w O b o S ws) (a : List UInt8) : Rets Tryz.prog 63 #[ptA b o, .string (ba a)] w fun v w' => w' = w ∧ v = .tuple #[.int .i64 ((lookE (lastE S ws) a).getD 0), .bool (has Prod.fst (lastE S ws) a)] := by
  refine ent [_, _] Tryz.func63 ((vcTryz63 _ _ w _).mpr ?_)
  unfold VCTryz63
  refine bif_b (fun hh => by cases hh) (fun _ => ?_)
  simp only [ptr_some, ad3, Nat.add_zero]
  obtain ⟨m, e0, hm⟩ := h.now
  refine ⟨_, e0, hm.look und76 u9s (z3 _) (ba a) true ?_⟩
  rw [if_pos rfl, strL_ba, look_none]
  exact ⟨_, _, rfl, (Kp.refl none_ _).keeps0, _, rfl, rfl, rfl⟩
/-! ### A directory that isn't there -/
end Go.Proofs.YtlgkcbdpaffigaaGreat

namespace Go.Proofs
open Go.Shelf
def Tryz.laysSlE041_f75_ren : Go.Shelf.Ren := ⟨fun | 41 => 38 | n => n, fun | 22 => 34 | 23 => 3 | 4 => 4 | n => n, fun | n => n⟩
theorem Tryz.laysSlE041_f38 : Go.Proofs.SlLaysE0.n41 Tryz.prog Tryz.laysSlE041_f75_ren := {
  mixed := by kernel_rfl
  f41 := ⟨Tryz.f38.name, by decide, Tryz.func38.trans (congrArg some (by kernel_rfl))⟩
  t4 := Tryz.underlying4
  a4 := Tryz.isAgg4
  z4 := Tryz.sizeOf4
  v4 := Tryz.zeroValue4
  t22 := Tryz.underlying34
  a22 := Tryz.isAgg34
  z22 := Tryz.sizeOf34
  v22 := Tryz.zeroValue34 }
open Go.RowKit Go.Lib in
theorem Tryz.slices_Clone (i0 : TypeInfo) (z : Value) (size bytes : Nat) (hi : Tryz.prog.info? 3 = some i0) (hz0 : i0.zero = some z) (hz1 : i0.size = size) (hz2 : i0.bytes = bytes) (hzs : z.cells.size = size) (hsz : 0 < size) (z23 : ∀ w, (Go.sizeOf 3).run Tryz.prog w = .ok size w) (b off n c : Nat) (news : List Value) (w : World) (hl : news.length = n * size) (hn : n ≤ maxLen) (hbig : n * bytes ≤ 140737488355328) (hc : ∀ j u, news[j]? = some u → w.cell? ⟨b, off + j, none⟩ = some u) (h1 : ∀ u ∈ news, u.oneCell' = true) :
    Calls Tryz.prog 38 #[.slice (some ⟨b, off, none⟩) n c] w fun e w' => ∃ v', e = .returned v' ∧ w'.ownsRow w.heap.size 3 size v' n news ∧ v' ≠ .slice none 0 0 ∧ Below w.heap.size w w' := AnyE.slices_Clone Tryz.laysSlE041_f38 i0 z size bytes hi hz0 hz1 hz2 hzs hsz z23 b off n c news w hl hn hbig hc h1
def Tryz.laysSlM6_f107_ren : Go.Shelf.Ren := ⟨fun | 6 => 96 | 8 => 100 | 9 => 99 | 19 => 110 | 20 => 111 | 21 => 101 | 22 => 102 | 23 => 103 | 24 => 104 | 25 => 105 | 26 => 106 | 27 => 107 | 28 => 108 | 29 => 109 | 36 => 112 | 31 => 113 | 32 => 114 | 37 => 115 | 38 => 116 | 39 => 117 | 41 => 118 | n => n, fun | 27 => 67 | 29 => 9 | 3 => 3 | 32 => 138 | 26 => 67 | 0 => 0 | 44 => 148 | 46 => 150 | 4 => 4 | 36 => 141 | 35 => 140 | 41 => 88 | 5 => 5 | 9 => 9 | 53 => 151 | 57 => 155 | 63 => 157 | 64 => 47 | n => n, fun | n => n⟩
theorem Tryz.laysSlM6_f96 : Go.Proofs.SlLaysM.n6 Tryz.prog Tryz.laysSlM6_f107_ren := {
  mixed := by kernel_rfl
  f6 := ⟨Tryz.f96.name, by decide, Tryz.func96.trans (congrArg some (by kernel_rfl))⟩
  f8 := Tryz.func100.trans (congrArg some (by kernel_rfl))
  f9 := ⟨Tryz.f99.name, by decide, Tryz.func99.trans (congrArg some (by kernel_rfl))⟩
  f19 := Tryz.func110.trans (congrArg some (by kernel_rfl))
  f20 := Tryz.func111.trans (congrArg some (by kernel_rfl))
  f21 := ⟨Tryz.f101.name, by decide, Tryz.func101.trans (congrArg some (by kernel_rfl))⟩
  f22 := ⟨Tryz.f102.name, by decide, Tryz.func102.trans (congrArg some (by kernel_rfl))⟩
  f23 := ⟨Tryz.f103.name, by decide, Tryz.func103.trans (congrArg some (by kernel_rfl))⟩
  f24 := ⟨Tryz.f104.name, by decide, Tryz.func104.trans (congrArg some (by kernel_rfl))⟩
  f25 := ⟨Tryz.f105.name, by decide, Tryz.func105.trans (congrArg some (by kernel_rfl))⟩
  f26 := ⟨Tryz.f106.name, by decide, Tryz.func106.trans (congrArg some (by kernel_rfl))⟩
  f27 := ⟨Tryz.f107.name, by decide, Tryz.func107.trans (congrArg some (by kernel_rfl))⟩
  f28 := ⟨Tryz.f108.name, by decide, Tryz.func108.trans (congrArg some (by kernel_rfl))⟩
  f29 := ⟨Tryz.f109.name, by decide, Tryz.func109.trans (congrArg some (by kernel_rfl))⟩
  f31 := Tryz.func113.trans (congrArg some (by kernel_rfl))
  f32 := Tryz.func114.trans (congrArg some (by kernel_rfl))
  f36 := ⟨Tryz.f112.name, by decide, Tryz.func112.trans (congrArg some (by kernel_rfl))⟩
  f37 := ⟨Tryz.f115.name, by decide, Tryz.func115.trans (congrArg some (by kernel_rfl))⟩
  f38 := ⟨Tryz.f116.name, by decide, Tryz.func116.trans (congrArg some (by kernel_rfl))⟩
  f39 := ⟨Tryz.f117.name, by decide, Tryz.func117.trans (congrArg some (by kernel_rfl))⟩
  f41 := ⟨Tryz.f118.name, by decide, Tryz.func118.trans (congrArg some (by kernel_rfl))⟩
  t0 := Tryz.underlying0
  a0 := Tryz.isAgg0
  z0 := Tryz.sizeOf0
  v0 := Tryz.zeroValue0
  t3 := Tryz.underlying3
  a3 := Tryz.isAgg3
  z3 := Tryz.sizeOf3
  v3 := Tryz.zeroValue3
  t4 := Tryz.underlying4
  a4 := Tryz.isAgg4
  z4 := Tryz.sizeOf4
  v4 := Tryz.zeroValue4
  t5 := Tryz.underlying5
  a5 := Tryz.isAgg5
  z5 := Tryz.sizeOf5
  v5 := Tryz.zeroValue5
  t9 := Tryz.underlying9
  a9 := Tryz.isAgg9
  z9 := Tryz.sizeOf9
  v9 := Tryz.zeroValue9
  t26 := Tryz.underlying67
  a26 := Tryz.isAgg67
  z26 := Tryz.sizeOf67
  v26 := Tryz.zeroValue67
  t27 := Tryz.underlying67
  a27 := Tryz.isAgg67
  z27 := Tryz.sizeOf67
  v27 := Tryz.zeroValue67
  t29 := Tryz.underlying9
  a29 := Tryz.isAgg9
  z29 := Tryz.sizeOf9
  v29 := Tryz.zeroValue9
  t32 := Tryz.underlying138
  a32 := Tryz.isAgg138
  z32 := Tryz.sizeOf138
  v32 := Tryz.zeroValue138
  t35 := Tryz.underlying140
  a35 := Tryz.isAgg140
  z35 := Tryz.sizeOf140
  v35 := Tryz.zeroValue140
  t36 := Tryz.underlying141
  a36 := Tryz.isAgg141
  z36 := Tryz.sizeOf141
  v36 := Tryz.zeroValue141
  t41 := Tryz.underlying88
  a41 := Tryz.isAgg88
  z41 := Tryz.sizeOf88
  v41 := Tryz.zeroValue88
  t44 := Tryz.underlying148
  a44 := Tryz.isAgg148
  z44 := Tryz.sizeOf148
  v44 := Tryz.zeroValue148
  t46 := Tryz.underlying150
  a46 := Tryz.isAgg150
  z46 := Tryz.sizeOf150
  v46 := Tryz.zeroValue150
  t53 := Tryz.underlying151
  a53 := Tryz.isAgg151
  z53 := Tryz.sizeOf151
  v53 := Tryz.zeroValue151
  t57 := Tryz.underlying155
  a57 := Tryz.isAgg155
  z57 := Tryz.sizeOf155
  v57 := Tryz.zeroValue155
  t63 := Tryz.underlying157
  a63 := Tryz.isAgg157
  z63 := Tryz.sizeOf157
  v63 := Tryz.zeroValue157
  t64 := Tryz.underlying47
  a64 := Tryz.isAgg47
  z64 := Tryz.sizeOf47
  v64 := Tryz.zeroValue47 }
open Go.Sort Go.RowKit in
theorem Tryz.slices_Sort_string (blk off cap : Nat) (ss : List (List UInt8)) (w : World) (hH : Holds encStr w blk off ss.toArray) (hblk : blk < w.heap.size) (hsz : ss.length < 4611686018427387904) :
    Calls Tryz.prog 96 #[.slice (some ⟨blk, off, none⟩) ss.length cap] w fun e w' =>
      e = .returned (.tuple #[]) ∧ ∃ n os, w' = grow (putRow encStr (Sort.ahead w n) blk off (ss.mergeSort fun x y => decide (x ≤ y)).toArray) os := AnyM.slices_Sort_string Tryz.laysSlM6_f96 blk off cap ss w hH hblk hsz
theorem Tryz.slices_Sort_string_none (p : Option Addr) (cap : Nat) (w : World) : Calls Tryz.prog 96 #[.slice p 0 cap] w fun e w' => e = .returned (.tuple #[]) ∧ w' = w := AnyM.slices_Sort_string_none Tryz.laysSlM6_f96 p cap w
def Tryz.laysSlW5_f82_ren : Go.Shelf.Ren := ⟨fun | 5 => 81 | 7 => 94 | n => n, fun | 23 => 56 | 25 => 9 | 3 => 3 | 4 => 4 | 20 => 20 | n => n, fun | n => n⟩
theorem Tryz.laysSlW5_f81 : Go.Proofs.SlLaysW.n5 Tryz.prog Tryz.laysSlW5_f82_ren := {
  mixed := by kernel_rfl
  f5 := ⟨Tryz.f81.name, by decide, Tryz.func81.trans (congrArg some (by kernel_rfl))⟩
  f7 := Tryz.func94.trans (congrArg some (by kernel_rfl))
  t4 := Tryz.underlying4
  a4 := Tryz.isAgg4
  z4 := Tryz.sizeOf4
  v4 := Tryz.zeroValue4
  t20 := Tryz.underlying20
  a20 := Tryz.isAgg20
  z20 := Tryz.sizeOf20
  v20 := Tryz.zeroValue20
  t23 := Tryz.underlying56
  a23 := Tryz.isAgg56
  z23 := Tryz.sizeOf56
  v23 := Tryz.zeroValue56 }
theorem Tryz.maps_Clone (b : Nat) (es : Array MapEntry) (clock : Nat) (w : World) (hb : w.heap[b]? = some (.map es clock)) :
    Calls Tryz.prog 81 #[.map (some b)] w fun e w' => e = .returned (.map (some w.heap.size)) ∧ w' = w.alloc (.map es clock) := AnyW.maps_Clone Tryz.laysSlW5_f81 b es clock w hb
theorem Tryz.maps_Clone_nil (w : World) : Calls Tryz.prog 81 #[.map none] w fun e w' => e = .returned (.map none) ∧ w' = w := AnyW.maps_Clone_nil Tryz.laysSlW5_f81 w
end Go.Proofs

namespace Go.Proofs.YtlgkcbdpaffigaaGreat
open Go Go.SX Go.Proofs
set_option maxRecDepth 100000
set_option linter.unusedVariables false
set_option linter.unusedSimpArgs false
/-- A map's names are told, in some order. -/
theorem c108 {w : World} {a : Addr} {m : Option Nat} {l : List Ent} {y : Value} (hc : w.cell? a = some (.map m)) (hm : MapO w m l) (hn : NK l) (J : List Ent → World → Prop) (S : Nat → Prop) (h0 : ∀ w', Kp none_ w w' → w'.heap.size = w.heap.size + 1 → J [] w') (hJ : ∀ done w1 w2, J done w1 → Kp (one_ w.heap.size) w1 w2 → J done w2) (hS : ¬ S w.heap.size ∧ ∀ r, m = some r → ¬ S r)
    (step : ∀ done e left w1, (done ++ e :: left).Perm l → J done w1 → w.heap.size < w1.heap.size → CallsVal Tryz.prog y #[.string (ba e.1)] w1 fun v w2 => v = .bool true ∧ J (done ++ [e]) w2 ∧ Kp S w1 w2) :
    Rets Tryz.prog 97 #[y, .pointer (some a)] w fun v w' => v = .tuple #[] ∧ ∃ all : List Ent, all.Perm l ∧ J all w' := by
  refine ent [_, _] Tryz.func97 ((vcTryz97 _ _ w _).mpr ?_)
  unfold VCTryz97
  rw [ptr_some]
  refine ⟨_, hc, range_map hm hn und76 fun w1 i1 k1 z1 => ⟨_, rfl, k1.keeps0, ?_⟩⟩
  refine ⟨fun w' => ∃ done left : List Ent, (done ++ left).Perm l ∧ IterE w' w.heap.size m left ∧ J done w' ∧ w.heap.size < w'.heap.size, fun w' => leftN w' w.heap.size, ⟨[], l, List.Perm.refl _, i1, h0 w1 k1 z1, by omega⟩, ?_⟩
  rintro w2 ⟨done, left, hp, i2, j2, z2⟩
  have hmq : ∀ r, m = some r → r ≠ w.heap.size := fun r e => by have := mapO_lt hm r e; omega
  have hl2 := i2.left
  refine next_map i2 hmq 0 (fun e => ?_) fun e L' w3 hL i3 k3 => ?_
  · subst e
    exact .inl ⟨rfl, (Kp.refl none_ _).keeps0, _, rfl, rfl, done, by simpa using hp, j2⟩
  · refine .inr ⟨_, _, rfl, k3.keeps0, entry_map i3 ⟨_, _, rfl, (Kp.refl none_ _).keeps0, ?_⟩⟩
    have hp' : (done ++ e :: L').Perm l := (List.Perm.append_left done hL).symm.trans hp
    have z3 := k3.size
    refine (step done e L' w3 hp' (hJ _ _ _ j2 k3) (by omega)).mono ?_
    rintro v w4 ⟨rfl, j4, k4⟩
    have z4 := k4.size
    refine ⟨_, rfl, k4.keeps0, bif_not (fun h => by cases h) (fun _ => ?_)⟩
    have i4 := i3.on.kp k4 hS.1 hS.2
    refine ⟨⟨done ++ [e], L', by simpa using hp', i4, j4, by omega⟩, ?_⟩
    show leftN w4 w.heap.size < leftN w2 w.heap.size
    rw [i4.left, hl2, hL.length_eq]
    simp
/-- A map's numbers are told, in some order. -/
theorem c112 {w : World} {a : Addr} {m : Option Nat} {l : List Ent} {y : Value} (hc : w.cell? a = some (.map m)) (hm : MapO w m l) (hn : NK l) (J : List Ent → World → Prop) (S : Nat → Prop) (h0 : ∀ w', Kp none_ w w' → w'.heap.size = w.heap.size + 1 → J [] w') (hJ : ∀ done w1 w2, J done w1 → Kp (one_ w.heap.size) w1 w2 → J done w2) (hS : ¬ S w.heap.size ∧ ∀ r, m = some r → ¬ S r)
    (step : ∀ done e left w1, (done ++ e :: left).Perm l → J done w1 → w.heap.size < w1.heap.size → CallsVal Tryz.prog y #[.int .i64 e.2] w1 fun v w2 => v = .bool true ∧ J (done ++ [e]) w2 ∧ Kp S w1 w2) :
    Rets Tryz.prog 93 #[y, .pointer (some a)] w fun v w' => v = .tuple #[] ∧ ∃ all : List Ent, all.Perm l ∧ J all w' := by
  refine ent [_, _] Tryz.func93 ((vcTryz93 _ _ w _).mpr ?_)
  unfold VCTryz93
  rw [ptr_some]
  refine ⟨_, hc, range_map hm hn und76 fun w1 i1 k1 z1 => ⟨_, rfl, k1.keeps0, ?_⟩⟩
  refine ⟨fun w' => ∃ done left : List Ent, (done ++ left).Perm l ∧ IterE w' w.heap.size m left ∧ J done w' ∧ w.heap.size < w'.heap.size, fun w' => leftN w' w.heap.size, ⟨[], l, List.Perm.refl _, i1, h0 w1 k1 z1, by omega⟩, ?_⟩
  rintro w2 ⟨done, left, hp, i2, j2, z2⟩
  have hmq : ∀ r, m = some r → r ≠ w.heap.size := fun r e => by have := mapO_lt hm r e; omega
  have hl2 := i2.left
  refine next_map i2 hmq 0 (fun e => ?_) fun e L' w3 hL i3 k3 => ?_
  · subst e
    exact .inl ⟨rfl, (Kp.refl none_ _).keeps0, _, rfl, rfl, done, by simpa using hp, j2⟩
  · refine .inr ⟨_, _, rfl, k3.keeps0, entry_map i3 ⟨_, _, rfl, (Kp.refl none_ _).keeps0, ?_⟩⟩
    have hp' : (done ++ e :: L').Perm l := (List.Perm.append_left done hL).symm.trans hp
    have z3 := k3.size
    refine (step done e L' w3 hp' (hJ _ _ _ j2 k3) (by omega)).mono ?_
    rintro v w4 ⟨rfl, j4, k4⟩
    have z4 := k4.size
    refine ⟨_, rfl, k4.keeps0, bif_not (fun h => by cases h) (fun _ => ?_)⟩
    have i4 := i3.on.kp k4 hS.1 hS.2
    refine ⟨⟨done ++ [e], L', by simpa using hp', i4, j4, by omega⟩, ?_⟩
    show leftN w4 w.heap.size < leftN w2 w.heap.size
    rw [i4.left, hl2, hL.length_eq]
    simp
def strC (s : List UInt8) : List Value := [.string (ba s)]
def intC (i : Int) : List Value := [.int .i64 i]
theorem strC_len (s : List UInt8) : (strC s).length = 1 := rfl
theorem intC_len (i : Int) : (intC i).length = 1 := rfl
theorem strC_one (s : List UInt8) : ∀ u ∈ strC s, u.oneCell' = true := fun u hu => by
  simp only [strC, List.mem_cons, List.not_mem_nil, or_false] at hu
  subst hu; simp [Value.oneCell']
theorem intC_one (i : Int) : ∀ u ∈ intC i, u.oneCell' = true := fun u hu => by
  simp only [intC, List.mem_cons, List.not_mem_nil, or_false] at hu
  subst hu; simp [Value.oneCell']
theorem elem9 : elemOk Tryz.prog 9 1 = true := by kernel_rfl
theorem elem3 : elemOk Tryz.prog 3 1 = true := by kernel_rfl
theorem und30 : Tryz.prog.underlying 67 = some (.slice 9) := Tryz.underlying67
theorem und62 : Tryz.prog.underlying 34 = some (.slice 3) := Tryz.underlying34
theorem isGo108 : isGo Tryz.prog 97 = true := by kernel_rfl
theorem isGo112 : isGo Tryz.prog 93 = true := by kernel_rfl
/-- A map's names, collected. -/
theorem c113 {w : World} {a : Addr} {m : Option Nat} {l : List Ent} (hc : w.cell? a = some (.map m)) (hm : MapO w m l) (hn : NK l) (hl : l.length ≤ 1000000) : Rets Tryz.prog 98 #[.slice none 0 0, .func (.func 97) #[] #[.pointer (some a)]] w fun v w' =>
    ∃ (q : Option Addr) (c : Nat) (all : List Ent), v = .slice q all.length c ∧ all.Perm l ∧ OwnRow w' (fun i => w.heap.size ≤ i) 9 1 v all.length (flatC strC (all.map Prod.fst)) ∧ Kp none_ w w' := by
  refine ent [_, _] Tryz.func98 ((vcTryz98 _ _ _ _ w _).mpr ?_)
  unfold VCTryz98
  intro _ rec hrec H
  have k1 : Kp none_ w (w.alloc (.cells #[.slice none 0 0] 67)) := (Kp.refl none_ _).alloc1 _
  have C1 : Cel (w.alloc (.cells #[.slice none 0 0] 67)) w.heap.size (.slice none 0 0) := Cel.new _ _ _
  have z1 : (w.alloc (.cells #[.slice none 0 0] 67)).heap.size = w.heap.size + 1 := alloc_size _ _
  generalize w.alloc (.cells #[.slice none 0 0] 67) = w1 at *
  have k2 : Kp none_ w1 ((w1.alloc (.deferred (some []))).alloc (rec .ready none)) := ((Kp.refl none_ _).alloc1 _).alloc1 _
  have z2 : ((w1.alloc (.deferred (some []))).alloc (rec .ready none)).heap.size = w1.heap.size + 2 := by rw [alloc_size, alloc_size]
  have m2 : ((w1.alloc (.deferred (some []))).alloc (rec .ready none)).heap[w1.heap.size]? = some (.deferred (some [])) := by
    rw [alloc_get, if_neg (by rw [alloc_size]; omega), alloc_get, if_pos rfl]
  have r2 : ((w1.alloc (.deferred (some []))).alloc (rec .ready none)).heap[w1.heap.size + 1]? = some (rec .ready none) := by
    rw [alloc_get, if_pos (by rw [alloc_size])]
  generalize (w1.alloc (.deferred (some []))).alloc (rec .ready none) = w2 at *
  have K2 := k1.trans k2
  refine ⟨isGo108, ?_⟩
  have hmr : ∀ r, m = some r → r < w.heap.size := fun r e => mapO_lt hm r e
  refine (c108 (w := w2) (K2.cell0 hc) (hm.kp K2 fun _ _ => id) hn
    (fun done w' => w'.heap[w1.heap.size + 1]? = some (rec .ready none) ∧ w'.heap[w1.heap.size]? = some (.deferred (some [])) ∧ (∃ v, Cel w' w.heap.size v ∧ OwnRow w' (fun i => w2.heap.size < i) 9 1 v done.length (flatC strC (done.map Prod.fst))) ∧ Kp none_ w w' ∧ w2.heap.size < w'.heap.size)
    (fun i => i = w.heap.size ∨ i = w1.heap.size + 1 ∨ w2.heap.size < i) (fun w' k z => ⟨(k.same _ (by omega) id).trans r2, (k.same _ (by omega) id).trans m2, ⟨_, (C1.kp k2 id).kp k id, OwnRow.nil _ _ _ _⟩, K2.trans k, by omega⟩) ?_ ⟨by omega, fun r e hh => by have := hmr r e; omega⟩ ?_).mono ?_
  · rintro done x y ⟨h1, h2, ⟨v, h3, h4⟩, h5, h6⟩ k
    have hz := k.size
    refine ⟨(k.same _ (by omega) (by show ¬ _ = _; omega)).trans h1, (k.same _ (by omega) (by show ¬ _ = _; omega)).trans h2, ⟨v, h3.kp k (by show ¬ _ = _; omega), h4.kp k fun g n c _ hg e => ?_⟩, h5.then k fun i hi e => by have e : i = w2.heap.size := e; omega, by omega⟩
    have e : g = w2.heap.size := e
    omega
  · rintro done e left x hp ⟨h1, h2, ⟨v, h3, h4⟩, h5, h6⟩ hz
    obtain ⟨q, c, rfl⟩ := h4.slice
    have hlen : done.length ≤ 1000000 := by have := hp.length_eq; simp at this; omega
    refine H (ba e.1) q done.length c x _ h1 ⟨⟨h3.lt, ⟨h3.cell, h3.frz⟩, trivial⟩, trivial⟩ ⟨h1, ?_⟩
    have kb : Kp (one_ (w1.heap.size + 1)) x (x.putObj (w1.heap.size + 1) (rec .busy none)) := Kp.putObj1 _ h1 (hrec _ _) (hrec _ _) rfl
    have hb1 : (x.putObj (w1.heap.size + 1) (rec .busy none)).heap[w1.heap.size + 1]? = some (rec .busy none) := World.putObj_heap_same (by omega)
    have hsz : (x.putObj (w1.heap.size + 1) (rec .busy none)).heap.size = x.heap.size := World.putObj_size
    generalize x.putObj (w1.heap.size + 1) (rec .busy none) = x1 at *
    have ro : OwnRow x1 (fun i => w2.heap.size < i ∧ i < x.heap.size) 9 1 (.slice q done.length c) done.length (flatC strC (done.map Prod.fst)) := (h4.mono fun i hi hl => ⟨hi, hl⟩).kp kb fun g n c _ hg e => by
      have e : g = w1.heap.size + 1 := e
      omega
    refine push_row (l := done.map Prod.fst) e.1 (cs := #[.string (ba e.1)]) strC_len strC_one (by omega) und30 elem9 rfl ro (by simp) (by simp; omega) fun q' c' y r' ka ka' => ?_
    have hlt1 : w1.heap.size + 1 < x1.heap.size := by omega
    have hy := ka.size
    have c1 := (h3.kp kb (by show ¬ _ = _; omega)).kp ka (fun hh => by omega)
    have m1 := (ka.same _ (by omega) (fun hh => by omega)).trans ((kb.same _ (by omega) (by show ¬ _ = _; omega)).trans h2)
    have l1 := (ka.same _ hlt1 (fun hh => by omega)).trans hb1
    refine ⟨_, _, _, rfl, ka'.keeps fun i hi => ?_, fun _ => ?_⟩
    · rw [List.mem_singleton] at hi
      subst hi
      exact ⟨by rw [alloc_size]; omega, fun hh => by omega⟩
    have ks : Kp (one_ w.heap.size) y (y.setCell ⟨w.heap.size, 0, none⟩ (.slice q' ((done.map Prod.fst).length + 1) c')) := kp_set _ _ _ _
    have c2 := c1.set (.slice q' ((done.map Prod.fst).length + 1) c')
    have rr := r'.kp (S := one_ w.heap.size) ks fun g n c _ hg e => by
      have e : g = w.heap.size := e
      rcases hg with hg | hg
      · omega
      · have hg : x1.heap.size ≤ g := hg
        omega
    have hsy := set_size y ⟨w.heap.size, 0, none⟩ (.slice q' ((done.map Prod.fst).length + 1) c')
    have l2 := (ks.same _ (by omega) (by show ¬ _ = _; omega)).trans l1
    have m2' := (ks.same _ (by omega) (by show ¬ _ = _; omega)).trans m1
    rw [show (List.map Prod.fst done).length = done.length from List.length_map ..] at *
    generalize y.setCell ⟨w.heap.size, 0, none⟩ (.slice q' (done.length + 1) c') = ys at *
    have kr : Kp (one_ (w1.heap.size + 1)) ys (ys.putObj (w1.heap.size + 1) (rec .ready none)) := Kp.putObj1 _ l2 (hrec _ _) (hrec _ _) rfl
    have l3 : (ys.putObj (w1.heap.size + 1) (rec .ready none)).heap[w1.heap.size + 1]? = some (rec .ready none) := World.putObj_heap_same (by omega)
    have hsr : (ys.putObj (w1.heap.size + 1) (rec .ready none)).heap.size = ys.heap.size := World.putObj_size
    refine ⟨l2, rfl, ⟨l3, (kr.same _ (by omega) (by show ¬ _ = _; omega)).trans m2', ⟨_, c2.kp kr (by show ¬ _ = _; omega), ?_⟩, ?_, by omega⟩, ?_⟩
    · have := (rr.kp kr fun g n c _ hg e => by
        have e : g = w1.heap.size + 1 := e
        rcases hg with hg | hg
        · omega
        · have hg : x1.heap.size ≤ g := hg
          omega).mono (own' := fun i => w2.heap.size < i) fun i hi _ => by
        rcases hi with hi | hi
        · exact hi.1
        · have hi : x1.heap.size ≤ i := hi
          omega
      simpa using this
    · refine ((((h5.then kb fun i hi hh => ?_).then ka fun i hi hh => ?_).then ks fun i hi hh => ?_).then kr fun i hi hh => ?_)
      · have hh : i = w1.heap.size + 1 := hh
        omega
      · omega
      · have hh : i = w.heap.size := hh
        omega
      · have hh : i = w1.heap.size + 1 := hh
        omega
    · exact (((kb.mono fun i _ hi => .inr (.inl hi)).trans (ka.mono fun i _ hi => .inr (.inr hi.1))).trans (ks.mono fun i _ hi => .inl hi)).trans (kr.mono fun i _ hi => .inr (.inl hi))
  · rintro v w20 ⟨rfl, all, hp, h1, h2, ⟨v, h3, h4⟩, h5, h6⟩
    obtain ⟨q, c, rfl⟩ := h4.slice
    refine ⟨_, _, _, ⟨⟨h3.lt, ⟨h3.cell, h3.frz⟩, trivial⟩, trivial⟩, h1, fun _ => ?_⟩
    have kr : Kp (one_ (w1.heap.size + 1)) w20 (w20.putObj (w1.heap.size + 1) (rec .exhausted none)) := Kp.putObj1 _ h1 (hrec _ _) (hrec _ _) rfl
    have hsr : (w20.putObj (w1.heap.size + 1) (rec .exhausted none)).heap.size = w20.heap.size := World.putObj_size
    have m3 := (kr.same _ (by omega) (by show ¬ _ = _; omega)).trans h2
    have km : Kp (one_ w1.heap.size) (w20.putObj (w1.heap.size + 1) (rec .exhausted none)) ((w20.putObj (w1.heap.size + 1) (rec .exhausted none)).putObj w1.heap.size (.deferred none)) := Kp.putObj1 _ m3 rfl rfl rfl
    refine ⟨m3, _, rfl, q, c, all, rfl, hp, ?_, ?_⟩
    · have := ((h4.kp kr fun g n c _ hg e => by
        have e : g = w1.heap.size + 1 := e
        omega).kp km fun g n c _ hg e => by
        have e : g = w1.heap.size := e
        omega).mono (own' := fun i => w.heap.size ≤ i) fun i hi _ => by omega
      exact this
    · refine (h5.then kr fun i hi hh => ?_).then km fun i hi hh => ?_
      · have hh : i = w1.heap.size + 1 := hh
        omega
      · have hh : i = w1.heap.size := hh
        omega
/-- A map's numbers, collected. -/
theorem c111 {w : World} {a : Addr} {m : Option Nat} {l : List Ent} (hc : w.cell? a = some (.map m)) (hm : MapO w m l) (hn : NK l) (hl : l.length ≤ 1000000) : Rets Tryz.prog 92 #[.slice none 0 0, .func (.func 93) #[] #[.pointer (some a)]] w fun v w' =>
    ∃ (q : Option Addr) (c : Nat) (all : List Ent), v = .slice q all.length c ∧ all.Perm l ∧ OwnRow w' (fun i => w.heap.size ≤ i) 3 1 v all.length (flatC intC (all.map Prod.snd)) ∧ Kp none_ w w' := by
  refine ent [_, _] Tryz.func92 ((vcTryz92 _ _ _ _ w _).mpr ?_)
  unfold VCTryz92
  intro _ rec hrec H
  have k1 : Kp none_ w (w.alloc (.cells #[.slice none 0 0] 34)) := (Kp.refl none_ _).alloc1 _
  have C1 : Cel (w.alloc (.cells #[.slice none 0 0] 34)) w.heap.size (.slice none 0 0) := Cel.new _ _ _
  have z1 : (w.alloc (.cells #[.slice none 0 0] 34)).heap.size = w.heap.size + 1 := alloc_size _ _
  generalize w.alloc (.cells #[.slice none 0 0] 34) = w1 at *
  have k2 : Kp none_ w1 ((w1.alloc (.deferred (some []))).alloc (rec .ready none)) := ((Kp.refl none_ _).alloc1 _).alloc1 _
  have z2 : ((w1.alloc (.deferred (some []))).alloc (rec .ready none)).heap.size = w1.heap.size + 2 := by rw [alloc_size, alloc_size]
  have m2 : ((w1.alloc (.deferred (some []))).alloc (rec .ready none)).heap[w1.heap.size]? = some (.deferred (some [])) := by
    rw [alloc_get, if_neg (by rw [alloc_size]; omega), alloc_get, if_pos rfl]
  have r2 : ((w1.alloc (.deferred (some []))).alloc (rec .ready none)).heap[w1.heap.size + 1]? = some (rec .ready none) := by
    rw [alloc_get, if_pos (by rw [alloc_size])]
  generalize (w1.alloc (.deferred (some []))).alloc (rec .ready none) = w2 at *
  have K2 := k1.trans k2
  refine ⟨isGo112, ?_⟩
  have hmr : ∀ r, m = some r → r < w.heap.size := fun r e => mapO_lt hm r e
  refine (c112 (w := w2) (K2.cell0 hc) (hm.kp K2 fun _ _ => id) hn
    (fun done w' => w'.heap[w1.heap.size + 1]? = some (rec .ready none) ∧ w'.heap[w1.heap.size]? = some (.deferred (some [])) ∧ (∃ v, Cel w' w.heap.size v ∧ OwnRow w' (fun i => w2.heap.size < i) 3 1 v done.length (flatC intC (done.map Prod.snd))) ∧ Kp none_ w w' ∧ w2.heap.size < w'.heap.size)
    (fun i => i = w.heap.size ∨ i = w1.heap.size + 1 ∨ w2.heap.size < i) (fun w' k z => ⟨(k.same _ (by omega) id).trans r2, (k.same _ (by omega) id).trans m2, ⟨_, (C1.kp k2 id).kp k id, OwnRow.nil _ _ _ _⟩, K2.trans k, by omega⟩) ?_ ⟨by omega, fun r e hh => by have := hmr r e; omega⟩ ?_).mono ?_
  · rintro done x y ⟨h1, h2, ⟨v, h3, h4⟩, h5, h6⟩ k
    have hz := k.size
    refine ⟨(k.same _ (by omega) (by show ¬ _ = _; omega)).trans h1, (k.same _ (by omega) (by show ¬ _ = _; omega)).trans h2, ⟨v, h3.kp k (by show ¬ _ = _; omega), h4.kp k fun g n c _ hg e => ?_⟩, h5.then k fun i hi e => by have e : i = w2.heap.size := e; omega, by omega⟩
    have e : g = w2.heap.size := e
    omega
  · rintro done e left x hp ⟨h1, h2, ⟨v, h3, h4⟩, h5, h6⟩ hz
    obtain ⟨q, c, rfl⟩ := h4.slice
    have hlen : done.length ≤ 1000000 := by have := hp.length_eq; simp at this; omega
    refine H e.2 q done.length c x _ h1 ⟨⟨h3.lt, ⟨h3.cell, h3.frz⟩, trivial⟩, trivial⟩ ⟨h1, ?_⟩
    have kb : Kp (one_ (w1.heap.size + 1)) x (x.putObj (w1.heap.size + 1) (rec .busy none)) := Kp.putObj1 _ h1 (hrec _ _) (hrec _ _) rfl
    have hb1 : (x.putObj (w1.heap.size + 1) (rec .busy none)).heap[w1.heap.size + 1]? = some (rec .busy none) := World.putObj_heap_same (by omega)
    have hsz : (x.putObj (w1.heap.size + 1) (rec .busy none)).heap.size = x.heap.size := World.putObj_size
    generalize x.putObj (w1.heap.size + 1) (rec .busy none) = x1 at *
    have ro : OwnRow x1 (fun i => w2.heap.size < i ∧ i < x.heap.size) 3 1 (.slice q done.length c) done.length (flatC intC (done.map Prod.snd)) := (h4.mono fun i hi hl => ⟨hi, hl⟩).kp kb fun g n c _ hg e => by
      have e : g = w1.heap.size + 1 := e
      omega
    refine push_row (l := done.map Prod.snd) e.2 (cs := #[.int .i64 e.2]) intC_len intC_one (by omega) und62 elem3 rfl ro (by simp) (by simp; omega) fun q' c' y r' ka ka' => ?_
    have hlt1 : w1.heap.size + 1 < x1.heap.size := by omega
    have hy := ka.size
    have c1 := (h3.kp kb (by show ¬ _ = _; omega)).kp ka (fun hh => by omega)
    have m1 := (ka.same _ (by omega) (fun hh => by omega)).trans ((kb.same _ (by omega) (by show ¬ _ = _; omega)).trans h2)
    have l1 := (ka.same _ hlt1 (fun hh => by omega)).trans hb1
    refine ⟨_, _, _, rfl, ka'.keeps fun i hi => ?_, fun _ => ?_⟩
    · rw [List.mem_singleton] at hi
      subst hi
      exact ⟨by rw [alloc_size]; omega, fun hh => by omega⟩
    have ks : Kp (one_ w.heap.size) y (y.setCell ⟨w.heap.size, 0, none⟩ (.slice q' ((done.map Prod.snd).length + 1) c')) := kp_set _ _ _ _
    have c2 := c1.set (.slice q' ((done.map Prod.snd).length + 1) c')
    have rr := r'.kp (S := one_ w.heap.size) ks fun g n c _ hg e => by
      have e : g = w.heap.size := e
      rcases hg with hg | hg
      · omega
      · have hg : x1.heap.size ≤ g := hg
        omega
    have hsy := set_size y ⟨w.heap.size, 0, none⟩ (.slice q' ((done.map Prod.snd).length + 1) c')
    have l2 := (ks.same _ (by omega) (by show ¬ _ = _; omega)).trans l1
    have m2' := (ks.same _ (by omega) (by show ¬ _ = _; omega)).trans m1
    rw [show (List.map Prod.snd done).length = done.length from List.length_map ..] at *
    generalize y.setCell ⟨w.heap.size, 0, none⟩ (.slice q' (done.length + 1) c') = ys at *
    have kr : Kp (one_ (w1.heap.size + 1)) ys (ys.putObj (w1.heap.size + 1) (rec .ready none)) := Kp.putObj1 _ l2 (hrec _ _) (hrec _ _) rfl
    have l3 : (ys.putObj (w1.heap.size + 1) (rec .ready none)).heap[w1.heap.size + 1]? = some (rec .ready none) := World.putObj_heap_same (by omega)
    have hsr : (ys.putObj (w1.heap.size + 1) (rec .ready none)).heap.size = ys.heap.size := World.putObj_size
    refine ⟨l2, rfl, ⟨l3, (kr.same _ (by omega) (by show ¬ _ = _; omega)).trans m2', ⟨_, c2.kp kr (by show ¬ _ = _; omega), ?_⟩, ?_, by omega⟩, ?_⟩
    · have := (rr.kp kr fun g n c _ hg e => by
        have e : g = w1.heap.size + 1 := e
        rcases hg with hg | hg
        · omega
        · have hg : x1.heap.size ≤ g := hg
          omega).mono (own' := fun i => w2.heap.size < i) fun i hi _ => by
        rcases hi with hi | hi
        · exact hi.1
        · have hi : x1.heap.size ≤ i := hi
          omega
      simpa using this
    · refine ((((h5.then kb fun i hi hh => ?_).then ka fun i hi hh => ?_).then ks fun i hi hh => ?_).then kr fun i hi hh => ?_)
      · have hh : i = w1.heap.size + 1 := hh
        omega
      · omega
      · have hh : i = w.heap.size := hh
        omega
      · have hh : i = w1.heap.size + 1 := hh
        omega
    · exact (((kb.mono fun i _ hi => .inr (.inl hi)).trans (ka.mono fun i _ hi => .inr (.inr hi.1))).trans (ks.mono fun i _ hi => .inl hi)).trans (kr.mono fun i _ hi => .inr (.inl hi))
  · rintro v w20 ⟨rfl, all, hp, h1, h2, ⟨v, h3, h4⟩, h5, h6⟩
    obtain ⟨q, c, rfl⟩ := h4.slice
    refine ⟨_, _, _, ⟨⟨h3.lt, ⟨h3.cell, h3.frz⟩, trivial⟩, trivial⟩, h1, fun _ => ?_⟩
    have kr : Kp (one_ (w1.heap.size + 1)) w20 (w20.putObj (w1.heap.size + 1) (rec .exhausted none)) := Kp.putObj1 _ h1 (hrec _ _) (hrec _ _) rfl
    have hsr : (w20.putObj (w1.heap.size + 1) (rec .exhausted none)).heap.size = w20.heap.size := World.putObj_size
    have m3 := (kr.same _ (by omega) (by show ¬ _ = _; omega)).trans h2
    have km : Kp (one_ w1.heap.size) (w20.putObj (w1.heap.size + 1) (rec .exhausted none)) ((w20.putObj (w1.heap.size + 1) (rec .exhausted none)).putObj w1.heap.size (.deferred none)) := Kp.putObj1 _ m3 rfl rfl rfl
    refine ⟨m3, _, rfl, q, c, all, rfl, hp, ?_, ?_⟩
    · have := ((h4.kp kr fun g n c _ hg e => by
        have e : g = w1.heap.size + 1 := e
        omega).kp km fun g n c _ hg e => by
        have e : g = w1.heap.size := e
        omega).mono (own' := fun i => w.heap.size ≤ i) fun i hi _ => by omega
      exact this
    · refine (h5.then kr fun i hi hh => ?_).then km fun i hi hh => ?_
      · have hh : i = w1.heap.size + 1 := hh
        omega
      · have hh : i = w1.heap.size := hh
        omega
end Go.Proofs.YtlgkcbdpaffigaaGreat

namespace Go.Proofs.YtlgkcbdpaffigaaGreat
open Go Go.SX Go.Proofs Go.Sort
set_option maxRecDepth 100000
set_option linter.unusedVariables false
set_option linter.unusedSimpArgs false
theorem flat_str (l : List (List UInt8)) : flatC strC l = l.map encStr := by
  induction l with
  | nil => rfl
  | cons a r ih =>
    have : flatC strC (a :: r) = strC a ++ flatC strC r := by simp [flatC]
    rw [this, ih]
    rfl
theorem sorted_keys {l all : List Ent} (ha : Asc Prod.fst l) (hp : all.Perm l) : (all.map Prod.fst).mergeSort (fun x y => decide (x ≤ y)) = l.map Prod.fst := by
  have h1 : (all.map Prod.fst).mergeSort (fun x y => decide (x ≤ y)) = (l.map Prod.fst).mergeSort (fun x y => decide (x ≤ y)) := mergeSort_of_perm (hp.map Prod.fst)
  rw [h1]
  refine List.mergeSort_of_pairwise ?_
  rw [List.pairwise_map]
  rw [List.pairwise_iff_getElem]
  intro i j hi hj hij
  have := asc_get ha i j hij hj
  rw [bytesLess_eq] at this
  simp only [decide_eq_true_eq] at this ⊢
  exact List.le_of_lt this
theorem kp_sorted {w : World} {g n : Nat} {os : Array Obj} {cur : Array Value} {e : TypeId} (d : Array (List UInt8)) (hb : w.heap[g]? = some (.cells cur e (0, 0))) : Kp (one_ g) w (grow (putRow encStr (Sort.ahead w n) g 0 d) os) := by
  have hg := grownBy_sorted (w := w) (g := g) (n := n) (os := os) d
  refine ⟨rfl, rfl, rfl, fun a ha => ?_, hg.size, fun i hi hn => hg.block i hi (fun e => hn (Option.some.inj e))⟩
  by_cases h : a.block = g
  · unfold World.frozen?
    rw [h, hb, heap_sorted d hb]
  · exact frozen_same (hg.block a.block ha (fun e => h (Option.some.inj e)))
/-- A map's names, sorted. -/
theorem c83 {w : World} {a : Addr} {m : Option Nat} {l : List Ent} (hc : w.cell? a = some (.map m)) (hm : MapO w m l) (ha : Asc Prod.fst l) (hl : l.length ≤ 1000000) : Rets Tryz.prog 87 #[.func (.func 97) #[] #[.pointer (some a)]] w fun v w' =>
    ∃ (q : Option Addr) (c : Nat), v = .slice q l.length c ∧ RowsAt w' 1 strC q (l.map Prod.fst) ∧ (∀ a, q = some a → w.heap.size ≤ a.block) ∧ Kp none_ w w' := by
  refine ent [_] Tryz.func87 ((vcTryz87 _ w _).mpr ?_)
  unfold VCTryz87
  have h106 : Rets Tryz.prog 95 #[.func (.func 97) #[] #[.pointer (some a)]] w fun v w' =>
    ∃ (q : Option Addr) (c : Nat) (all : List Ent), v = .slice q all.length c ∧ all.Perm l ∧ OwnRow w' (fun i => w.heap.size ≤ i) 9 1 v all.length (flatC strC (all.map Prod.fst)) ∧ Kp none_ w w' := by
    refine ent [_] Tryz.func95 ((vcTryz95 _ w _).mpr ?_)
    unfold VCTryz95
    refine (c113 hc hm (asc_nk ha) hl).mono ?_
    rintro v w' ⟨q, c, all, rfl, h⟩
    exact ⟨_, _, _, rfl, h.2.2.keeps0, _, rfl, q, c, all, rfl, h⟩
  refine h106.mono ?_
  rintro v w1 ⟨q, c, all, rfl, hp, hr, k1⟩
  refine ⟨_, _, _, rfl, k1.keeps0, ?_⟩
  have hlen := hp.length_eq
  have hs := sorted_keys ha hp
  rcases hr.2 with ⟨e, e0⟩ | ⟨g, cap, cur, e, hg, hb, h1, h2, h3, h4⟩
  · have hall : all = [] := List.eq_nil_of_length_eq_zero e0
    subst hall
    cases e
    have : l = [] := List.eq_nil_of_length_eq_zero (by simpa using hlen.symm)
    subst this
    refine Calls.mono (Tryz.slices_Sort_string_none none 0 w1) ?_
    rintro e w2 ⟨rfl, e2⟩
    obtain rfl := e2.symm
    exact ⟨_, rfl, rfl, (Kp.refl none_ _).keeps0, _, rfl, none, 0, by simp [hlen], fun i hi => by simp at hi, (fun a e => by cases e), k1⟩
  · cases e
    have hH : Holds encStr w1 g 0 (all.map Prod.fst).toArray := holds_of_block hb (by
      rw [flat_str] at h4
      simpa using h4)
    have hgl : g < w1.heap.size := (Array.getElem?_eq_some_iff.1 hb).1
    have hcall := Tryz.slices_Sort_string g 0 c (all.map Prod.fst) w1 hH hgl (by simp; omega)
    rw [List.length_map] at hcall
    refine Calls.mono hcall ?_
    rintro e w2 ⟨rfl, n, os, rfl⟩
    have kk := kp_sorted (n := n) (os := os) (((all.map Prod.fst).mergeSort fun x y => decide (x ≤ y)).toArray) hb
    have KK : Kp none_ w (grow (putRow encStr (Sort.ahead w1 n) g 0 ((all.map Prod.fst).mergeSort fun x y => decide (x ≤ y)).toArray) os) := k1.then kk fun i hi e => by
      have e : i = g := e
      omega
    refine ⟨_, rfl, rfl, kk.keeps0, _, rfl, some ⟨g, 0, none⟩, c, by rw [hlen], ?_, fun a e => by cases e; exact hg, KK⟩
    have hl2 : ((all.map Prod.fst).mergeSort fun x y => decide (x ≤ y)).length = (all.map Prod.fst).length := List.length_mergeSort _
    have hrow := ownsRow_sorted (os := os) (n := n) (ss := all.map Prod.fst) hl2 (base := 0) (Nat.zero_le g) hb (cap := c) (by simpa using h1) h2 h3
    rw [hs] at hrow ⊢
    have hh := heap_sorted (n := n) (os := os) (l.map Prod.fst).toArray hb
    have : OwnRow (grow (putRow encStr (Sort.ahead w1 n) g 0 (l.map Prod.fst).toArray) os) (fun _ => True) 9 1 (.slice (some ⟨g, 0, none⟩) all.length c) (l.map Prod.fst).length (flatC strC (l.map Prod.fst)) := by
      refine ⟨by rw [flat_str]; simp, .inr ⟨g, c, _, by rw [hlen]; simp, trivial, hh, by simp; omega, h2, by simp [putCells, h3], ?_⟩⟩
      rw [Nat.mul_one, flat_str]
      exact take_putCells cur (l.map Prod.fst) (by simp; omega)
    exact rows_of strC_len (by omega) this
theorem c39 {w : World} {O : Nat → Prop} {b o : Nat} {S : List Ent} {ws : List Chg} (h : DR w O b o S ws) (ha : Asc Prod.fst (lastE S ws)) (hl : (lastE S ws).length ≤ 1000000) : Rets Tryz.prog 61 #[ptA b o] w fun v w' =>
    ∃ (q : Option Addr) (c : Nat), v = .slice q (lastE S ws).length c ∧ RowsAt w' 1 strC q ((lastE S ws).map Prod.fst) ∧ (∀ a, q = some a → w.heap.size ≤ a.block) ∧ Kp none_ w w' := by
  refine ent [_] Tryz.func61 ((vcTryz61 _ w _).mpr ?_)
  unfold VCTryz61
  refine bif_b (fun hh => by cases hh) (fun _ => ?_)
  simp only [ptr_some, ad3, Nat.add_zero]
  obtain ⟨m, e0, hm⟩ := h.now
  have h84 : Rets Tryz.prog 88 #[.map m] w fun v w' => v = .func (.func 97) #[] #[.pointer (some ⟨w.heap.size, 0, none⟩)] ∧ w'.cell? ⟨w.heap.size, 0, none⟩ = some (.map m) ∧ Kp none_ w w' := by
    refine ent [_] Tryz.func88 ((vcTryz88 _ w _).mpr ?_)
    unfold VCTryz88
    exact fun _ => ⟨_, rfl, rfl, (Cel.new w (.map m) 56).cell, (Kp.refl none_ _).alloc1 _⟩
  refine ⟨_, e0, h84.mono ?_⟩
  rintro v w1 ⟨rfl, e1, k1⟩
  refine ⟨_, rfl, k1.keeps0, (c83 e1 (hm.kp k1 fun _ _ => id) ha hl).mono ?_⟩
  rintro v w2 ⟨q, c, rfl, r, f, k2⟩
  exact ⟨_, _, _, rfl, k2.keeps0, _, rfl, q, c, rfl, r, fun a e => Nat.le_trans k1.size (f a e), k1.trans k2⟩
end Go.Proofs.YtlgkcbdpaffigaaGreat

namespace Go.Proofs.YtlgkcbdpaffigaaGreat
open Go Go.SX Go.Proofs
set_option maxRecDepth 100000
set_option linter.unusedVariables false
set_option linter.unusedSimpArgs false
theorem isGo90 : isGo Tryz.prog 66 = true := by kernel_rfl
theorem c90 {w : World} (c : Chg) (a : Addr) (id : Int) (h : w.cell? a = some (.int .i64 id)) : Rets Tryz.prog 66 #[chV c, .pointer (some a)] w fun v w' => v = .bool (c.fr == [] && c.id == id) ∧ Kp none_ w w' := by
  refine ent [_, _] Tryz.func66 ((vcTryz66 _ _ _ _ w _).mpr ?_)
  unfold VCTryz66
  have ka : Kp none_ w (w.alloc (.cells #[.string (ba c.fr), .string (ba c.tr), .int .i64 c.id] 100)) := (Kp.refl none_ _).alloc1 _
  rw [toL_ba, show ({ data := #[] } : ByteArray).toList = [] from toL_ba []]
  refine bif_b (fun hh => ?_) (fun hh _ => ⟨_, rfl, by rw [hh]; rfl, ka⟩)
  rw [ptr_some]
  exact ⟨_, ka.cell0 h, fun _ => ⟨_, rfl, by rw [hh]; rfl, ka⟩⟩
theorem c109 {w : World} {q : Option Addr} {cc : Nat} {l : List Chg} (hr : RowsAt w 3 chC q l) (hl : l.length ≤ 1000000) (a : Addr) (id : Int) (h : w.cell? a = some (.int .i64 id)) : Rets Tryz.prog 90 #[.slice q l.length cc, .func (.func 66) #[] #[.pointer (some a)]] w fun v w' => ∃ i : Int, v = .int .i64 i ∧ decide (i ≥ 0) = made l id ∧ Kp none_ w w' := by
  refine ent [_, _] Tryz.func90 ((vcTryz90 _ _ _ _ w _).mpr ?_)
  unfold VCTryz90
  refine ⟨fun i w' => ∃ j : Nat, i = j ∧ j ≤ l.length ∧ Kp none_ w w' ∧ ∀ x (hx : x < l.length), x < j → ((l[x]).fr == [] && (l[x]).id == id) = false, fun i _ => (l.length - i).toNat, ⟨0, rfl, by omega, Kp.refl _ _, fun x hx h => by omega⟩, ?_⟩
  rintro i w3 ⟨j, rfl, hj, k3, hn⟩
  refine bif_dec (fun h1 => ?_) (fun h1 => ⟨_, rfl, _, rfl, ?_, k3⟩)
  · have hjl : j < l.length := by omega
    refine ⟨⟨by omega, by omega⟩, (hr.kp0 k3).get hjl fun x _ hc => ⟨_, _, _, ⟨hc 0 _ rfl, hc 1 _ rfl, hc 2 _ rfl, trivial⟩, isGo90, (c90 l[j] a id (k3.cell0 h)).mono ?_⟩⟩
    rintro v w4 ⟨rfl, k4⟩
    refine ⟨_, rfl, k4.keeps0, bif_b (fun hh => ⟨_, rfl, _, rfl, ?_, k3.trans k4⟩) (fun hh => wr64 (by omega) ⟨⟨j + 1, by omega, by omega, k3.trans k4, fun x hk hxj => ?_⟩, by first | omega | (dsimp only; omega)⟩)⟩
    · have : made l id = true := by
        unfold made
        exact List.any_eq_true.2 ⟨_, List.getElem_mem hjl, hh⟩
      rw [this]
      exact decide_eq_true (by omega)
    · by_cases e : x = j
      · subst e; exact hh
      · exact hn x hk (by omega)
  · have : made l id = false := by
      unfold made
      rw [List.any_eq_false]
      intro x hx
      obtain ⟨k, hk, e⟩ := List.getElem_of_mem hx
      rw [← e, hn k hk (by omega)]
      decide
    rw [this]
    decide
theorem c89 {w : World} {q : Option Addr} {cc : Nat} {l : List Chg} (hr : RowsAt w 3 chC q l) (hl : l.length ≤ 1000000) (a : Addr) (id : Int) (h : w.cell? a = some (.int .i64 id)) : Rets Tryz.prog 65 #[.slice q l.length cc, .func (.func 66) #[] #[.pointer (some a)]] w fun v w' => v = .bool (made l id) ∧ Kp none_ w w' := by
  refine ent [_, _] Tryz.func65 ((vcTryz65 _ _ _ _ w _).mpr ?_)
  unfold VCTryz65
  refine (c109 hr hl a id h).mono ?_
  rintro v w1 ⟨i, rfl, e, k1⟩
  exact ⟨_, rfl, k1.keeps0, _, rfl, by rw [e], k1⟩
theorem c110 {w : World} {q : Option Addr} {cc : Nat} {l : List Int} (hr : RowsAt w 1 intC q l) (hl : l.length ≤ 1000000) (id : Int) : Rets Tryz.prog 91 #[.slice q l.length cc, .int .i64 id] w fun v w' => w' = w ∧ ∃ i : Int, v = .int .i64 i ∧ decide (i ≥ 0) = l.any (· == id) := by
  refine ent [_, _] Tryz.func91 ((vcTryz91 _ _ _ _ w _).mpr ?_)
  unfold VCTryz91
  refine ⟨fun i w' => ∃ j : Nat, i = j ∧ j ≤ l.length ∧ w' = w ∧ ∀ x (hx : x < l.length), x < j → l[x] ≠ id, fun i _ => (l.length - i).toNat, ⟨0, rfl, by omega, rfl, fun x hx h => by omega⟩, ?_⟩
  rintro i w3 ⟨j, rfl, hj, rfl, hn⟩
  refine bif_dec (fun h1 => ?_) (fun h1 => ⟨_, rfl, rfl, _, rfl, ?_⟩)
  · have hjl : j < l.length := by omega
    refine ⟨⟨by omega, by omega⟩, hr.get hjl fun x _ hc => ⟨_, by have := hc 0 _ rfl; rwa [cell_add0] at this, bif_eq (fun e => ⟨_, rfl, rfl, _, rfl, ?_⟩) (fun e => wr64 (by omega) ⟨⟨j + 1, by omega, by omega, rfl, fun x hk hxj => ?_⟩, by first | omega | (dsimp only; omega)⟩)⟩⟩
    · have : l.any (· == id) = true := List.any_eq_true.2 ⟨_, List.getElem_mem hjl, by simp [e]⟩
      rw [this]
      exact decide_eq_true (by omega)
    · by_cases ee : x = j
      · subst ee; exact fun h => e h.symm
      · exact hn x hk (by omega)
  · have : l.any (· == id) = false := by
      rw [List.any_eq_false]
      intro x hx
      obtain ⟨k, hk, e⟩ := List.getElem_of_mem hx
      rw [← e]
      simpa using hn k hk (by omega)
    rw [this]
    decide
/-- Whether a map has a number. -/
theorem c91 {w : World} {q : Option Addr} {cc : Nat} {l : List Int} (hr : RowsAt w 1 intC q l) (hl : l.length ≤ 1000000) (id : Int) : Rets Tryz.prog 67 #[.slice q l.length cc, .int .i64 id] w fun v w' => w' = w ∧ v = .bool (l.any (· == id)) := by
  refine ent [_, _] Tryz.func67 ((vcTryz67 _ _ _ _ w _).mpr ?_)
  unfold VCTryz67
  refine (c110 hr hl id).mono ?_
  rintro v wx ⟨e, i, rfl, e2⟩
  obtain rfl := e.symm
  exact ⟨_, rfl, (Kp.refl none_ _).keeps0, _, rfl, rfl, by rw [e2]⟩
theorem c93 (m : Option Nat) (w : World) : Rets Tryz.prog 69 #[.map m] w fun v w' => v = .func (.func 93) #[] #[.pointer (some ⟨w.heap.size, 0, none⟩)] ∧ w'.cell? ⟨w.heap.size, 0, none⟩ = some (.map m) ∧ Kp none_ w w' := by
  refine ent [_] Tryz.func69 ((vcTryz69 _ w _).mpr ?_)
  unfold VCTryz69
  exact fun _ => ⟨_, rfl, rfl, (Cel.new w (.map m) 56).cell, (Kp.refl none_ _).alloc1 _⟩
theorem c92 {w : World} {a : Addr} {m : Option Nat} {l : List Ent} (hc : w.cell? a = some (.map m)) (hm : MapO w m l) (hn : NK l) (hl : l.length ≤ 1000000) : Rets Tryz.prog 68 #[.func (.func 93) #[] #[.pointer (some a)]] w fun v w' =>
    ∃ (q : Option Addr) (c : Nat) (all : List Int), v = .slice q all.length c ∧ all.length = l.length ∧ (∀ id, all.any (· == id) = idIn l id) ∧ RowsAt w' 1 intC q all ∧ Kp none_ w w' := by
  refine ent [_] Tryz.func68 ((vcTryz68 _ w _).mpr ?_)
  unfold VCTryz68
  refine (c111 hc hm hn hl).mono ?_
  rintro v w1 ⟨q, c, all, rfl, hp, r, k1⟩
  refine ⟨_, _, _, rfl, k1.keeps0, _, rfl, q, c, all.map Prod.snd, by simp, by simp [hp.length_eq], fun id => ?_, rows_of intC_len (by omega) (by simpa using r), k1⟩
  unfold idIn
  rw [List.any_map, Bool.eq_iff_iff, List.any_eq_true, List.any_eq_true]
  exact ⟨fun ⟨x, h1, h2⟩ => ⟨x, hp.mem_iff.1 h1, h2⟩, fun ⟨x, h1, h2⟩ => ⟨x, hp.mem_iff.2 h1, h2⟩⟩
theorem c46 {w : World} {O : Nat → Prop} {b o : Nat} {S : List Ent} {ws : List Chg} (h : DR w O b o S ws) (hw : ws.length ≤ 1000000) (ha : Asc Prod.fst (lastE S ws)) (hl : (lastE S ws).length ≤ 1000000) (has : Asc Prod.fst S) (hls : S.length ≤ 1000000) (nu : Int) : Rets Tryz.prog 36 #[ptA b o, .int .i64 nu] w fun v w' =>
    v = .bool (made ws nu || (idIn (lastE S ws) nu || idIn S nu)) ∧ Kp none_ w w' := by
  refine ent [_, _] Tryz.func36 ((vcTryz36 _ _ w _).mpr ?_)
  unfold VCTryz36
  refine bif_b (fun hh => by cases hh) (fun _ => ?_)
  simp only [ptr_some, ad3, Nat.add_zero]
  have ka : Kp none_ w (w.alloc (.cells #[.int .i64 nu] 3)) := (Kp.refl none_ _).alloc1 _
  have Ca : Cel (w.alloc (.cells #[.int .i64 nu] 3)) w.heap.size (.int .i64 nu) := Cel.new _ _ _
  generalize w.alloc (.cells #[.int .i64 nu] 3) = W at *
  have hW := h.kp0 ka
  obtain ⟨q, c, e2, r2⟩ := hW.wait
  refine ⟨_, _, _, e2, fun _ => (c89 r2 hw ⟨w.heap.size, 0, none⟩ nu Ca.cell).mono ?_⟩
  rintro v w1 ⟨rfl, k1⟩
  have C1 := Ca.kp k1 id
  have K1 := ka.trans k1
  refine ⟨_, rfl, k1.keeps0, _, C1.cell, C1.frz, bif_b (fun hh _ => ⟨_, rfl, by rw [hh]; rfl, K1.drew⟩) (fun hh => ?_)⟩
  have kd : Kp none_ w1 w1.drew := Kp.drew1
  obtain ⟨m, e0, hm⟩ := (h.kp0 (K1.trans kd)).now
  refine ⟨_, e0, fun _ => (c93 m w1.drew).mono ?_⟩
  rintro v w2 ⟨rfl, f2, k2⟩
  have C2 := (C1.kp kd id).kp k2 id
  refine ⟨_, rfl, k2.keeps0, _, C2.cell, C2.frz, C2.cell, fun _ => (c92 f2 (hm.kp k2 fun _ _ => id) (asc_nk ha) hl).mono ?_⟩
  rintro v w3 ⟨q3, c3, all, rfl, al, aid, r3, k3⟩
  have C3 := C2.kp k3 id
  refine ⟨_, _, _, rfl, k3.keeps0, _, C3.cell, C3.frz, C3.cell, fun _ => (c91 r3 (by omega) nu).mono ?_⟩
  rintro v wx ⟨e, rfl⟩
  obtain rfl := e.symm
  have K3 := ((K1.trans kd).trans k2).trans k3
  rw [aid]
  refine ⟨_, rfl, (Kp.refl none_ _).keeps0, _, C3.cell, C3.frz, bif_b (fun h2 _ => ⟨_, rfl, by rw [hh, h2]; rfl, K3⟩) (fun h2 => ?_)⟩
  obtain ⟨m1, e1, hm1⟩ := (h.kp0 K3).safe
  refine ⟨_, e1, fun _ => (c93 m1 w3).mono ?_⟩
  rintro v w4 ⟨rfl, f4, k4⟩
  have C4 := C3.kp k4 id
  refine ⟨_, rfl, k4.keeps0, _, C4.cell, C4.frz, C4.cell, fun _ => (c92 f4 (hm1.kp k4 fun _ _ => id) (asc_nk has) hls).mono ?_⟩
  rintro v w5 ⟨q5, c5, all5, rfl, al5, aid5, r5, k5⟩
  have C5 := C4.kp k5 id
  refine ⟨_, _, _, rfl, k5.keeps0, _, C5.cell, C5.frz, C5.cell, fun _ => (c91 r5 (by omega) nu).mono ?_⟩
  rintro v wx ⟨e, rfl⟩
  obtain rfl := e.symm
  rw [aid5]
  exact ⟨_, rfl, (Kp.refl none_ _).keeps0, _, C5.cell, C5.frz, fun _ => ⟨_, rfl, by rw [hh, h2]; rfl, (K3.trans k4).trans k5⟩⟩
end Go.Proofs.YtlgkcbdpaffigaaGreat

namespace Go.Proofs.YtlgkcbdpaffigaaGreat
open Go Go.SX Go.Proofs
set_option maxRecDepth 100000
set_option linter.unusedVariables false
set_option linter.unusedSimpArgs false
/-- A map's copy. -/
theorem c82 {w : World} {m : Option Nat} {l : List Ent} (hm : MapO w m l) : Rets Tryz.prog 81 #[.map m] w fun v w' => ∃ m', v = .map m' ∧ MapO w' m' l ∧ (∀ r, m' = some r → w.heap.size ≤ r) ∧ Kp none_ w w' := by
  cases m with
  | none =>
    have : l = [] := hm
    subst this
    refine Calls.mono (Tryz.maps_Clone_nil w) ?_
    rintro e w' ⟨rfl, e2⟩
    obtain rfl := e2.symm
    exact ⟨_, rfl, none, rfl, rfl, (fun r e => by cases e), Kp.refl _ _⟩
  | some r =>
    obtain ⟨es, clock, hb, hs, hk, hg⟩ := hm
    refine Calls.mono (Tryz.maps_Clone r es clock w hb) ?_
    rintro e w' ⟨rfl, rfl⟩
    exact ⟨_, rfl, some w.heap.size, rfl, ⟨es, clock, by rw [alloc_get, if_pos rfl], hs, hk, hg⟩, fun r e => by cases e; exact Nat.le_refl _, (Kp.refl none_ _).alloc1 _⟩
/-- The program's directory, in the midst of a call: N what its map has. -/
def DRg (w : World) (O : Nat → Prop) (b o : Nat) (N S : List Ent) (ws : List Chg) : Prop :=
  ∃ (m0 m1 : Option Nat) (vw : Value) (own : Nat → Prop), Cs w b o [.map m0, .map m1, vw] ∧ O b ∧ MapO w m0 N ∧ MapO w m1 S ∧ (∀ r, m0 = some r → O r ∧ m1 ≠ some r) ∧ (∀ r, m1 = some r → O r) ∧ (∀ i, own i → O i ∧ i ≠ b ∧ m0 ≠ some i ∧ m1 ≠ some i) ∧ OwnRow w own 100 3 vw ws.length (flatC chC ws)
theorem DR.g {w : World} {O : Nat → Prop} {b o : Nat} {S : List Ent} {ws : List Chg} : DR w O b o S ws ↔ DRg w O b o (lastE S ws) S ws := Iff.rfl
theorem DRg.kp {S' O O' : Nat → Prop} {w w' : World} {b o : Nat} {N S : List Ent} {ws : List Chg} (h : DRg w O b o N S ws) (k : Kp S' w w') (hs : ∀ i, i < w.heap.size → O i → ¬ S' i ∧ O' i) : DRg w' O' b o N S ws := by
  obtain ⟨m0, m1, vw, own, h1, h2, h3, h4, h5, h6, h8, h9⟩ := h
  have hb := h1.lt (by simp)
  exact ⟨m0, m1, vw, fun i => own i ∧ i < w.heap.size, h1.kp k (hs b hb h2).1, (hs b hb h2).2, h3.kp k fun r e => (hs r (mapO_lt h3 r e) (h5 r e).1).1, h4.kp k fun r e => (hs r (mapO_lt h4 r e) (h6 r e)).1,
    fun r e => ⟨(hs r (mapO_lt h3 r e) (h5 r e).1).2, (h5 r e).2⟩, fun r e => (hs r (mapO_lt h4 r e) (h6 r e)).2, fun i hi => ⟨(hs i hi.2 (h8 i hi.1).1).2, (h8 i hi.1).2⟩, (h9.mono (own' := fun i => own i ∧ i < w.heap.size) fun i hi hl => ⟨hi, hl⟩).kp k fun g n cap _ hg => (hs g hg.2 (h8 g hg.1).1).1⟩
theorem DRg.mono {O O' : Nat → Prop} {w : World} {b o : Nat} {N S : List Ent} {ws : List Chg} (h : DRg w O b o N S ws) (hs : ∀ i, i < w.heap.size → O i → O' i) : DRg w O' b o N S ws := h.kp (Kp.refl none_ w) fun i hl hi => ⟨id, hs i hl hi⟩
theorem DRg.kp0 {O : Nat → Prop} {w w' : World} {b o : Nat} {N S : List Ent} {ws : List Chg} (h : DRg w O b o N S ws) (k : Kp none_ w w') : DRg w' O b o N S ws := h.kp k fun i _ hi => ⟨id, hi⟩
theorem c38g {w : World} {O : Nat → Prop} {b o : Nat} {N S : List Ent} {ws : List Chg} (h : DRg w O b o N S ws) : Rets Tryz.prog 52 #[ptA b o] w fun v w' => v = .tuple #[] ∧ DR w' (fun i => O i ∨ w.heap.size ≤ i) b o N [] ∧ Kp O w w' ∧ Nb b o 3 w w' := by
  refine ent [_] Tryz.func52 ((vcTryz52 _ w _).mpr ?_)
  unfold VCTryz52
  refine bif_not (fun _ => ?_) (fun hh => by cases hh)
  obtain ⟨m0, m1, vw, own, h1, h2, h3, h4, h5, h6, h8, h9⟩ := h
  have hb := h1.lt (by simp)
  simp only [ptr_some, ad3, Nat.add_zero]
  refine ⟨_, h1.get 0 rfl, (c82 h3).mono ?_⟩
  rintro v w1 ⟨m', rfl, hm', hf, k1⟩
  have c1 := h1.kp0 k1
  have z1 := k1.size
  obtain ⟨g1, g2⟩ := c1.slot 1 (by simp)
  have c2 := c1.set 1 (.map m')
  obtain ⟨g3, g4⟩ := c2.slot 2 (by simp)
  have c3 := c2.set 2 (.slice none 0 0)
  have kk : Kp (one_ b) w1 ((w1.setCell ⟨b, o + 1, none⟩ (.map m')).setCell ⟨b, o + 2, none⟩ (.slice none 0 0)) := (kp_set _ _ _ _).trans (kp_set _ _ _ _)
  refine ⟨_, rfl, k1.keeps0, g1, g2, g3, g4, _, rfl, rfl, ⟨m0, m', _, fun _ => False, by simpa using c3, .inl h2, ?_, ?_, fun r e => ⟨.inl (h5 r e).1, fun e' => ?_⟩, fun r e => .inr (hf r e), fun i hi => hi.elim, OwnRow.nil _ _ _ _⟩, ?_, ?_⟩
  · exact (h3.kp k1 fun _ _ => id).kp kk fun r e => mapO_ne h3 (h1.get 0 rfl) r e
  · exact hm'.kp kk fun r e => by have := hf r e; show ¬ r = b; omega
  · have := hf r e'
    have := mapO_lt h3 r e
    omega
  · exact k1.wide.trans (kk.mono fun i _ hi => by have hi : i = b := hi; rw [hi]; exact h2)
  · exact (Nb.of_kp k1 hb id).trans ((Nb.set _ (i := 1) (by omega) _).trans (Nb.set _ (i := 2) (by omega) _))
theorem c38 {w : World} {O : Nat → Prop} {b o : Nat} {S : List Ent} {ws : List Chg} (h : DR w O b o S ws) : Rets Tryz.prog 52 #[ptA b o] w fun v w' => v = .tuple #[] ∧ DR w' (fun i => O i ∨ w.heap.size ≤ i) b o (lastE S ws) [] ∧ Kp O w w' ∧ Nb b o 3 w w' := c38g (DR.g.1 h)
theorem look_snoc {done : List Ent} {e : Ent} (h : NK (done ++ [e])) (t : List UInt8) : lookE (done ++ [e]) t = if t = e.1 then some e.2 else lookE done t := by
  have hd : NK done := by
    unfold NK at h ⊢
    rw [List.map_append] at h
    exact (List.nodup_append.1 h).1
  by_cases ht : t = e.1
  · rw [if_pos ht, ht]
    exact (lookE_nk h).2 (by simp)
  · rw [if_neg ht]
    cases hl : lookE done t with
    | some j => exact (lookE_nk h).2 (List.mem_append_left _ ((lookE_nk hd).1 hl))
    | none =>
      cases hl' : lookE (done ++ [e]) t with
      | none => rfl
      | some j =>
        rcases List.mem_append.1 ((lookE_nk h).1 hl') with hh | hh
        · rw [(lookE_nk hd).2 hh] at hl; cases hl
        · rw [List.mem_singleton] at hh
          rw [← hh] at ht
          exact absurd rfl ht
/-- A map is copied into one that is empty. -/
theorem c85 {w : World} {r : Nat} {m : Option Nat} {l : List Ent} (hr : MapE w r []) (hm : MapO w m l) (hn : NK l) (hne : m ≠ some r) : Rets Tryz.prog 84 #[.map (some r), .map m] w fun v w' => v = .tuple #[] ∧ MapE w' r l ∧ Kp (one_ r) w w' := by
  refine ent [_, _] Tryz.func84 ((vcTryz84 _ _ w _).mpr ?_)
  unfold VCTryz84
  refine range_map hm hn und76 fun w1 i1 k1 z1 => ⟨_, rfl, k1.keeps0, ?_⟩
  have hrl := hr.lt
  have hmq : ∀ x, m = some x → x ≠ w.heap.size := fun x e => by have := mapO_lt hm x e; omega
  refine ⟨fun w' => ∃ done left : List Ent, (done ++ left).Perm l ∧ IterE w' w.heap.size m left ∧ MapE w' r done ∧ Kp (one_ r) w w' ∧ w.heap.size < w'.heap.size, fun w' => leftN w' w.heap.size, ⟨[], l, List.Perm.refl _, i1, hr.kp k1 id, k1.wide, by omega⟩, ?_⟩
  rintro w2 ⟨done, left, hp, i2, r2, k2, z2⟩
  have hl2 := i2.left
  refine next_map i2 hmq 0 (fun e => ?_) fun e L' w3 hL i3 k3 => ?_
  · subst e
    have hp : done.Perm l := by simpa using hp
    have hnd : NK done := (hp.symm.map Prod.fst).nodup_iff.1 hn
    exact .inl ⟨rfl, (Kp.refl none_ _).keeps0, _, rfl, rfl, r2.perm hnd hp, k2⟩
  · refine .inr ⟨_, _, rfl, k3.keeps0, entry_map i3 ⟨_, _, rfl, (Kp.refl none_ _).keeps0, ?_⟩⟩
    have hp' : (done ++ e :: L').Perm l := (List.Perm.append_left done hL).symm.trans hp
    have hnk : NK (done ++ [e]) := by
      have h1 : NK (done ++ e :: L') := (hp'.symm.map Prod.fst).nodup_iff.1 hn
      unfold NK at h1 ⊢
      rw [show done ++ e :: L' = (done ++ [e]) ++ L' by simp, List.map_append] at h1
      exact (List.nodup_append.1 h1).1
    have z3 := k3.size
    have r3 := r2.kp k3 (by show ¬ r = w.heap.size; omega)
    refine r3.put und76 u9s (ba e.1) e.2 (l' := done ++ [e]) (by rw [strL_ba, look_snoc hnk, if_pos rfl]) (fun t hne => by rw [strL_ba] at hne; rw [look_snoc hnk, if_neg hne]) fun w4 r4 k4 => ⟨k4.keeps0, ?_⟩
    have z4 := k4.size
    have i4 := i3.on.kp k4 (by show ¬ w.heap.size = r; omega) fun x e hx => hne (by rw [e]; congr 1)
    refine ⟨⟨done ++ [e], L', by simpa using hp', i4, r4, ?_, by omega⟩, ?_⟩
    · exact (k2.then k3 fun i hi hh => by have hh : i = w.heap.size := hh; omega).trans k4
    · show leftN w4 w.heap.size < leftN w2 w.heap.size
      rw [i4.left, hl2, hL.length_eq]
      simp
end Go.Proofs.YtlgkcbdpaffigaaGreat

namespace Go.Proofs.YtlgkcbdpaffigaaGreat
open Go Go.SX Go.Proofs
set_option maxRecDepth 100000
set_option linter.unusedVariables false
def VCTryz7 (p0 : Int) (w : World) (R : Ending → World → Prop) : Prop :=
Known
  (w.alloc
   (Obj.cells
    #[Value.slice none (0 : Nat) (0 : Nat), Value.map none, Value.map none, Value.slice none (0 : Nat) (0 : Nat), Value.int IntKind.i64 (maxI (0 : Int) (minI (65536 : Int) p0)), Value.int IntKind.i64 (0 : Int),
     Value.int IntKind.i64 (0 : Int), Value.slice none (0 : Nat) (0 : Nat)] (61 : Nat)))
  [(w.heap.size,
    [((0 : Nat), Value.slice none (0 : Nat) (0 : Nat)), ((1 : Nat), Value.map none), ((2 : Nat), Value.map none), ((3 : Nat), Value.slice none (0 : Nat) (0 : Nat)),
     ((4 : Nat), Value.int IntKind.i64 (maxI (0 : Int) (minI (65536 : Int) p0))), ((5 : Nat), Value.int IntKind.i64 (0 : Int)), ((6 : Nat), Value.int IntKind.i64 (0 : Int)),
     ((7 : Nat), Value.slice none (0 : Nat) (0 : Nat))])] →
 R (Ending.returned (Value.pointer (some { block := w.heap.size, off := (0 : Nat) })))
  (w.alloc
   (Obj.cells
    #[Value.slice none (0 : Nat) (0 : Nat), Value.map none, Value.map none, Value.slice none (0 : Nat) (0 : Nat), Value.int IntKind.i64 (maxI (0 : Int) (minI (65536 : Int) p0)), Value.int IntKind.i64 (0 : Int),
     Value.int IntKind.i64 (0 : Int), Value.slice none (0 : Nat) (0 : Nat)] (61 : Nat)))
theorem vcTryz7 (p0 : Int) (w : World) (R : Ending → World → Prop) : SX.vcFn Tryz.prog [] Tryz.f7 [.v (.int .i64 p0)] [] w R = VCTryz7 p0 w R := by kernel_rfl
def VCTryz13 (p0 : Option Addr) (p1 : Option Addr) (n1 c1 : Nat) (w : World) (R : Ending → World → Prop) : Prop :=
bif !p0.isNone then
 Rets Tryz.prog (38 : Nat) #[Value.slice p1 n1 c1] w fun (v0 : Value) (w1 : World) =>
  ∃ (q2 : Option Addr),
   ∃ (n3 : Nat),
    ∃ (n4 : Nat),
     v0 = Value.slice q2 n3 n4 ∧
      Keeps w w1 [] ∧
       SX.Ptr p0 fun (a5 : Addr) =>
        (∃ (v6 : Value), w1.cell? ((a5.add (7 : Nat)).add (0 : Nat)) = some v6) ∧
         w1.frozen? ((a5.add (7 : Nat)).add (0 : Nat)) = false ∧ R (Ending.returned (Value.tuple #[])) (w1.setCell ((a5.add (7 : Nat)).add (0 : Nat)) (Value.slice q2 n3 n4))
else R (Ending.returned (Value.tuple #[])) w
theorem vcTryz13 (p0 : Option Addr) (p1 : Option Addr) (n1 c1 : Nat) (w : World) (R : Ending → World → Prop) : SX.vcFn Tryz.prog [] Tryz.f13 [.v (.pointer p0), .v (.slice p1 n1 c1)] [] w R = VCTryz13 p0 p1 n1 c1 w R := by kernel_rfl
def VCTryz15 (p0 : Option Addr) (p1 : ByteArray) (w : World) (R : Ending → World → Prop) : Prop :=
Rets Tryz.prog (40 : Nat) #[Value.pointer p0] w fun (v0 : Value) (w1 : World) =>
 ∃ (i2 : Int),
  v0 = Value.int IntKind.i64 i2 ∧
   Keeps w w1 [] ∧
    bif i2 != (0 : Int) then R (Ending.returned (Value.tuple #[Value.int IntKind.i64 (0 : Int), Value.int IntKind.i64 i2])) w1
    else
     SX.Ptr p0 fun (a3 : Addr) =>
      ∃ (q4 : Option Addr),
       ∃ (n5 : Nat),
        ∃ (n6 : Nat),
         w1.cell? (a3.add (0 : Nat)) = some (Value.slice q4 n5 n6) ∧
          bif decide ((↑n5 : Int) ≥ (1000 : Int)) then R (Ending.returned (Value.tuple #[Value.int IntKind.i64 (0 : Int), Value.int IntKind.i64 (14 : Int)])) w1
          else
           SX.Ptr p0 fun (a7 : Addr) =>
            Rets Tryz.prog (41 : Nat) #[Value.pointer (some (a7.add (1 : Nat))), Value.string p1, Value.int IntKind.i64 (↑n5 : Int)] w1 fun (v8 : Value) (w9 : World) =>
             ∃ (i10 : Int),
              v8 = Value.int IntKind.i64 i10 ∧
               Keeps w1 w9 [] ∧
                bif i10 != (0 : Int) then R (Ending.returned (Value.tuple #[Value.int IntKind.i64 (0 : Int), Value.int IntKind.i64 i10])) w9
                else
                 SX.Ptr p0 fun (a11 : Addr) =>
                  ∃ (q12 : Option Addr),
                   ∃ (n13 : Nat),
                    ∃ (n14 : Nat),
                     w9.cell? (a11.add (0 : Nat)) = some (Value.slice q12 n13 n14) ∧
                      Runs Tryz.prog
                       (Builtin.append_ #[(55 : Nat), (55 : Nat)] (55 : Nat)
                        #[Value.slice q12 n13 n14,
                         Value.slice
                          (some
                           {
                            block :=
                             (w9.alloc (Obj.cells #[Value.slice none (0 : Nat) (0 : Nat), Value.slice none (0 : Nat) (0 : Nat), Value.slice none (0 : Nat) (0 : Nat)] (86 : Nat))).heap.size,
                            off := (0 : Nat) })
                          (1 : Nat) (1 : Nat)])
                       ((w9.alloc (Obj.cells #[Value.slice none (0 : Nat) (0 : Nat), Value.slice none (0 : Nat) (0 : Nat), Value.slice none (0 : Nat) (0 : Nat)] (86 : Nat))).alloc
                        (Obj.cells #[Value.pointer (some { block := w9.heap.size, off := (0 : Nat) })] (80 : Nat)))
                       fun (v15 : Value) (w16 : World) =>
                       ∃ (q17 : Option Addr),
                        ∃ (n18 : Nat),
                         ∃ (n19 : Nat),
                          v15 = Value.slice q17 n18 n19 ∧
                           Keeps
                             ((w9.alloc (Obj.cells #[Value.slice none (0 : Nat) (0 : Nat), Value.slice none (0 : Nat) (0 : Nat), Value.slice none (0 : Nat) (0 : Nat)] (86 : Nat))).alloc
                              (Obj.cells #[Value.pointer (some { block := w9.heap.size, off := (0 : Nat) })] (80 : Nat)))
                             w16 [w9.heap.size] ∧
                            SX.Ptr p0 fun (a20 : Addr) =>
                             (∃ (v21 : Value), w16.cell? ((a20.add (0 : Nat)).add (0 : Nat)) = some v21) ∧
                              w16.frozen? ((a20.add (0 : Nat)).add (0 : Nat)) = false ∧
                               Apart ((a20.add (0 : Nat)).add (0 : Nat)) w9.heap.size [(0 : Nat), (1 : Nat), (2 : Nat)] ∧
                                (Known (w16.setCell ((a20.add (0 : Nat)).add (0 : Nat)) (Value.slice q17 n18 n19))
                                  [(w9.heap.size,
                                   [((0 : Nat), Value.slice none (0 : Nat) (0 : Nat)), ((1 : Nat), Value.slice none (0 : Nat) (0 : Nat)),
                                    ((2 : Nat), Value.slice none (0 : Nat) (0 : Nat))])] →
                                 R (Ending.returned (Value.tuple #[Value.int IntKind.i64 (↑n5 : Int), Value.int IntKind.i64 (0 : Int)]))
                                  (w16.setCell ((a20.add (0 : Nat)).add (0 : Nat)) (Value.slice q17 n18 n19)))
theorem vcTryz15 (p0 : Option Addr) (p1 : ByteArray) (w : World) (R : Ending → World → Prop) : SX.vcFn Tryz.prog [] Tryz.f15 [.v (.pointer p0), .v (.string p1)] [] w R = VCTryz15 p0 p1 w R := by kernel_rfl
def VCTryz16 (p0 : Option Addr) (p1 : Int) (p2 : Int) (p3 : Option Addr) (n3 c3 : Nat) (w : World) (R : Ending → World → Prop) : Prop :=
Rets Tryz.prog (40 : Nat) #[Value.pointer p0] w fun (v0 : Value) (w1 : World) =>
 ∃ (i2 : Int),
  v0 = Value.int IntKind.i64 i2 ∧
   Keeps w w1 [] ∧
    bif i2 != (0 : Int) then R (Ending.returned (Value.int IntKind.i64 i2)) w1
    else
     Rets Tryz.prog (42 : Nat) #[Value.pointer p0, Value.int IntKind.i64 p1] w1 fun (v3 : Value) (w4 : World) =>
      ∃ (q5 : Option Addr),
       v3 = Value.pointer q5 ∧
        Keeps w1 w4 [] ∧
         Rets Tryz.prog (43 : Nat) #[Value.pointer q5, Value.int IntKind.i64 p2, Value.int IntKind.i64 (↑n3 : Int)] w4 fun (v6 : Value) (w7 : World) =>
          ∃ (i8 : Int),
           ∃ (t9 : Bool),
            v6 = Value.tuple #[Value.int IntKind.i64 i8, Value.bool t9] ∧
             Keeps w4 w7 [] ∧
              bif !t9 then R (Ending.returned (Value.int IntKind.i64 (1 : Int))) w7
              else
               Rets Tryz.prog (37 : Nat) #[Value.pointer q5] w7.drew fun (v10 : Value) (w11 : World) =>
                ∃ (i12 : Int),
                 v10 = Value.int IntKind.i64 i12 ∧
                  Keeps w7.drew w11 [] ∧
                   bif decide (i8 > i12) then
                    SX.Ptr p0 fun (a13 : Addr) =>
                     ∃ (i14 : Int),
                      w11.cell? (a13.add (4 : Nat)) = some (Value.int IntKind.i64 i14) ∧
                       Rets Tryz.prog (37 : Nat) #[Value.pointer q5] w11 fun (v15 : Value) (w16 : World) =>
                        ∃ (i17 : Int),
                         v15 = Value.int IntKind.i64 i17 ∧
                          Keeps w11 w16 [] ∧
                           w16.cell? (a13.add (4 : Nat)) = some (Value.int IntKind.i64 i14) ∧
                            Wr IntKind.i64 (i8 - i17) fun (i18 : Int) =>
                             Rets Tryz.prog (11 : Nat) #[Value.pointer p0] w16 fun (v19 : Value) (w20 : World) =>
                              ∃ (i21 : Int),
                               v19 = Value.int IntKind.i64 i21 ∧
                                Keeps w16 w20 [] ∧
                                 w20.cell? (a13.add (4 : Nat)) = some (Value.int IntKind.i64 i14) ∧
                                  Wr IntKind.i64 (i14 - i21) fun (i22 : Int) =>
                                   bif decide (i18 > i22) then
                                    SX.Ptr p0 fun (a23 : Addr) =>
                                     ∃ (i24 : Int),
                                      w20.cell? (a23.add (6 : Nat)) = some (Value.int IntKind.i64 i24) ∧
                                       Wr IntKind.i64 (i24 + (1 : Int)) fun (i25 : Int) =>
                                        SX.Ptr p0 fun (a26 : Addr) =>
                                         (∃ (v27 : Value), w20.cell? ((a26.add (6 : Nat)).add (0 : Nat)) = some v27) ∧
                                          w20.frozen? ((a26.add (6 : Nat)).add (0 : Nat)) = false ∧
                                           R (Ending.returned (Value.int IntKind.i64 (9 : Int))) (w20.setCell ((a26.add (6 : Nat)).add (0 : Nat)) (Value.int IntKind.i64 i25))
                                   else
                                    Rets Tryz.prog (44 : Nat) #[Value.pointer q5, Value.int IntKind.i64 p2, Value.slice p3 n3 c3] w20 fun (v28 : Value) (w29 : World) =>
                                     ∃ (i30 : Int), v28 = Value.int IntKind.i64 i30 ∧ Keeps w20 w29 [] ∧ R (Ending.returned (Value.int IntKind.i64 i30)) w29
                   else
                    Rets Tryz.prog (44 : Nat) #[Value.pointer q5, Value.int IntKind.i64 p2, Value.slice p3 n3 c3] w11 fun (v31 : Value) (w32 : World) =>
                     ∃ (i33 : Int), v31 = Value.int IntKind.i64 i33 ∧ Keeps w11 w32 [] ∧ R (Ending.returned (Value.int IntKind.i64 i33)) w32
theorem vcTryz16 (p0 : Option Addr) (p1 : Int) (p2 : Int) (p3 : Option Addr) (n3 c3 : Nat) (w : World) (R : Ending → World → Prop) : SX.vcFn Tryz.prog [] Tryz.f16 [.v (.pointer p0), .v (.int .i64 p1), .v (.int .i64 p2), .v (.slice p3 n3 c3)] [] w R = VCTryz16 p0 p1 p2 p3 n3 c3 w R := by kernel_rfl
def VCTryz19 (p0 : Option Addr) (p1 : Int) (w : World) (R : Ending → World → Prop) : Prop :=
Rets Tryz.prog (40 : Nat) #[Value.pointer p0] w fun (v0 : Value) (w1 : World) =>
 ∃ (i2 : Int),
  v0 = Value.int IntKind.i64 i2 ∧
   Keeps w w1 [] ∧
    bif i2 != (0 : Int) then R (Ending.returned (Value.int IntKind.i64 i2)) w1
    else
     Rets Tryz.prog (42 : Nat) #[Value.pointer p0, Value.int IntKind.i64 p1] w1 fun (v3 : Value) (w4 : World) =>
      ∃ (q5 : Option Addr),
       v3 = Value.pointer q5 ∧
        Keeps w1 w4 [] ∧
         bif q5.isNone then R (Ending.returned (Value.int IntKind.i64 (1 : Int))) w4
         else Rets Tryz.prog (50 : Nat) #[Value.pointer q5] w4 fun (v6 : Value) (w7 : World) => v6 = Value.tuple #[] ∧ Keeps w4 w7 [] ∧ R (Ending.returned (Value.int IntKind.i64 (0 : Int))) w7
theorem vcTryz19 (p0 : Option Addr) (p1 : Int) (w : World) (R : Ending → World → Prop) : SX.vcFn Tryz.prog [] Tryz.f19 [.v (.pointer p0), .v (.int .i64 p1)] [] w R = VCTryz19 p0 p1 w R := by kernel_rfl
def VCTryz21 (p0 : Option Addr) (w : World) (R : Ending → World → Prop) : Prop :=
Rets Tryz.prog (40 : Nat) #[Value.pointer p0] w fun (v0 : Value) (w1 : World) =>
 ∃ (i2 : Int),
  v0 = Value.int IntKind.i64 i2 ∧
   Keeps w w1 [] ∧
    bif i2 == (0 : Int) then
     SX.Ptr p0 fun (a3 : Addr) =>
      Rets Tryz.prog (52 : Nat) #[Value.pointer (some (a3.add (1 : Nat)))] w1 fun (v4 : Value) (w5 : World) => v4 = Value.tuple #[] ∧ Keeps w1 w5 [] ∧ R (Ending.returned (Value.int IntKind.i64 i2)) w5
    else R (Ending.returned (Value.int IntKind.i64 i2)) w1
theorem vcTryz21 (p0 : Option Addr) (w : World) (R : Ending → World → Prop) : SX.vcFn Tryz.prog [] Tryz.f21 [.v (.pointer p0)] [] w R = VCTryz21 p0 w R := by kernel_rfl
def VCTryz31 (p0 : Option Addr) (p1 : ByteArray) (w : World) (R : Ending → World → Prop) : Prop :=
bif p0.isNone then R (Ending.returned (Value.tuple #[Value.int IntKind.i64 (0 : Int), Value.int IntKind.i64 (1 : Int)])) w
else
 SX.Ptr p0 fun (a0 : Addr) =>
  Rets Tryz.prog (63 : Nat) #[Value.pointer (some (a0.add (1 : Nat))), Value.string p1] w fun (v1 : Value) (w2 : World) =>
   ∃ (i3 : Int),
    ∃ (t4 : Bool),
     v1 = Value.tuple #[Value.int IntKind.i64 i3, Value.bool t4] ∧
      Keeps w w2 [] ∧
       bif !t4 then R (Ending.returned (Value.tuple #[Value.int IntKind.i64 (0 : Int), Value.int IntKind.i64 (7 : Int)])) w2
       else R (Ending.returned (Value.tuple #[Value.int IntKind.i64 i3, Value.int IntKind.i64 (0 : Int)])) w2
theorem vcTryz31 (p0 : Option Addr) (p1 : ByteArray) (w : World) (R : Ending → World → Prop) : SX.vcFn Tryz.prog [] Tryz.f31 [.v (.pointer p0), .v (.string p1)] [] w R = VCTryz31 p0 p1 w R := by kernel_rfl
def VCTryz33 (p0 : Option Addr) (p1 : Int) (p2 : Int) (p3 : Int) (w : World) (R : Ending → World → Prop) : Prop :=
Rets Tryz.prog (42 : Nat) #[Value.pointer p0, Value.int IntKind.i64 p1] w fun (v0 : Value) (w1 : World) =>
 ∃ (q2 : Option Addr),
  v0 = Value.pointer q2 ∧
   Keeps w w1 [] ∧
    Rets Tryz.prog (64 : Nat) #[Value.pointer q2, Value.int IntKind.i64 p2, Value.int IntKind.i64 p3] w1 fun (v3 : Value) (w4 : World) =>
     ∃ (q5 : Option Addr),
      ∃ (n6 : Nat),
       ∃ (n7 : Nat), ∃ (i8 : Int), v3 = Value.tuple #[Value.slice q5 n6 n7, Value.int IntKind.i64 i8] ∧ Keeps w1 w4 [] ∧ R (Ending.returned (Value.tuple #[Value.slice q5 n6 n7, Value.int IntKind.i64 i8])) w4
theorem vcTryz33 (p0 : Option Addr) (p1 : Int) (p2 : Int) (p3 : Int) (w : World) (R : Ending → World → Prop) : SX.vcFn Tryz.prog [] Tryz.f33 [.v (.pointer p0), .v (.int .i64 p1), .v (.int .i64 p2), .v (.int .i64 p3)] [] w R = VCTryz33 p0 p1 p2 p3 w R := by kernel_rfl
def VCTryz12 (p0 : Option Addr) (w : World) (R : Ending → World → Prop) : Prop :=
bif p0.isNone then R (Ending.returned (Value.tuple #[Value.int IntKind.i64 (0 : Int), Value.int IntKind.i64 (0 : Int)])) w
else
 SX.Ptr p0 fun (a0 : Addr) =>
  ∃ (i1 : Int),
   w.drew.cell? (a0.add (5 : Nat)) = some (Value.int IntKind.i64 i1) ∧
    SX.Ptr p0 fun (a2 : Addr) => ∃ (i3 : Int), w.drew.cell? (a2.add (6 : Nat)) = some (Value.int IntKind.i64 i3) ∧ R (Ending.returned (Value.tuple #[Value.int IntKind.i64 i1, Value.int IntKind.i64 i3])) w.drew
theorem vcTryz12 (p0 : Option Addr) (w : World) (R : Ending → World → Prop) : SX.vcFn Tryz.prog [] Tryz.f12 [.v (.pointer p0)] [] w R = VCTryz12 p0 w R := by kernel_rfl
def VCTryz23 (p0 : Option Addr) (p1 : ByteArray) (p2 : ByteArray) (w : World) (R : Ending → World → Prop) : Prop :=
Rets Tryz.prog (40 : Nat) #[Value.pointer p0] w fun (v0 : Value) (w1 : World) =>
 ∃ (i2 : Int),
  v0 = Value.int IntKind.i64 i2 ∧
   Keeps w w1 [] ∧
    bif i2 != (0 : Int) then R (Ending.returned (Value.int IntKind.i64 i2)) w1
    else
     SX.Ptr p0 fun (a3 : Addr) =>
      Rets Tryz.prog (53 : Nat) #[Value.pointer (some (a3.add (1 : Nat))), Value.string p1, Value.string p2] w1 fun (v4 : Value) (w5 : World) =>
       ∃ (i6 : Int), v4 = Value.int IntKind.i64 i6 ∧ Keeps w1 w5 [] ∧ R (Ending.returned (Value.int IntKind.i64 i6)) w5
theorem vcTryz23 (p0 : Option Addr) (p1 : ByteArray) (p2 : ByteArray) (w : World) (R : Ending → World → Prop) : SX.vcFn Tryz.prog [] Tryz.f23 [.v (.pointer p0), .v (.string p1), .v (.string p2)] [] w R = VCTryz23 p0 p1 p2 w R := by kernel_rfl
def VCTryz25 (p0 : Option Addr) (p1 : ByteArray) (w : World) (R : Ending → World → Prop) : Prop :=
Rets Tryz.prog (40 : Nat) #[Value.pointer p0] w fun (v0 : Value) (w1 : World) =>
 ∃ (i2 : Int),
  v0 = Value.int IntKind.i64 i2 ∧
   Keeps w w1 [] ∧
    bif i2 != (0 : Int) then R (Ending.returned (Value.int IntKind.i64 i2)) w1
    else
     SX.Ptr p0 fun (a3 : Addr) =>
      Rets Tryz.prog (55 : Nat) #[Value.pointer (some (a3.add (1 : Nat))), Value.string p1] w1 fun (v4 : Value) (w5 : World) =>
       ∃ (i6 : Int), v4 = Value.int IntKind.i64 i6 ∧ Keeps w1 w5 [] ∧ R (Ending.returned (Value.int IntKind.i64 i6)) w5
theorem vcTryz25 (p0 : Option Addr) (p1 : ByteArray) (w : World) (R : Ending → World → Prop) : SX.vcFn Tryz.prog [] Tryz.f25 [.v (.pointer p0), .v (.string p1)] [] w R = VCTryz25 p0 p1 w R := by kernel_rfl
def VCTryz11 (p0 : Option Addr) (w : World) (R : Ending → World → Prop) : Prop :=
bif p0.isNone then R (Ending.returned (Value.int IntKind.i64 (0 : Int))) w
else
 SX.Ptr p0 fun (a0 : Addr) =>
  ∃ (q1 : Option Addr),
   ∃ (n2 : Nat),
    ∃ (n3 : Nat),
     w.cell? (a0.add (0 : Nat)) = some (Value.slice q1 n2 n3) ∧
      ∃ (I4 : Int → Int → World → Prop),
       ∃ (I5 : Int → Int → World → Nat),
        I4 (0 : Int) (0 : Int) w ∧
         ∀ (i6 i7 : Int) (w8 : World),
          I4 i6 i7 w8 →
           bif decide (i6 < (↑n2 : Int)) then
            ((0 : Int) ≤ i6 ∧ i6 < (↑n2 : Int)) ∧
             SX.Ptr q1 fun (a9 : Addr) =>
              ∃ (q10 : Option Addr),
               w8.cell? (a9.add (i6.toNat * (1 : Nat))) = some (Value.pointer q10) ∧
                SX.Ptr p0 fun (a11 : Addr) =>
                 Rets Tryz.prog (36 : Nat) #[Value.pointer (some (a11.add (1 : Nat))), Value.int IntKind.i64 i6] w8 fun (v12 : Value) (w13 : World) =>
                  ∃ (t14 : Bool),
                   v12 = Value.bool t14 ∧
                    Keeps w8 w13 [] ∧
                     bif t14 then
                      Rets Tryz.prog (37 : Nat) #[Value.pointer q10] w13 fun (v15 : Value) (w16 : World) =>
                       ∃ (i17 : Int),
                        v15 = Value.int IntKind.i64 i17 ∧
                         Keeps w13 w16 [] ∧ Wr IntKind.i64 (i7 + i17) fun (i18 : Int) => Wr IntKind.i64 (i6 + (1 : Int)) fun (i19 : Int) => I4 i19 i18 w16 ∧ I5 i19 i18 w16 < I5 i6 i7 w8
                     else Wr IntKind.i64 (i6 + (1 : Int)) fun (i20 : Int) => I4 i20 i7 w13 ∧ I5 i20 i7 w13 < I5 i6 i7 w8
           else R (Ending.returned (Value.int IntKind.i64 i7)) w8
theorem vcTryz11 (p0 : Option Addr) (w : World) (R : Ending → World → Prop) : SX.vcFn Tryz.prog [(5, ⟨[(13, .int .i64), (3, .int .i64)], [0, 11, 12], []⟩)] Tryz.f11 [.v (.pointer p0)] [] w R = VCTryz11 p0 w R := by kernel_rfl
def VCTryz40 (p0 : Option Addr) (w : World) (R : Ending → World → Prop) : Prop :=
bif p0.isNone then R (Ending.returned (Value.int IntKind.i64 (1 : Int))) w
else
 SX.Ptr p0 fun (a0 : Addr) =>
  ∃ (i1 : Int),
   w.cell? (a0.add (5 : Nat)) = some (Value.int IntKind.i64 i1) ∧
    Wr IntKind.i64 (i1 + (1 : Int)) fun (i2 : Int) =>
     SX.Ptr p0 fun (a3 : Addr) =>
      (∃ (v4 : Value), w.cell? ((a3.add (5 : Nat)).add (0 : Nat)) = some v4) ∧
       w.frozen? ((a3.add (5 : Nat)).add (0 : Nat)) = false ∧
        SX.Ptr p0 fun (a5 : Addr) =>
         ∃ (q6 : Option Addr),
          ∃ (n7 : Nat),
           ∃ (n8 : Nat),
            (w.setCell ((a3.add (5 : Nat)).add (0 : Nat)) (Value.int IntKind.i64 i2)).cell? (a5.add (7 : Nat)) = some (Value.slice q6 n7 n8) ∧
             ∃ (I9 : Int → Int → World → Prop),
              ∃ (I10 : Int → Int → World → Nat),
               I9 (0 : Int) (0 : Int) (w.setCell ((a3.add (5 : Nat)).add (0 : Nat)) (Value.int IntKind.i64 i2)) ∧
                ∀ (i11 i12 : Int) (w13 : World),
                 I9 i11 i12 w13 →
                  bif decide (i11 < (↑n7 : Int)) then
                   ((0 : Int) ≤ i11 ∧ i11 < (↑n7 : Int)) ∧
                    SX.Ptr q6 fun (a14 : Addr) =>
                     ∃ (i15 : Int),
                      w13.cell? (a14.add (i11.toNat * (1 : Nat))) = some (Value.int IntKind.i64 i15) ∧
                       SX.Ptr p0 fun (a16 : Addr) =>
                        ∃ (i17 : Int),
                         w13.cell? (a16.add (5 : Nat)) = some (Value.int IntKind.i64 i17) ∧
                          bif i15 == i17 then
                           SX.Ptr p0 fun (a18 : Addr) =>
                            ∃ (i19 : Int),
                             w13.cell? (a18.add (6 : Nat)) = some (Value.int IntKind.i64 i19) ∧
                              Wr IntKind.i64 (i19 + (1 : Int)) fun (i20 : Int) =>
                               SX.Ptr p0 fun (a21 : Addr) =>
                                (∃ (v22 : Value), w13.cell? ((a21.add (6 : Nat)).add (0 : Nat)) = some v22) ∧
                                 w13.frozen? ((a21.add (6 : Nat)).add (0 : Nat)) = false ∧
                                  R (Ending.returned (Value.int IntKind.i64 (10 : Int))) (w13.setCell ((a21.add (6 : Nat)).add (0 : Nat)) (Value.int IntKind.i64 i20))
                          else Wr IntKind.i64 (i11 + (1 : Int)) fun (i23 : Int) => I9 i23 i12 w13 ∧ I10 i23 i12 w13 < I10 i11 i12 w13
                  else R (Ending.returned (Value.int IntKind.i64 i12)) w13
theorem vcTryz40 (p0 : Option Addr) (w : World) (R : Ending → World → Prop) : SX.vcFn Tryz.prog [(6, ⟨[(20, .int .i64), (3, .int .i64)], [0, 18, 19], []⟩)] Tryz.f40 [.v (.pointer p0)] [] w R = VCTryz40 p0 w R := by kernel_rfl
def VCTryz42 (p0 : Option Addr) (p1 : Int) (w : World) (R : Ending → World → Prop) : Prop :=
bif p0.isNone then R (Ending.returned (Value.pointer none)) w
else
 bif decide (p1 < (0 : Int)) then R (Ending.returned (Value.pointer none)) w
 else
  SX.Ptr p0 fun (a0 : Addr) =>
   ∃ (q1 : Option Addr),
    ∃ (n2 : Nat),
     ∃ (n3 : Nat),
      w.cell? (a0.add (0 : Nat)) = some (Value.slice q1 n2 n3) ∧
       bif decide (p1 ≥ (↑n2 : Int)) then R (Ending.returned (Value.pointer none)) w
       else
        SX.Ptr p0 fun (a4 : Addr) =>
         ∃ (q5 : Option Addr),
          ∃ (n6 : Nat),
           ∃ (n7 : Nat),
            w.cell? (a4.add (0 : Nat)) = some (Value.slice q5 n6 n7) ∧
             ((0 : Int) ≤ p1 ∧ p1 < (↑n6 : Int)) ∧
              SX.Ptr q5 fun (a8 : Addr) => ∃ (q9 : Option Addr), w.cell? (a8.add (p1.toNat * (1 : Nat))) = some (Value.pointer q9) ∧ R (Ending.returned (Value.pointer q9)) w
theorem vcTryz42 (p0 : Option Addr) (p1 : Int) (w : World) (R : Ending → World → Prop) : SX.vcFn Tryz.prog [] Tryz.f42 [.v (.pointer p0), .v (.int .i64 p1)] [] w R = VCTryz42 p0 p1 w R := by kernel_rfl
def VCTryz6 (w : World) (R : Ending → World → Prop) : Prop :=
Rets Tryz.prog (7 : Nat) #[Value.int IntKind.i64 (9 : Int)] w fun (v0 : Value) (w1 : World) =>
 ∃ (q2 : Option Addr),
  v0 = Value.pointer q2 ∧
   Keeps w w1 [] ∧
    Rets Tryz.prog (13 : Nat) #[Value.pointer q2, Value.slice (some { block := w1.heap.size, off := (0 : Nat) }) (1 : Nat) (1 : Nat)] (w1.alloc (Obj.cells #[Value.int IntKind.i64 (2 : Int)] (3 : Nat)))
     fun (v3 : Value) (w4 : World) =>
     v3 = Value.tuple #[] ∧
      Keeps (w1.alloc (Obj.cells #[Value.int IntKind.i64 (2 : Int)] (3 : Nat))) w4 [] ∧
       Rets Tryz.prog (15 : Nat) #[Value.pointer q2, Value.string { data := #[(97 : UInt8)] }] w4 fun (v5 : Value) (w6 : World) =>
        ∃ (i7 : Int),
         ∃ (i8 : Int),
          v5 = Value.tuple #[Value.int IntKind.i64 i7, Value.int IntKind.i64 i8] ∧
           Keeps w4 w6 [] ∧
            Rets Tryz.prog (16 : Nat) #[Value.pointer q2, Value.int IntKind.i64 i7, Value.int IntKind.i64 (0 : Int), Value.slice (some { block := w6.heap.size, off := (0 : Nat) }) (1 : Nat) (1 : Nat)]
             (w6.alloc (Obj.cells #[Value.int IntKind.u8 (1 : Int)] (5 : Nat))) fun (v9 : Value) (w10 : World) =>
             ∃ (i11 : Int),
              v9 = Value.int IntKind.i64 i11 ∧
               Keeps (w6.alloc (Obj.cells #[Value.int IntKind.u8 (1 : Int)] (5 : Nat))) w10 [] ∧
                Rets Tryz.prog (12 : Nat) #[Value.pointer q2] w10 fun (v12 : Value) (w13 : World) =>
                 ∃ (i14 : Int),
                  ∃ (i15 : Int),
                   v12 = Value.tuple #[Value.int IntKind.i64 i14, Value.int IntKind.i64 i15] ∧
                    Keeps w10 w13 [] ∧
                     bif i8 == (0 : Int) then
                      bif i11 == (10 : Int) then bif i14 == (2 : Int) then R (Ending.returned (Value.bool (i15 == (1 : Int)))) w13 else R (Ending.returned (Value.bool false)) w13
                      else R (Ending.returned (Value.bool false)) w13
                     else R (Ending.returned (Value.bool false)) w13
theorem vcTryz6 (w : World) (R : Ending → World → Prop) : SX.vcFn Tryz.prog [] Tryz.f6 [] [] w R = VCTryz6  w R := by kernel_rfl
def VCTryz27 (p : Option Addr) (qk : Option Addr) (nk ck : Nat) (nm : Int) (fill : Int) (w : World) (R : Ending → World → Prop) : Prop :=
bif p.isNone then
 Known (w.alloc (Obj.cells #[Value.slice qk nk ck, Value.int IntKind.i64 nm, Value.int IntKind.u8 fill] (33 : Nat)))
   [(w.heap.size, [((0 : Nat), Value.slice qk nk ck), ((1 : Nat), Value.int IntKind.i64 nm), ((2 : Nat), Value.int IntKind.u8 fill)])] →
  R (Ending.returned (Value.tuple #[])) (w.alloc (Obj.cells #[Value.slice qk nk ck, Value.int IntKind.i64 nm, Value.int IntKind.u8 fill] (33 : Nat)))
else
 SX.Ptr p fun (a0 : Addr) =>
  ∃ (q1 : Option Addr),
   ∃ (n2 : Nat),
    ∃ (n3 : Nat),
     (w.alloc (Obj.cells #[Value.slice qk nk ck, Value.int IntKind.i64 nm, Value.int IntKind.u8 fill] (33 : Nat))).cell? (a0.add (0 : Nat)) = some (Value.slice q1 n2 n3) ∧
      ∃ (I4 : Int → Option Addr → Nat → Nat → World → Prop),
       ∃ (I5 : Int → Option Addr → Nat → Nat → World → Nat),
        I4 (0 : Int) qk nk ck (w.alloc (Obj.cells #[Value.slice qk nk ck, Value.int IntKind.i64 nm, Value.int IntKind.u8 fill] (33 : Nat))) ∧
         ∀ (i6 : Int) (q7 : Option Addr) (n8 n9 : Nat) (w10 : World),
          I4 i6 q7 n8 n9 w10 →
           Known w10 [(w.heap.size, [((0 : Nat), Value.slice qk nk ck), ((1 : Nat), Value.int IntKind.i64 nm), ((2 : Nat), Value.int IntKind.u8 fill)])] →
            bif decide (i6 < (↑n2 : Int)) then
             ((0 : Int) ≤ i6 ∧ i6 < (↑n2 : Int)) ∧
              SX.Ptr q1 fun (a11 : Addr) =>
               ∃ (q12 : Option Addr),
                w10.cell? (a11.add (i6.toNat * (1 : Nat))) = some (Value.pointer q12) ∧
                 (Known w10 [(w.heap.size, [((0 : Nat), Value.slice qk nk ck), ((1 : Nat), Value.int IntKind.i64 nm), ((2 : Nat), Value.int IntKind.u8 fill)])] →
                  Rets Tryz.prog (39 : Nat) #[Value.pointer q12] w10 fun (v13 : Value) (w14 : World) =>
                   ∃ (i15 : Int),
                    v13 = Value.int IntKind.i64 i15 ∧
                     Keeps w10 w14 [w.heap.size] ∧
                      ((0 : Int) ≤ minI i15 (↑n8 : Int) ∧ minI i15 (↑n8 : Int) ≤ (↑n9 : Int)) ∧
                       (Known w14.drew [(w.heap.size, [((0 : Nat), Value.slice qk nk ck), ((1 : Nat), Value.int IntKind.i64 nm), ((2 : Nat), Value.int IntKind.u8 fill)])] →
                        Rets Tryz.prog (57 : Nat)
                         #[Value.pointer q12, Value.slice (cutA q7 n9 (0 : Nat) (1 : Nat)) ((minI i15 (↑n8 : Int)).toNat - (0 : Nat)) (n9 - (0 : Nat)), Value.int IntKind.u8 fill] w14.drew
                         fun (v16 : Value) (w17 : World) =>
                         v16 = Value.tuple #[] ∧
                          Keeps w14.drew w17 [w.heap.size] ∧
                           ((0 : Int) ≤ minI i15 (↑n8 : Int) ∧ minI i15 (↑n8 : Int) ≤ (↑n8 : Int)) ∧
                            Wr IntKind.i64 (i6 + (1 : Int)) fun (i18 : Int) =>
                             SameVals [Value.slice qk nk ck, Value.int IntKind.i64 nm, Value.int IntKind.u8 fill] [Value.slice qk nk ck, Value.int IntKind.i64 nm, Value.int IntKind.u8 fill] ∧
                              I4 i18 (cutA q7 n9 (minI i15 (↑n8 : Int)).toNat (1 : Nat)) (n8 - (minI i15 (↑n8 : Int)).toNat) (n9 - (minI i15 (↑n8 : Int)).toNat) w17 ∧
                               I5 i18 (cutA q7 n9 (minI i15 (↑n8 : Int)).toNat (1 : Nat)) (n8 - (minI i15 (↑n8 : Int)).toNat) (n9 - (minI i15 (↑n8 : Int)).toNat) w17 < I5 i6 q7 n8 n9 w10))
            else
             SX.Ptr p fun (a19 : Addr) =>
              Known w10.drew [(w.heap.size, [((0 : Nat), Value.slice qk nk ck), ((1 : Nat), Value.int IntKind.i64 nm), ((2 : Nat), Value.int IntKind.u8 fill)])] →
               Rets Tryz.prog (58 : Nat) #[Value.pointer (some (a19.add (1 : Nat))), Value.int IntKind.i64 nm] w10.drew fun (v20 : Value) (w21 : World) =>
                v20 = Value.tuple #[] ∧
                 Keeps w10.drew w21 [w.heap.size] ∧
                  SX.Ptr p fun (a22 : Addr) =>
                   (∃ (v23 : Value), w21.cell? ((a22.add (7 : Nat)).add (0 : Nat)) = some v23) ∧
                    w21.frozen? ((a22.add (7 : Nat)).add (0 : Nat)) = false ∧
                     Apart ((a22.add (7 : Nat)).add (0 : Nat)) w.heap.size [(0 : Nat), (1 : Nat), (2 : Nat)] ∧
                      (Known (w21.setCell ((a22.add (7 : Nat)).add (0 : Nat)) (Value.slice none (0 : Nat) (0 : Nat)))
                        [(w.heap.size, [((0 : Nat), Value.slice qk nk ck), ((1 : Nat), Value.int IntKind.i64 nm), ((2 : Nat), Value.int IntKind.u8 fill)])] →
                       R (Ending.returned (Value.tuple #[])) (w21.setCell ((a22.add (7 : Nat)).add (0 : Nat)) (Value.slice none (0 : Nat) (0 : Nat))))
theorem vcTryz27 (p : Option Addr) (qk : Option Addr) (nk ck : Nat) (nm : Int) (fill : Int) (w : World) (R : Ending → World → Prop) : SX.vcFn Tryz.prog [(4, ⟨[(17, .int .i64), (4, .slice)], [3, 15, 0, 16], []⟩)] Tryz.f27 [.v (.pointer p), .v (.agg #[.slice qk nk ck, .int .i64 nm, .int .u8 fill])] [] w R = VCTryz27 p qk nk ck nm fill w R := by kernel_rfl
end Go.Proofs.YtlgkcbdpaffigaaGreat


