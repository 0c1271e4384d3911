/- The conditions of functions, as the executor computes them: each is equal to what 'vcFn' says. -/
import Derived.Test.YtlgkcbdpaffigaaSxLib
import Derived.Test.YtlgkcbdpaffigaaProg
namespace Go.Proofs.Ytlgkcbdpaffigaa
open Go Go.SX Go.Proofs
set_option maxRecDepth 100000
set_option linter.unusedVariables false
def KL9a (w1 : World) (q9 : Option Nat) (q10 : Option Nat) (q11 : Option Addr) (n12 : Nat) (n13 : Nat) (q14 : Option Addr) (n15 : Nat) (n16 : Nat) (q17 : Option Addr) (n18 : Nat) (n19 : Nat) : List (Nat × List (Nat × Value)) :=
 [(w1.heap.size, [((0 : Nat), Value.map q9), ((1 : Nat), Value.map q10), ((2 : Nat), Value.slice q11 n12 n13)]), ((w1.alloc (Obj.cells #[Value.map none, Value.map none, Value.slice none (0 : Nat) (0 : Nat)] (79 : Nat))).heap.size, [((0 : Nat), Value.slice q14 n15 n16), ((1 : Nat), Value.slice q17 n18 n19)])]
def VCTry9 (p0 : Option Addr) (n0 c0 : Nat) (w : World) (R : Ending → World → Prop) : Prop :=
Rets Try.prog (35 : Nat) #[Value.slice p0 n0 c0] w fun (v0 : Value) (w1 : World) =>
 ∃ (t2 : Bool),
 v0 = Value.bool t2 ∧
 Keeps w w1 [] ∧
 bif t2 then Rets Try.prog (36 : Nat) #[] w1 fun (v3 : Value) (w4 : World) => ∃ (t5 : Bool), v3 = Value.bool t5 ∧ Keeps w1 w4 [] ∧ R (Ending.returned (Value.bool t5)) w4
 else
 ∃ (I6 : Int → Option Nat → Option Nat → Option Addr → Nat → Nat → Option Addr → Nat → Nat → Option Addr → Nat → Nat → World → Prop),
 ∃ (I7 : Int → Option Nat → Option Nat → Option Addr → Nat → Nat → Option Addr → Nat → Nat → Option Addr → Nat → Nat → World → Nat),
 I6 (0 : Int) none none none (0 : Nat) (0 : Nat) none (0 : Nat) (0 : Nat) none (0 : Nat) (0 : Nat)
 ((w1.alloc (Obj.cells #[Value.map none, Value.map none, Value.slice none (0 : Nat) (0 : Nat)] (79 : Nat))).alloc
 (Obj.cells #[Value.slice none (0 : Nat) (0 : Nat), Value.slice none (0 : Nat) (0 : Nat)] (83 : Nat))) ∧
 ∀ (i8 : Int) (q9 q10 : Option Nat) (q11 : Option Addr) (n12 n13 : Nat) (q14 : Option Addr) (n15 n16 : Nat) (q17 : Option Addr) (n18 n19 : Nat) (w20 : World),
 I6 i8 q9 q10 q11 n12 n13 q14 n15 n16 q17 n18 n19 w20 →
 Known w20
 (KL9a w1 q9 q10 q11 n12 n13 q14 n15 n16 q17 n18 n19) →
 bif decide (i8 < (↑n0 : Int)) then
 ((0 : Int) ≤ i8 ∧ i8 < (↑n0 : Int)) ∧
 SX.Ptr p0 fun (a21 : Addr) =>
 ∃ (i22 : Int),
 ∃ (s23 : ByteArray),
 ∃ (s24 : ByteArray),
 ∃ (i25 : Int),
 (w20.drew.cell? ((a21.add (i8.toNat * (4 : Nat))).add (0 : Nat)) = some (Value.int IntKind.i64 i22) ∧
 w20.drew.cell? ((a21.add (i8.toNat * (4 : Nat))).add (1 : Nat)) = some (Value.string s23) ∧
 w20.drew.cell? ((a21.add (i8.toNat * (4 : Nat))).add (2 : Nat)) = some (Value.string s24) ∧
 w20.drew.cell? ((a21.add (i8.toNat * (4 : Nat))).add (3 : Nat)) = some (Value.int IntKind.i64 i25) ∧ True) ∧
 (Known w20.drew
 (KL9a w1 q9 q10 q11 n12 n13 q14 n15 n16 q17 n18 n19) →
 Rets Try.prog (37 : Nat)
 #[Value.pointer (some { block := w1.heap.size, off := (0 : Nat) }),
 Value.pointer (some { block := (w1.alloc (Obj.cells #[Value.map none, Value.map none, Value.slice none (0 : Nat) (0 : Nat)] (79 : Nat))).heap.size, off := (0 : Nat) }),
 Value.agg #[Value.int IntKind.i64 i22, Value.string s23, Value.string s24, Value.int IntKind.i64 i25]]
 w20.drew fun (v26 : Value) (w27 : World) =>
 ∃ (t28 : Bool),
 v26 = Value.bool t28 ∧
 Keeps w20.drew w27 [] ∧
 ∃ (q29 : Option Nat),
 w27.cell? { block := w1.heap.size, off := (0 : Nat) } = some (Value.map q29) ∧
 w27.frozen? { block := w1.heap.size, off := (0 : Nat) } = false ∧
 ∃ (q30 : Option Nat),
 w27.cell? { block := w1.heap.size, off := (1 : Nat) } = some (Value.map q30) ∧
 w27.frozen? { block := w1.heap.size, off := (1 : Nat) } = false ∧
 ∃ (q31 : Option Addr),
 ∃ (n32 : Nat),
 ∃ (n33 : Nat),
 w27.cell? { block := w1.heap.size, off := (2 : Nat) } = some (Value.slice q31 n32 n33) ∧
 w27.frozen? { block := w1.heap.size, off := (2 : Nat) } = false ∧
 ∃ (q34 : Option Addr),
 ∃ (n35 : Nat),
 ∃ (n36 : Nat),
 w27.cell?
 {block := (w1.alloc (Obj.cells #[Value.map none, Value.map none, Value.slice none (0 : Nat) (0 : Nat)] (79 : Nat))).heap.size, off := (0 : Nat) } =
 some (Value.slice q34 n35 n36) ∧
 w27.frozen?
 {block := (w1.alloc (Obj.cells #[Value.map none, Value.map none, Value.slice none (0 : Nat) (0 : Nat)] (79 : Nat))).heap.size, off := (0 : Nat) } =
 false ∧
 ∃ (q37 : Option Addr),
 ∃ (n38 : Nat),
 ∃ (n39 : Nat),
 w27.cell?
 {block := (w1.alloc (Obj.cells #[Value.map none, Value.map none, Value.slice none (0 : Nat) (0 : Nat)] (79 : Nat))).heap.size, off := (1 : Nat) } =
 some (Value.slice q37 n38 n39) ∧
 w27.frozen?
 { block := (w1.alloc (Obj.cells #[Value.map none, Value.map none, Value.slice none (0 : Nat) (0 : Nat)] (79 : Nat))).heap.size, off := (1 : Nat) } =
 false ∧
 bif !t28 then
 Known w27
 [(w1.heap.size, [((0 : Nat), Value.map q29), ((1 : Nat), Value.map q30), ((2 : Nat), Value.slice q31 n32 n33)]),
 ((w1.alloc (Obj.cells #[Value.map none, Value.map none, Value.slice none (0 : Nat) (0 : Nat)] (79 : Nat))).heap.size,
 [((0 : Nat), Value.slice q34 n35 n36), ((1 : Nat), Value.slice q37 n38 n39)])] →
 R (Ending.returned (Value.bool false)) w27
 else
 Known w27
 [(w1.heap.size, [((0 : Nat), Value.map q29), ((1 : Nat), Value.map q30), ((2 : Nat), Value.slice q31 n32 n33)]),
 ((w1.alloc (Obj.cells #[Value.map none, Value.map none, Value.slice none (0 : Nat) (0 : Nat)] (79 : Nat))).heap.size,
 [((0 : Nat), Value.slice q34 n35 n36), ((1 : Nat), Value.slice q37 n38 n39)])] →
 Rets Try.prog (45 : Nat) #[Value.pointer (some { block := w1.heap.size, off := (0 : Nat) }), Value.slice q34 n35 n36] w27
 fun (v40 : Value) (w41 : World) =>
 ∃ (t42 : Bool),
 v40 = Value.bool t42 ∧
 Keeps w27 w41
 [(w1.alloc
 (Obj.cells #[Value.map none, Value.map none, Value.slice none (0 : Nat) (0 : Nat)] (79 : Nat))).heap.size] ∧
 ∃ (q43 : Option Nat),
 w41.cell? { block := w1.heap.size, off := (0 : Nat) } = some (Value.map q43) ∧
 w41.frozen? { block := w1.heap.size, off := (0 : Nat) } = false ∧
 ∃ (q44 : Option Nat),
 w41.cell? { block := w1.heap.size, off := (1 : Nat) } = some (Value.map q44) ∧
 w41.frozen? { block := w1.heap.size, off := (1 : Nat) } = false ∧
 ∃ (q45 : Option Addr),
 ∃ (n46 : Nat),
 ∃ (n47 : Nat),
 w41.cell? { block := w1.heap.size, off := (2 : Nat) } = some (Value.slice q45 n46 n47) ∧
 w41.frozen? { block := w1.heap.size, off := (2 : Nat) } = false ∧
 bif !t42 then
 Known w41
 [(w1.heap.size,
 [((0 : Nat), Value.map q43), ((1 : Nat), Value.map q44),
 ((2 : Nat), Value.slice q45 n46 n47)]),
 ((w1.alloc
 (Obj.cells
 #[Value.map none, Value.map none, Value.slice none (0 : Nat) (0 : Nat)]
 (79 : Nat))).heap.size,
 [((0 : Nat), Value.slice q34 n35 n36), ((1 : Nat), Value.slice q37 n38 n39)])] →
 R (Ending.returned (Value.bool false)) w41
 else
 Known w41
 [(w1.heap.size,
 [((0 : Nat), Value.map q43), ((1 : Nat), Value.map q44),
 ((2 : Nat), Value.slice q45 n46 n47)]),
 ((w1.alloc
 (Obj.cells
 #[Value.map none, Value.map none, Value.slice none (0 : Nat) (0 : Nat)]
 (79 : Nat))).heap.size,
 [((0 : Nat), Value.slice q34 n35 n36), ((1 : Nat), Value.slice q37 n38 n39)])] →
 Rets Try.prog (41 : Nat) #[Value.pointer (some { block := w1.heap.size, off := (0 : Nat) })]
 w41 fun (v48 : Value) (w49 : World) =>
 ∃ (i50 : Int),
 v48 = Value.int IntKind.i64 i50 ∧
 Keeps w41 w49
 [(w1.alloc
 (Obj.cells
 #[Value.map none, Value.map none, Value.slice none (0 : Nat) (0 : Nat)]
 (79 : Nat))).heap.size] ∧
 ∃ (q51 : Option Nat),
 w49.cell? { block := w1.heap.size, off := (0 : Nat) } = some (Value.map q51) ∧
 w49.frozen? { block := w1.heap.size, off := (0 : Nat) } = false ∧
 ∃ (q52 : Option Nat),
 w49.cell? { block := w1.heap.size, off := (1 : Nat) } =
 some (Value.map q52) ∧
 w49.frozen? { block := w1.heap.size, off := (1 : Nat) } = false ∧
 ∃ (q53 : Option Addr),
 ∃ (n54 : Nat),
 ∃ (n55 : Nat),
 w49.cell? { block := w1.heap.size, off := (2 : Nat) } =
 some (Value.slice q53 n54 n55) ∧
 w49.frozen? { block := w1.heap.size, off := (2 : Nat) } =
 false ∧
 w49.cell?
 { block := (w1.alloc (Obj.cells #[Value.map none, Value.map none, Value.slice none (0 : Nat) (0 : Nat)] (79 : Nat))).heap.size, off := (1 : Nat) } =
 some (Value.slice q37 n38 n39) ∧
 bif i50 != (↑n38 : Int) then
 Known w49
 [(w1.heap.size,
 [((0 : Nat), Value.map q51),
 ((1 : Nat), Value.map q52),
 ((2 : Nat), Value.slice q53 n54 n55)]),
 ((w1.alloc
 (Obj.cells
 #[Value.map none, Value.map none,
 Value.slice none (0 : Nat) (0 : Nat)]
 (79 : Nat))).heap.size,
 [((0 : Nat), Value.slice q34 n35 n36),
 ((1 : Nat), Value.slice q37 n38 n39)])] →
 R (Ending.returned (Value.bool false)) w49
 else
 Wr IntKind.i64 (i8 + (1 : Int)) fun (i56 : Int) =>
 I6 i56 q51 q52 q53 n54 n55 q34 n35 n36 q37 n38 n39 w49 ∧
 I7 i56 q51 q52 q53 n54 n55 q34 n35 n36 q37 n38 n39
 w49 <
 I7 i8 q9 q10 q11 n12 n13 q14 n15 n16 q17 n18 n19
 w20)
 else
 Known w20
 (KL9a w1 q9 q10 q11 n12 n13 q14 n15 n16 q17 n18 n19) →
 Rets Try.prog (36 : Nat) #[] w20 fun (v57 : Value) (w58 : World) =>
 ∃ (t59 : Bool),
 v57 = Value.bool t59 ∧
 Keeps w20 w58 [w1.heap.size, (w1.alloc (Obj.cells #[Value.map none, Value.map none, Value.slice none (0 : Nat) (0 : Nat)] (79 : Nat))).heap.size] ∧
 (Known w58
 (KL9a w1 q9 q10 q11 n12 n13 q14 n15 n16 q17 n18 n19) →
 R (Ending.returned (Value.bool t59)) w58)
theorem vcTry9 (p0 : Option Addr) (n0 c0 : Nat) (w : World) (R : Ending → World → Prop) : SX.vcFn Try.prog [(6, ⟨[(5, .int .i64)], [4, 3, 0], [(0, 0, .map), (0, 1, .map), (0, 2, .slice), (1, 0, .slice), (1, 1, .slice)]⟩)] Try.f9 [.v (.slice p0 n0 c0)] [] w R = VCTry9 p0 n0 c0 w R := by kernel_rfl
end Go.Proofs.Ytlgkcbdpaffigaa
