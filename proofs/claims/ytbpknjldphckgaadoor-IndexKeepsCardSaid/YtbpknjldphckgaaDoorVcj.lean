/- The conditions of functions, as the executor computes them: each is equal to what 'vcFn' says. -/
import Derived.Test.YtbpknjldphckgaaDoorSxLib
import Derived.Test.YtbpknjldphckgaaDoorProg
namespace Go.Proofs.YtbpknjldphckgaaDoor
open Go Go.SX Go.Proofs
set_option maxRecDepth 100000
set_option linter.unusedVariables false
def VCTryd66 (w : World) (R : Ending → World → Prop) : Prop :=
Rets Tryd.prog (67 : Nat) #[Value.slice none (0 : Nat) (0 : Nat)] w fun (v0 : Value) (w1 : World) =>
 ∃ (q2 : Option Addr),
  ∃ (i3 : Int),
   v0 = Value.tuple #[Value.pointer q2, Value.int IntKind.i64 i3] ∧
    Keeps w w1 [] ∧
     bif i3 != (0 : Int) then R (Ending.returned (Value.bool false)) w1
     else
      bif q2.isNone then R (Ending.returned (Value.bool false)) w1
      else
       Rets Tryd.prog (123 : Nat) #[] w1 fun (v4 : Value) (w5 : World) =>
        ∃ (s6 : ByteArray),
         ∃ (i7 : Int),
          ∃ (i8 : Int),
           ∃ (i9 : Int),
            ∃ (i10 : Int),
             ∃ (i11 : Int),
              ∃ (i12 : Int),
               v4 =
                 Value.agg
                  #[Value.string s6, Value.int IntKind.i64 i7, Value.int IntKind.i64 i8, Value.int IntKind.i64 i9, Value.int IntKind.i64 i10, Value.int IntKind.u32 i11, Value.int IntKind.i64 i12] ∧
                Keeps w1 w5 [] ∧
                 Rets Tryd.prog (74 : Nat)
                  #[Value.pointer q2,
                   Value.agg
                    #[Value.string s6, Value.int IntKind.i64 i7, Value.int IntKind.i64 i8, Value.int IntKind.i64 i9, Value.int IntKind.i64 i10, Value.int IntKind.u32 i11, Value.int IntKind.i64 i12]]
                  w5 fun (v13 : Value) (w14 : World) =>
                  ∃ (i15 : Int),
                   v13 = Value.int IntKind.i64 i15 ∧
                    Keeps w5 w14 [] ∧
                     bif i15 != (0 : Int) then R (Ending.returned (Value.bool false)) w14
                     else
                      Rets Tryd.prog (73 : Nat) #[Value.pointer q2, Value.string { data := #[(97 : UInt8)] }] w14 fun (v16 : Value) (w17 : World) =>
                       ∃ (s18 : ByteArray),
                        ∃ (i19 : Int),
                         ∃ (i20 : Int),
                          ∃ (i21 : Int),
                           ∃ (i22 : Int),
                            ∃ (i23 : Int),
                             ∃ (i24 : Int),
                              ∃ (t25 : Bool),
                               v16 =
                                 Value.tuple
                                  #[Value.agg
                                    #[Value.string s18, Value.int IntKind.i64 i19, Value.int IntKind.i64 i20, Value.int IntKind.i64 i21, Value.int IntKind.i64 i22,
                                     Value.int IntKind.u32 i23, Value.int IntKind.i64 i24],
                                   Value.bool t25] ∧
                                Keeps w14 w17 [] ∧
                                 bif t25 then
                                  Known
                                    ((((((((w17.alloc
                                                    (Obj.cells
                                                     #[Value.string { data := #[] }, Value.int IntKind.i64 (0 : Int), Value.int IntKind.i64 (0 : Int),
                                                      Value.int IntKind.i64 (0 : Int), Value.int IntKind.i64 (0 : Int), Value.int IntKind.u32 (0 : Int),
                                                      Value.int IntKind.i64 (0 : Int)]
                                                     (50 : Nat))).setCell
                                                  {block := w17.heap.size, off := (0 : Nat) } (Value.string s18)).setCell
                                                {block := w17.heap.size, off := (1 : Nat) } (Value.int IntKind.i64 i19)).setCell
                                              {block := w17.heap.size, off := (2 : Nat) } (Value.int IntKind.i64 i20)).setCell
                                            {block := w17.heap.size, off := (3 : Nat) } (Value.int IntKind.i64 i21)).setCell
                                          {block := w17.heap.size, off := (4 : Nat) } (Value.int IntKind.i64 i22)).setCell
                                        {block := w17.heap.size, off := (5 : Nat) } (Value.int IntKind.u32 i23)).setCell
                                      {block := w17.heap.size, off := (6 : Nat) } (Value.int IntKind.i64 i24)).drew
                                    [(w17.heap.size,
                                      [((0 : Nat), Value.string s18), ((1 : Nat), Value.int IntKind.i64 i19), ((2 : Nat), Value.int IntKind.i64 i20),
                                       ((3 : Nat), Value.int IntKind.i64 i21), ((4 : Nat), Value.int IntKind.i64 i22), ((5 : Nat), Value.int IntKind.u32 i23),
                                       ((6 : Nat), Value.int IntKind.i64 i24)])] →
                                   Rets Tryd.prog (123 : Nat) #[]
                                    ((((((((w17.alloc
                                                    (Obj.cells
                                                     #[Value.string { data := #[] }, Value.int IntKind.i64 (0 : Int), Value.int IntKind.i64 (0 : Int),
                                                      Value.int IntKind.i64 (0 : Int), Value.int IntKind.i64 (0 : Int), Value.int IntKind.u32 (0 : Int),
                                                      Value.int IntKind.i64 (0 : Int)]
                                                     (50 : Nat))).setCell
                                                  {block := w17.heap.size, off := (0 : Nat) } (Value.string s18)).setCell
                                                {block := w17.heap.size, off := (1 : Nat) } (Value.int IntKind.i64 i19)).setCell
                                              {block := w17.heap.size, off := (2 : Nat) } (Value.int IntKind.i64 i20)).setCell
                                            {block := w17.heap.size, off := (3 : Nat) } (Value.int IntKind.i64 i21)).setCell
                                          {block := w17.heap.size, off := (4 : Nat) } (Value.int IntKind.i64 i22)).setCell
                                        {block := w17.heap.size, off := (5 : Nat) } (Value.int IntKind.u32 i23)).setCell
                                      {block := w17.heap.size, off := (6 : Nat) } (Value.int IntKind.i64 i24)).drew
                                    fun (v26 : Value) (w27 : World) =>
                                    ∃ (s28 : ByteArray),
                                     ∃ (i29 : Int),
                                      ∃ (i30 : Int),
                                       ∃ (i31 : Int),
                                        ∃ (i32 : Int),
                                         ∃ (i33 : Int),
                                          ∃ (i34 : Int),
                                           v26 =
                                             Value.agg
                                              #[Value.string s28, Value.int IntKind.i64 i29, Value.int IntKind.i64 i30, Value.int IntKind.i64 i31, Value.int IntKind.i64 i32,
                                               Value.int IntKind.u32 i33, Value.int IntKind.i64 i34] ∧
                                            Keeps
                                              ((((((((w17.alloc
                                                              (Obj.cells
                                                               #[Value.string { data := #[] }, Value.int IntKind.i64 (0 : Int),
                                                                Value.int IntKind.i64 (0 : Int), Value.int IntKind.i64 (0 : Int),
                                                                Value.int IntKind.i64 (0 : Int), Value.int IntKind.u32 (0 : Int),
                                                                Value.int IntKind.i64 (0 : Int)]
                                                               (50 : Nat))).setCell
                                                            {block := w17.heap.size, off := (0 : Nat) } (Value.string s18)).setCell
                                                          {block := w17.heap.size, off := (1 : Nat) } (Value.int IntKind.i64 i19)).setCell
                                                        {block := w17.heap.size, off := (2 : Nat) } (Value.int IntKind.i64 i20)).setCell
                                                      {block := w17.heap.size, off := (3 : Nat) } (Value.int IntKind.i64 i21)).setCell
                                                    {block := w17.heap.size, off := (4 : Nat) } (Value.int IntKind.i64 i22)).setCell
                                                  {block := w17.heap.size, off := (5 : Nat) } (Value.int IntKind.u32 i23)).setCell
                                                {block := w17.heap.size, off := (6 : Nat) } (Value.int IntKind.i64 i24)).drew
                                              w27 [w17.heap.size] ∧
                                             (w27.cell? (({ block := w17.heap.size, off := (0 : Nat) } : Addr).add (0 : Nat)) = some (Value.string s18) ∧
                                               w27.cell? (({ block := w17.heap.size, off := (0 : Nat) } : Addr).add (1 : Nat)) = some (Value.int IntKind.i64 i19) ∧
                                                w27.cell? (({ block := w17.heap.size, off := (0 : Nat) } : Addr).add (2 : Nat)) = some (Value.int IntKind.i64 i20) ∧
                                                 w27.cell? (({ block := w17.heap.size, off := (0 : Nat) } : Addr).add (3 : Nat)) = some (Value.int IntKind.i64 i21) ∧
                                                  w27.cell? (({ block := w17.heap.size, off := (0 : Nat) } : Addr).add (4 : Nat)) = some (Value.int IntKind.i64 i22) ∧
                                                   w27.cell? (({ block := w17.heap.size, off := (0 : Nat) } : Addr).add (5 : Nat)) = some (Value.int IntKind.u32 i23) ∧
                                                    w27.cell? (({ block := w17.heap.size, off := (0 : Nat) } : Addr).add (6 : Nat)) = some (Value.int IntKind.i64 i24) ∧ True) ∧
                                              true = true ∧
                                               bif
                                                 s18.toList == s28.toList &&
                                                  (i19 == i29 && (i20 == i30 && (i21 == i31 && (i22 == i32 && (i23 == i33 && i24 == i34))))) then
                                                Known w27
                                                  [(w17.heap.size,
                                                    [((0 : Nat), Value.string s18), ((1 : Nat), Value.int IntKind.i64 i19), ((2 : Nat), Value.int IntKind.i64 i20),
                                                     ((3 : Nat), Value.int IntKind.i64 i21), ((4 : Nat), Value.int IntKind.i64 i22),
                                                     ((5 : Nat), Value.int IntKind.u32 i23), ((6 : Nat), Value.int IntKind.i64 i24)])] →
                                                 Rets Tryd.prog (69 : Nat) #[Value.pointer q2] w27 fun (v35 : Value) (w36 : World) =>
                                                  ∃ (i37 : Int),
                                                   v35 = Value.int IntKind.i64 i37 ∧
                                                    Keeps w27 w36 [w17.heap.size] ∧
                                                     bif i37 == (1 : Int) then
                                                      Known w36
                                                        [(w17.heap.size,
                                                          [((0 : Nat), Value.string s18), ((1 : Nat), Value.int IntKind.i64 i19),
                                                           ((2 : Nat), Value.int IntKind.i64 i20), ((3 : Nat), Value.int IntKind.i64 i21),
                                                           ((4 : Nat), Value.int IntKind.i64 i22), ((5 : Nat), Value.int IntKind.u32 i23),
                                                           ((6 : Nat), Value.int IntKind.i64 i24)])] →
                                                       Rets Tryd.prog (71 : Nat) #[Value.pointer q2] w36 fun (v38 : Value) (w39 : World) =>
                                                        ∃ (i40 : Int),
                                                         v38 = Value.int IntKind.i64 i40 ∧
                                                          Keeps w36 w39 [w17.heap.size] ∧
                                                           (Known w39
                                                             [(w17.heap.size,
                                                               [((0 : Nat), Value.string s18), ((1 : Nat), Value.int IntKind.i64 i19),
                                                                ((2 : Nat), Value.int IntKind.i64 i20), ((3 : Nat), Value.int IntKind.i64 i21),
                                                                ((4 : Nat), Value.int IntKind.i64 i22), ((5 : Nat), Value.int IntKind.u32 i23),
                                                                ((6 : Nat), Value.int IntKind.i64 i24)])] →
                                                            R (Ending.returned (Value.bool (i40 == (39 : Int)))) w39)
                                                     else
                                                      Known w36
                                                        [(w17.heap.size,
                                                          [((0 : Nat), Value.string s18), ((1 : Nat), Value.int IntKind.i64 i19),
                                                           ((2 : Nat), Value.int IntKind.i64 i20), ((3 : Nat), Value.int IntKind.i64 i21),
                                                           ((4 : Nat), Value.int IntKind.i64 i22), ((5 : Nat), Value.int IntKind.u32 i23),
                                                           ((6 : Nat), Value.int IntKind.i64 i24)])] →
                                                       R (Ending.returned (Value.bool false)) w36
                                               else
                                                Known w27
                                                  [(w17.heap.size,
                                                    [((0 : Nat), Value.string s18), ((1 : Nat), Value.int IntKind.i64 i19), ((2 : Nat), Value.int IntKind.i64 i20),
                                                     ((3 : Nat), Value.int IntKind.i64 i21), ((4 : Nat), Value.int IntKind.i64 i22),
                                                     ((5 : Nat), Value.int IntKind.u32 i23), ((6 : Nat), Value.int IntKind.i64 i24)])] →
                                                 R (Ending.returned (Value.bool false)) w27
                                 else
                                  Known
                                    ((((((((w17.alloc
                                                    (Obj.cells
                                                     #[Value.string { data := #[] }, Value.int IntKind.i64 (0 : Int), Value.int IntKind.i64 (0 : Int),
                                                      Value.int IntKind.i64 (0 : Int), Value.int IntKind.i64 (0 : Int), Value.int IntKind.u32 (0 : Int),
                                                      Value.int IntKind.i64 (0 : Int)]
                                                     (50 : Nat))).setCell
                                                  {block := w17.heap.size, off := (0 : Nat) } (Value.string s18)).setCell
                                                {block := w17.heap.size, off := (1 : Nat) } (Value.int IntKind.i64 i19)).setCell
                                              {block := w17.heap.size, off := (2 : Nat) } (Value.int IntKind.i64 i20)).setCell
                                            {block := w17.heap.size, off := (3 : Nat) } (Value.int IntKind.i64 i21)).setCell
                                          {block := w17.heap.size, off := (4 : Nat) } (Value.int IntKind.i64 i22)).setCell
                                        {block := w17.heap.size, off := (5 : Nat) } (Value.int IntKind.u32 i23)).setCell
                                      {block := w17.heap.size, off := (6 : Nat) } (Value.int IntKind.i64 i24)).drew
                                    [(w17.heap.size,
                                      [((0 : Nat), Value.string s18), ((1 : Nat), Value.int IntKind.i64 i19), ((2 : Nat), Value.int IntKind.i64 i20),
                                       ((3 : Nat), Value.int IntKind.i64 i21), ((4 : Nat), Value.int IntKind.i64 i22), ((5 : Nat), Value.int IntKind.u32 i23),
                                       ((6 : Nat), Value.int IntKind.i64 i24)])] →
                                   R (Ending.returned (Value.bool false))
                                    ((((((((w17.alloc
                                                    (Obj.cells
                                                     #[Value.string { data := #[] }, Value.int IntKind.i64 (0 : Int), Value.int IntKind.i64 (0 : Int),
                                                      Value.int IntKind.i64 (0 : Int), Value.int IntKind.i64 (0 : Int), Value.int IntKind.u32 (0 : Int),
                                                      Value.int IntKind.i64 (0 : Int)]
                                                     (50 : Nat))).setCell
                                                  {block := w17.heap.size, off := (0 : Nat) } (Value.string s18)).setCell
                                                {block := w17.heap.size, off := (1 : Nat) } (Value.int IntKind.i64 i19)).setCell
                                              {block := w17.heap.size, off := (2 : Nat) } (Value.int IntKind.i64 i20)).setCell
                                            {block := w17.heap.size, off := (3 : Nat) } (Value.int IntKind.i64 i21)).setCell
                                          {block := w17.heap.size, off := (4 : Nat) } (Value.int IntKind.i64 i22)).setCell
                                        {block := w17.heap.size, off := (5 : Nat) } (Value.int IntKind.u32 i23)).setCell
                                      {block := w17.heap.size, off := (6 : Nat) } (Value.int IntKind.i64 i24)).drew
theorem vcTryd66 (w : World) (R : Ending → World → Prop) : SX.vcFn Tryd.prog [] Tryd.f66 [] [] w R = VCTryd66  w R := by kernel_rfl
def VCTryd16 (p0 : Option Addr) (n0 c0 : Nat) (p1 : Option Addr) (n1 c1 : Nat) (w : World) (R : Ending → World → Prop) : Prop :=
Rets Tryd.prog (65 : Nat) #[Value.slice p0 n0 c0] w fun (v0 : Value) (w1 : World) =>
 ∃ (t2 : Bool),
  v0 = Value.bool t2 ∧
   Keeps w w1 [] ∧
    bif t2 then Rets Tryd.prog (66 : Nat) #[] w1 fun (v3 : Value) (w4 : World) => ∃ (t5 : Bool), v3 = Value.bool t5 ∧ Keeps w1 w4 [] ∧ R (Ending.returned (Value.bool t5)) w4
    else
     bif decide ((↑n1 : Int) > (300 : Int)) then Rets Tryd.prog (66 : Nat) #[] w1 fun (v6 : Value) (w7 : World) => ∃ (t8 : Bool), v6 = Value.bool t8 ∧ Keeps w1 w7 [] ∧ R (Ending.returned (Value.bool t8)) w7
     else
      Rets Tryd.prog (67 : Nat) #[Value.slice p0 n0 c0] w1 fun (v9 : Value) (w10 : World) =>
       ∃ (q11 : Option Addr),
        ∃ (i12 : Int),
         v9 = Value.tuple #[Value.pointer q11, Value.int IntKind.i64 i12] ∧
          Keeps w1 w10 [] ∧
           Rets Tryd.prog (40 : Nat) #[Value.slice p0 n0 c0] w10 fun (v13 : Value) (w14 : World) =>
            ∃ (t15 : Bool),
             v13 = Value.bool t15 ∧
              Keeps w10 w14 [] ∧
               bif !t15 then
                bif i12 == (1 : Int) then
                 bif q11.isNone then
                  Rets Tryd.prog (66 : Nat) #[] w14 fun (v16 : Value) (w17 : World) => ∃ (t18 : Bool), v16 = Value.bool t18 ∧ Keeps w14 w17 [] ∧ R (Ending.returned (Value.bool t18)) w17
                 else R (Ending.returned (Value.bool false)) w14
                else R (Ending.returned (Value.bool false)) w14
               else
                bif i12 != (0 : Int) then R (Ending.returned (Value.bool false)) w14
                else
                 bif q11.isNone then R (Ending.returned (Value.bool false)) w14
                 else
                  ∃ (I19 : Int → Option Addr → Nat → Nat → World → Prop),
                   ∃ (I20 : Int → Option Addr → Nat → Nat → World → Nat),
                    I19 (0 : Int) p0 n0 c0 w14 ∧
                     ∀ (i21 : Int) (q22 : Option Addr) (n23 n24 : Nat) (w25 : World),
                      I19 i21 q22 n23 n24 w25 →
                       bif decide (i21 < (↑n1 : Int)) then
                        ((0 : Int) ≤ i21 ∧ i21 < (↑n1 : Int)) ∧
                         SX.Ptr p1 fun (a26 : Addr) =>
                          ∃ (i27 : Int),
                           w25.cell? ((a26.add (i21.toNat * (9 : Nat))).add (0 : Nat)) = some (Value.int IntKind.i64 i27) ∧
                            bif i27 == (0 : Int) then
                             ((0 : Int) ≤ i21 ∧ i21 < (↑n1 : Int)) ∧
                              SX.Ptr p1 fun (a28 : Addr) =>
                               ∃ (s29 : ByteArray),
                                w25.cell? (((a28.add (i21.toNat * (9 : Nat))).add (1 : Nat)).add (0 : Nat)) = some (Value.string s29) ∧
                                 bif decide ((↑s29.size : Int) > (200 : Int)) then
                                  Wr IntKind.i64 (i21 + (1 : Int)) fun (i30 : Int) => I19 i30 q22 n23 n24 w25 ∧ I20 i30 q22 n23 n24 w25 < I20 i21 q22 n23 n24 w25
                                 else
                                  ((0 : Int) ≤ i21 ∧ i21 < (↑n1 : Int)) ∧
                                   SX.Ptr p1 fun (a31 : Addr) =>
                                    ∃ (i32 : Int),
                                     ∃ (s33 : ByteArray),
                                      ∃ (i34 : Int),
                                       ∃ (i35 : Int),
                                        ∃ (i36 : Int),
                                         ∃ (i37 : Int),
                                          ∃ (i38 : Int),
                                           ∃ (i39 : Int),
                                            ∃ (s40 : ByteArray),
                                             (w25.cell? ((a31.add (i21.toNat * (9 : Nat))).add (0 : Nat)) = some (Value.int IntKind.i64 i32) ∧
                                               w25.cell? ((a31.add (i21.toNat * (9 : Nat))).add (1 : Nat)) = some (Value.string s33) ∧
                                                w25.cell? ((a31.add (i21.toNat * (9 : Nat))).add (2 : Nat)) = some (Value.int IntKind.i64 i34) ∧
                                                 w25.cell? ((a31.add (i21.toNat * (9 : Nat))).add (3 : Nat)) = some (Value.int IntKind.i64 i35) ∧
                                                  w25.cell? ((a31.add (i21.toNat * (9 : Nat))).add (4 : Nat)) = some (Value.int IntKind.i64 i36) ∧
                                                   w25.cell? ((a31.add (i21.toNat * (9 : Nat))).add (5 : Nat)) = some (Value.int IntKind.i64 i37) ∧
                                                    w25.cell? ((a31.add (i21.toNat * (9 : Nat))).add (6 : Nat)) = some (Value.int IntKind.u32 i38) ∧
                                                     w25.cell? ((a31.add (i21.toNat * (9 : Nat))).add (7 : Nat)) = some (Value.int IntKind.i64 i39) ∧
                                                      w25.cell? ((a31.add (i21.toNat * (9 : Nat))).add (8 : Nat)) = some (Value.string s40) ∧ True) ∧
                                              Rets Tryd.prog (68 : Nat)
                                               #[Value.pointer q11, Value.slice q22 n23 n24,
                                                Value.agg
                                                 #[Value.int IntKind.i64 i32, Value.string s33, Value.int IntKind.i64 i34, Value.int IntKind.i64 i35,
                                                  Value.int IntKind.i64 i36, Value.int IntKind.i64 i37, Value.int IntKind.u32 i38, Value.int IntKind.i64 i39,
                                                  Value.string s40]]
                                               w25 fun (v41 : Value) (w42 : World) =>
                                               ∃ (t43 : Bool),
                                                ∃ (q44 : Option Addr),
                                                 ∃ (n45 : Nat),
                                                  ∃ (n46 : Nat),
                                                   v41 = Value.tuple #[Value.bool t43, Value.slice q44 n45 n46] ∧
                                                    Keeps w25 w42 [] ∧
                                                     bif !t43 then R (Ending.returned (Value.bool false)) w42
                                                     else
                                                      Rets Tryd.prog (69 : Nat) #[Value.pointer q11] w42 fun (v47 : Value) (w48 : World) =>
                                                       ∃ (i49 : Int),
                                                        v47 = Value.int IntKind.i64 i49 ∧
                                                         Keeps w42 w48 [] ∧
                                                          bif i49 != (↑n45 : Int) then R (Ending.returned (Value.bool false)) w48
                                                          else
                                                           Rets Tryd.prog (70 : Nat) #[Value.pointer q11] w48 fun (v50 : Value) (w51 : World) =>
                                                            ∃ (q52 : Option Addr),
                                                             ∃ (n53 : Nat),
                                                              ∃ (n54 : Nat),
                                                               v50 = Value.slice q52 n53 n54 ∧
                                                                Keeps w48 w51 [] ∧
                                                                 Rets Tryd.prog (39 : Nat) #[Value.slice q52 n53 n54, Value.slice q44 n45 n46] w51
                                                                  fun (v55 : Value) (w56 : World) =>
                                                                  ∃ (t57 : Bool),
                                                                   v55 = Value.bool t57 ∧
                                                                    Keeps w51 w56 [] ∧
                                                                     bif !t57 then R (Ending.returned (Value.bool false)) w56
                                                                     else
                                                                      Rets Tryd.prog (71 : Nat) #[Value.pointer q11] w56
                                                                       fun (v58 : Value) (w59 : World) =>
                                                                       ∃ (i60 : Int),
                                                                        v58 = Value.int IntKind.i64 i60 ∧
                                                                         Keeps w56 w59 [] ∧
                                                                          Rets Tryd.prog (72 : Nat) #[Value.slice q44 n45 n46] w59
                                                                           fun (v61 : Value) (w62 : World) =>
                                                                           ∃ (i63 : Int),
                                                                            v61 = Value.int IntKind.i64 i63 ∧
                                                                             Keeps w59 w62 [] ∧
                                                                              bif i60 != i63 then R (Ending.returned (Value.bool false)) w62
                                                                              else
                                                                               Wr IntKind.i64 (i21 + (1 : Int)) fun (i64 : Int) =>
                                                                                I19 i64 q44 n45 n46 w62 ∧
                                                                                 I20 i64 q44 n45 n46 w62 < I20 i21 q22 n23 n24 w25
                            else
                             ((0 : Int) ≤ i21 ∧ i21 < (↑n1 : Int)) ∧
                              SX.Ptr p1 fun (a65 : Addr) =>
                               ∃ (i66 : Int),
                                ∃ (s67 : ByteArray),
                                 ∃ (i68 : Int),
                                  ∃ (i69 : Int),
                                   ∃ (i70 : Int),
                                    ∃ (i71 : Int),
                                     ∃ (i72 : Int),
                                      ∃ (i73 : Int),
                                       ∃ (s74 : ByteArray),
                                        (w25.cell? ((a65.add (i21.toNat * (9 : Nat))).add (0 : Nat)) = some (Value.int IntKind.i64 i66) ∧
                                          w25.cell? ((a65.add (i21.toNat * (9 : Nat))).add (1 : Nat)) = some (Value.string s67) ∧
                                           w25.cell? ((a65.add (i21.toNat * (9 : Nat))).add (2 : Nat)) = some (Value.int IntKind.i64 i68) ∧
                                            w25.cell? ((a65.add (i21.toNat * (9 : Nat))).add (3 : Nat)) = some (Value.int IntKind.i64 i69) ∧
                                             w25.cell? ((a65.add (i21.toNat * (9 : Nat))).add (4 : Nat)) = some (Value.int IntKind.i64 i70) ∧
                                              w25.cell? ((a65.add (i21.toNat * (9 : Nat))).add (5 : Nat)) = some (Value.int IntKind.i64 i71) ∧
                                               w25.cell? ((a65.add (i21.toNat * (9 : Nat))).add (6 : Nat)) = some (Value.int IntKind.u32 i72) ∧
                                                w25.cell? ((a65.add (i21.toNat * (9 : Nat))).add (7 : Nat)) = some (Value.int IntKind.i64 i73) ∧
                                                 w25.cell? ((a65.add (i21.toNat * (9 : Nat))).add (8 : Nat)) = some (Value.string s74) ∧ True) ∧
                                         Rets Tryd.prog (68 : Nat)
                                          #[Value.pointer q11, Value.slice q22 n23 n24,
                                           Value.agg
                                            #[Value.int IntKind.i64 i66, Value.string s67, Value.int IntKind.i64 i68, Value.int IntKind.i64 i69, Value.int IntKind.i64 i70,
                                             Value.int IntKind.i64 i71, Value.int IntKind.u32 i72, Value.int IntKind.i64 i73, Value.string s74]]
                                          w25 fun (v75 : Value) (w76 : World) =>
                                          ∃ (t77 : Bool),
                                           ∃ (q78 : Option Addr),
                                            ∃ (n79 : Nat),
                                             ∃ (n80 : Nat),
                                              v75 = Value.tuple #[Value.bool t77, Value.slice q78 n79 n80] ∧
                                               Keeps w25 w76 [] ∧
                                                bif !t77 then R (Ending.returned (Value.bool false)) w76
                                                else
                                                 Rets Tryd.prog (69 : Nat) #[Value.pointer q11] w76 fun (v81 : Value) (w82 : World) =>
                                                  ∃ (i83 : Int),
                                                   v81 = Value.int IntKind.i64 i83 ∧
                                                    Keeps w76 w82 [] ∧
                                                     bif i83 != (↑n79 : Int) then R (Ending.returned (Value.bool false)) w82
                                                     else
                                                      Rets Tryd.prog (70 : Nat) #[Value.pointer q11] w82 fun (v84 : Value) (w85 : World) =>
                                                       ∃ (q86 : Option Addr),
                                                        ∃ (n87 : Nat),
                                                         ∃ (n88 : Nat),
                                                          v84 = Value.slice q86 n87 n88 ∧
                                                           Keeps w82 w85 [] ∧
                                                            Rets Tryd.prog (39 : Nat) #[Value.slice q86 n87 n88, Value.slice q78 n79 n80] w85
                                                             fun (v89 : Value) (w90 : World) =>
                                                             ∃ (t91 : Bool),
                                                              v89 = Value.bool t91 ∧
                                                               Keeps w85 w90 [] ∧
                                                                bif !t91 then R (Ending.returned (Value.bool false)) w90
                                                                else
                                                                 Rets Tryd.prog (71 : Nat) #[Value.pointer q11] w90 fun (v92 : Value) (w93 : World) =>
                                                                  ∃ (i94 : Int),
                                                                   v92 = Value.int IntKind.i64 i94 ∧
                                                                    Keeps w90 w93 [] ∧
                                                                     Rets Tryd.prog (72 : Nat) #[Value.slice q78 n79 n80] w93
                                                                      fun (v95 : Value) (w96 : World) =>
                                                                      ∃ (i97 : Int),
                                                                       v95 = Value.int IntKind.i64 i97 ∧
                                                                        Keeps w93 w96 [] ∧
                                                                         bif i94 != i97 then R (Ending.returned (Value.bool false)) w96
                                                                         else
                                                                          Wr IntKind.i64 (i21 + (1 : Int)) fun (i98 : Int) =>
                                                                           I19 i98 q78 n79 n80 w96 ∧
                                                                            I20 i98 q78 n79 n80 w96 < I20 i21 q22 n23 n24 w25
                       else
                        Rets Tryd.prog (69 : Nat) #[Value.pointer q11] w25 fun (v99 : Value) (w100 : World) =>
                         ∃ (i101 : Int),
                          v99 = Value.int IntKind.i64 i101 ∧
                           Keeps w25 w100 [] ∧
                            bif i101 == (↑n23 : Int) then
                             Rets Tryd.prog (70 : Nat) #[Value.pointer q11] w100 fun (v102 : Value) (w103 : World) =>
                              ∃ (q104 : Option Addr),
                               ∃ (n105 : Nat),
                                ∃ (n106 : Nat),
                                 v102 = Value.slice q104 n105 n106 ∧
                                  Keeps w100 w103 [] ∧
                                   Rets Tryd.prog (39 : Nat) #[Value.slice q104 n105 n106, Value.slice q22 n23 n24] w103 fun (v107 : Value) (w108 : World) =>
                                    ∃ (t109 : Bool),
                                     v107 = Value.bool t109 ∧
                                      Keeps w103 w108 [] ∧
                                       bif t109 then
                                        Rets Tryd.prog (71 : Nat) #[Value.pointer q11] w108 fun (v110 : Value) (w111 : World) =>
                                         ∃ (i112 : Int),
                                          v110 = Value.int IntKind.i64 i112 ∧
                                           Keeps w108 w111 [] ∧
                                            Rets Tryd.prog (72 : Nat) #[Value.slice q22 n23 n24] w111 fun (v113 : Value) (w114 : World) =>
                                             ∃ (i115 : Int),
                                              v113 = Value.int IntKind.i64 i115 ∧
                                               Keeps w111 w114 [] ∧
                                                bif i112 == i115 then
                                                 Rets Tryd.prog (66 : Nat) #[] w114 fun (v116 : Value) (w117 : World) =>
                                                  ∃ (t118 : Bool), v116 = Value.bool t118 ∧ Keeps w114 w117 [] ∧ R (Ending.returned (Value.bool t118)) w117
                                                else R (Ending.returned (Value.bool false)) w114
                                       else R (Ending.returned (Value.bool false)) w108
                            else R (Ending.returned (Value.bool false)) w100
theorem vcTryd16 (p0 : Option Addr) (n0 c0 : Nat) (p1 : Option Addr) (n1 c1 : Nat) (w : World) (R : Ending → World → Prop) : SX.vcFn Tryd.prog [(11, ⟨[(9, .int .i64), (7, .slice)], [1, 5], []⟩)] Tryd.f16 [.v (.slice p0 n0 c0), .v (.slice p1 n1 c1)] [] w R = VCTryd16 p0 n0 c0 p1 n1 c1 w R := by kernel_rfl
def VCTryd68 (p : Option Addr) (q : Option Addr) (n c : Nat) (k : Int) (s : ByteArray) (a f r z u m : Int) (t : ByteArray) (w : World) (R : Ending → World → Prop) : Prop :=
Known
  (w.alloc
   (Obj.cells
    #[Value.int IntKind.i64 k, Value.string s, Value.int IntKind.i64 a, Value.int IntKind.i64 f, Value.int IntKind.i64 r, Value.int IntKind.i64 z, Value.int IntKind.u32 u, Value.int IntKind.i64 m, Value.string t]
    (84 : Nat)))
  [(w.heap.size,
    [((0 : Nat), Value.int IntKind.i64 k), ((1 : Nat), Value.string s), ((2 : Nat), Value.int IntKind.i64 a), ((3 : Nat), Value.int IntKind.i64 f), ((4 : Nat), Value.int IntKind.i64 r),
     ((5 : Nat), Value.int IntKind.i64 z), ((6 : Nat), Value.int IntKind.u32 u), ((7 : Nat), Value.int IntKind.i64 m), ((8 : Nat), Value.string t)])] →
 Rets Tryd.prog (125 : Nat) #[Value.slice q n c, Value.string t]
  (w.alloc
   (Obj.cells
    #[Value.int IntKind.i64 k, Value.string s, Value.int IntKind.i64 a, Value.int IntKind.i64 f, Value.int IntKind.i64 r, Value.int IntKind.i64 z, Value.int IntKind.u32 u, Value.int IntKind.i64 m, Value.string t]
    (84 : Nat)))
  fun (v0 : Value) (w1 : World) =>
  ∃ (i2 : Int),
   v0 = Value.int IntKind.i64 i2 ∧
    Keeps
      (w.alloc
       (Obj.cells
        #[Value.int IntKind.i64 k, Value.string s, Value.int IntKind.i64 a, Value.int IntKind.i64 f, Value.int IntKind.i64 r, Value.int IntKind.i64 z, Value.int IntKind.u32 u, Value.int IntKind.i64 m,
         Value.string t]
        (84 : Nat)))
      w1 [w.heap.size] ∧
     bif k == (0 : Int) then
      Known w1
        [(w.heap.size,
          [((0 : Nat), Value.int IntKind.i64 k), ((1 : Nat), Value.string s), ((2 : Nat), Value.int IntKind.i64 a), ((3 : Nat), Value.int IntKind.i64 f), ((4 : Nat), Value.int IntKind.i64 r),
           ((5 : Nat), Value.int IntKind.i64 z), ((6 : Nat), Value.int IntKind.u32 u), ((7 : Nat), Value.int IntKind.i64 m), ((8 : Nat), Value.string t)])] →
       Rets Tryd.prog (74 : Nat)
        #[Value.pointer p, Value.agg #[Value.string s, Value.int IntKind.i64 a, Value.int IntKind.i64 f, Value.int IntKind.i64 r, Value.int IntKind.i64 z, Value.int IntKind.u32 u, Value.int IntKind.i64 m]] w1
        fun (v3 : Value) (w4 : World) =>
        ∃ (i5 : Int),
         v3 = Value.int IntKind.i64 i5 ∧
          Keeps w1 w4 [w.heap.size] ∧
           (Known w4
             [(w.heap.size,
               [((0 : Nat), Value.int IntKind.i64 k), ((1 : Nat), Value.string s), ((2 : Nat), Value.int IntKind.i64 a), ((3 : Nat), Value.int IntKind.i64 f), ((4 : Nat), Value.int IntKind.i64 r),
                ((5 : Nat), Value.int IntKind.i64 z), ((6 : Nat), Value.int IntKind.u32 u), ((7 : Nat), Value.int IntKind.i64 m), ((8 : Nat), Value.string t)])] →
            Rets Tryd.prog (45 : Nat)
             #[Value.agg #[Value.string s, Value.int IntKind.i64 a, Value.int IntKind.i64 f, Value.int IntKind.i64 r, Value.int IntKind.i64 z, Value.int IntKind.u32 u, Value.int IntKind.i64 m]] w4
             fun (v6 : Value) (w7 : World) =>
             ∃ (t8 : Bool),
              v6 = Value.bool t8 ∧
               Keeps w4 w7 [w.heap.size] ∧
                bif !t8 then
                 Known w7
                   [(w.heap.size,
                     [((0 : Nat), Value.int IntKind.i64 k), ((1 : Nat), Value.string s), ((2 : Nat), Value.int IntKind.i64 a), ((3 : Nat), Value.int IntKind.i64 f),
                      ((4 : Nat), Value.int IntKind.i64 r), ((5 : Nat), Value.int IntKind.i64 z), ((6 : Nat), Value.int IntKind.u32 u), ((7 : Nat), Value.int IntKind.i64 m),
                      ((8 : Nat), Value.string t)])] →
                  R (Ending.returned (Value.tuple #[Value.bool (i5 == (1 : Int)), Value.slice q n c])) w7
                else
                 Known w7
                   [(w.heap.size,
                     [((0 : Nat), Value.int IntKind.i64 k), ((1 : Nat), Value.string s), ((2 : Nat), Value.int IntKind.i64 a), ((3 : Nat), Value.int IntKind.i64 f),
                      ((4 : Nat), Value.int IntKind.i64 r), ((5 : Nat), Value.int IntKind.i64 z), ((6 : Nat), Value.int IntKind.u32 u), ((7 : Nat), Value.int IntKind.i64 m),
                      ((8 : Nat), Value.string t)])] →
                  Rets Tryd.prog (126 : Nat) #[Value.slice q n c, Value.string s] w7 fun (v9 : Value) (w10 : World) =>
                   ∃ (t11 : Bool),
                    v9 = Value.bool t11 ∧
                     Keeps w7 w10 [w.heap.size] ∧
                      bif !t11 then
                       Known w10
                         [(w.heap.size,
                           [((0 : Nat), Value.int IntKind.i64 k), ((1 : Nat), Value.string s), ((2 : Nat), Value.int IntKind.i64 a), ((3 : Nat), Value.int IntKind.i64 f),
                            ((4 : Nat), Value.int IntKind.i64 r), ((5 : Nat), Value.int IntKind.i64 z), ((6 : Nat), Value.int IntKind.u32 u), ((7 : Nat), Value.int IntKind.i64 m),
                            ((8 : Nat), Value.string t)])] →
                        R (Ending.returned (Value.tuple #[Value.bool (i5 == (14 : Int)), Value.slice q n c])) w10
                      else
                       Known w10
                         [(w.heap.size,
                           [((0 : Nat), Value.int IntKind.i64 k), ((1 : Nat), Value.string s), ((2 : Nat), Value.int IntKind.i64 a), ((3 : Nat), Value.int IntKind.i64 f),
                            ((4 : Nat), Value.int IntKind.i64 r), ((5 : Nat), Value.int IntKind.i64 z), ((6 : Nat), Value.int IntKind.u32 u), ((7 : Nat), Value.int IntKind.i64 m),
                            ((8 : Nat), Value.string t)])] →
                        Rets Tryd.prog (127 : Nat)
                         #[Value.slice q n c,
                          Value.agg
                           #[Value.string s, Value.int IntKind.i64 a, Value.int IntKind.i64 f, Value.int IntKind.i64 r, Value.int IntKind.i64 z, Value.int IntKind.u32 u,
                            Value.int IntKind.i64 m]]
                         w10 fun (v12 : Value) (w13 : World) =>
                         ∃ (q14 : Option Addr),
                          ∃ (n15 : Nat),
                           ∃ (n16 : Nat),
                            v12 = Value.slice q14 n15 n16 ∧
                             Keeps w10 w13 [w.heap.size] ∧
                              (Known w13
                                [(w.heap.size,
                                  [((0 : Nat), Value.int IntKind.i64 k), ((1 : Nat), Value.string s), ((2 : Nat), Value.int IntKind.i64 a), ((3 : Nat), Value.int IntKind.i64 f),
                                   ((4 : Nat), Value.int IntKind.i64 r), ((5 : Nat), Value.int IntKind.i64 z), ((6 : Nat), Value.int IntKind.u32 u),
                                   ((7 : Nat), Value.int IntKind.i64 m), ((8 : Nat), Value.string t)])] →
                               R (Ending.returned (Value.tuple #[Value.bool (i5 == (0 : Int)), Value.slice q14 n15 n16])) w13))
     else
      bif k == (1 : Int) then
       Known w1.drew
         [(w.heap.size,
           [((0 : Nat), Value.int IntKind.i64 k), ((1 : Nat), Value.string s), ((2 : Nat), Value.int IntKind.i64 a), ((3 : Nat), Value.int IntKind.i64 f), ((4 : Nat), Value.int IntKind.i64 r),
            ((5 : Nat), Value.int IntKind.i64 z), ((6 : Nat), Value.int IntKind.u32 u), ((7 : Nat), Value.int IntKind.i64 m), ((8 : Nat), Value.string t)])] →
        Rets Tryd.prog (75 : Nat) #[Value.pointer p, Value.string t] w1.drew fun (v17 : Value) (w18 : World) =>
         ∃ (t19 : Bool),
          v17 = Value.bool t19 ∧
           Keeps w1.drew w18 [w.heap.size] ∧
            w18.cell? { block := w.heap.size, off := (8 : Nat) } = some (Value.string t) ∧
             (Known w18
               [(w.heap.size,
                 [((0 : Nat), Value.int IntKind.i64 k), ((1 : Nat), Value.string s), ((2 : Nat), Value.int IntKind.i64 a), ((3 : Nat), Value.int IntKind.i64 f), ((4 : Nat), Value.int IntKind.i64 r),
                  ((5 : Nat), Value.int IntKind.i64 z), ((6 : Nat), Value.int IntKind.u32 u), ((7 : Nat), Value.int IntKind.i64 m), ((8 : Nat), Value.string t)])] →
              Rets Tryd.prog (128 : Nat) #[Value.slice q n c, Value.string t] w18 fun (v20 : Value) (w21 : World) =>
               ∃ (q22 : Option Addr),
                ∃ (n23 : Nat),
                 ∃ (n24 : Nat),
                  v20 = Value.slice q22 n23 n24 ∧
                   Keeps w18 w21 [w.heap.size] ∧
                    (Known w21
                      [(w.heap.size,
                        [((0 : Nat), Value.int IntKind.i64 k), ((1 : Nat), Value.string s), ((2 : Nat), Value.int IntKind.i64 a), ((3 : Nat), Value.int IntKind.i64 f),
                         ((4 : Nat), Value.int IntKind.i64 r), ((5 : Nat), Value.int IntKind.i64 z), ((6 : Nat), Value.int IntKind.u32 u), ((7 : Nat), Value.int IntKind.i64 m),
                         ((8 : Nat), Value.string t)])] →
                     R (Ending.returned (Value.tuple #[Value.bool (t19 == decide (i2 ≥ (0 : Int))), Value.slice q22 n23 n24])) w21))
      else
       bif k == (2 : Int) then
        Known w1
          [(w.heap.size,
            [((0 : Nat), Value.int IntKind.i64 k), ((1 : Nat), Value.string s), ((2 : Nat), Value.int IntKind.i64 a), ((3 : Nat), Value.int IntKind.i64 f), ((4 : Nat), Value.int IntKind.i64 r),
             ((5 : Nat), Value.int IntKind.i64 z), ((6 : Nat), Value.int IntKind.u32 u), ((7 : Nat), Value.int IntKind.i64 m), ((8 : Nat), Value.string t)])] →
         Rets Tryd.prog (73 : Nat) #[Value.pointer p, Value.string t] w1 fun (v25 : Value) (w26 : World) =>
          ∃ (s27 : ByteArray),
           ∃ (i28 : Int),
            ∃ (i29 : Int),
             ∃ (i30 : Int),
              ∃ (i31 : Int),
               ∃ (i32 : Int),
                ∃ (i33 : Int),
                 ∃ (t34 : Bool),
                  v25 =
                    Value.tuple
                     #[Value.agg
                       #[Value.string s27, Value.int IntKind.i64 i28, Value.int IntKind.i64 i29, Value.int IntKind.i64 i30, Value.int IntKind.i64 i31, Value.int IntKind.u32 i32,
                        Value.int IntKind.i64 i33],
                      Value.bool t34] ∧
                   Keeps w1 w26 [w.heap.size] ∧
                    bif decide (i2 < (0 : Int)) then
                     bif !t34 then
                      true = true ∧
                       (Known
                         ((((((((w26.alloc
                                        (Obj.cells
                                         #[Value.string { data := #[] }, Value.int IntKind.i64 (0 : Int), Value.int IntKind.i64 (0 : Int), Value.int IntKind.i64 (0 : Int),
                                          Value.int IntKind.i64 (0 : Int), Value.int IntKind.u32 (0 : Int), Value.int IntKind.i64 (0 : Int)]
                                         (50 : Nat))).setCell
                                      {block := w26.heap.size, off := (0 : Nat) } (Value.string s27)).setCell
                                    {block := w26.heap.size, off := (1 : Nat) } (Value.int IntKind.i64 i28)).setCell
                                  {block := w26.heap.size, off := (2 : Nat) } (Value.int IntKind.i64 i29)).setCell
                                {block := w26.heap.size, off := (3 : Nat) } (Value.int IntKind.i64 i30)).setCell
                              {block := w26.heap.size, off := (4 : Nat) } (Value.int IntKind.i64 i31)).setCell
                            {block := w26.heap.size, off := (5 : Nat) } (Value.int IntKind.u32 i32)).setCell
                          {block := w26.heap.size, off := (6 : Nat) } (Value.int IntKind.i64 i33))
                         [(w.heap.size,
                           [((0 : Nat), Value.int IntKind.i64 k), ((1 : Nat), Value.string s), ((2 : Nat), Value.int IntKind.i64 a), ((3 : Nat), Value.int IntKind.i64 f),
                            ((4 : Nat), Value.int IntKind.i64 r), ((5 : Nat), Value.int IntKind.i64 z), ((6 : Nat), Value.int IntKind.u32 u), ((7 : Nat), Value.int IntKind.i64 m),
                            ((8 : Nat), Value.string t)]),
                          (w26.heap.size,
                           [((0 : Nat), Value.string s27), ((1 : Nat), Value.int IntKind.i64 i28), ((2 : Nat), Value.int IntKind.i64 i29), ((3 : Nat), Value.int IntKind.i64 i30),
                            ((4 : Nat), Value.int IntKind.i64 i31), ((5 : Nat), Value.int IntKind.u32 i32), ((6 : Nat), Value.int IntKind.i64 i33)])] →
                        R
                         (Ending.returned
                          (Value.tuple
                           #[Value.bool
                             (s27.toList == ({ data := #[] } : ByteArray).toList &&
                              (i28 == (0 : Int) && (i29 == (0 : Int) && (i30 == (0 : Int) && (i31 == (0 : Int) && (i32 == (0 : Int) && i33 == (0 : Int))))))),
                            Value.slice q n c]))
                         ((((((((w26.alloc
                                        (Obj.cells
                                         #[Value.string { data := #[] }, Value.int IntKind.i64 (0 : Int), Value.int IntKind.i64 (0 : Int), Value.int IntKind.i64 (0 : Int),
                                          Value.int IntKind.i64 (0 : Int), Value.int IntKind.u32 (0 : Int), Value.int IntKind.i64 (0 : Int)]
                                         (50 : Nat))).setCell
                                      {block := w26.heap.size, off := (0 : Nat) } (Value.string s27)).setCell
                                    {block := w26.heap.size, off := (1 : Nat) } (Value.int IntKind.i64 i28)).setCell
                                  {block := w26.heap.size, off := (2 : Nat) } (Value.int IntKind.i64 i29)).setCell
                                {block := w26.heap.size, off := (3 : Nat) } (Value.int IntKind.i64 i30)).setCell
                              {block := w26.heap.size, off := (4 : Nat) } (Value.int IntKind.i64 i31)).setCell
                            {block := w26.heap.size, off := (5 : Nat) } (Value.int IntKind.u32 i32)).setCell
                          {block := w26.heap.size, off := (6 : Nat) } (Value.int IntKind.i64 i33)))
                     else
                      Known
                        ((((((((w26.alloc
                                       (Obj.cells
                                        #[Value.string { data := #[] }, Value.int IntKind.i64 (0 : Int), Value.int IntKind.i64 (0 : Int), Value.int IntKind.i64 (0 : Int),
                                         Value.int IntKind.i64 (0 : Int), Value.int IntKind.u32 (0 : Int), Value.int IntKind.i64 (0 : Int)]
                                        (50 : Nat))).setCell
                                     {block := w26.heap.size, off := (0 : Nat) } (Value.string s27)).setCell
                                   {block := w26.heap.size, off := (1 : Nat) } (Value.int IntKind.i64 i28)).setCell
                                 {block := w26.heap.size, off := (2 : Nat) } (Value.int IntKind.i64 i29)).setCell
                               {block := w26.heap.size, off := (3 : Nat) } (Value.int IntKind.i64 i30)).setCell
                             {block := w26.heap.size, off := (4 : Nat) } (Value.int IntKind.i64 i31)).setCell
                           {block := w26.heap.size, off := (5 : Nat) } (Value.int IntKind.u32 i32)).setCell
                         {block := w26.heap.size, off := (6 : Nat) } (Value.int IntKind.i64 i33))
                        [(w.heap.size,
                          [((0 : Nat), Value.int IntKind.i64 k), ((1 : Nat), Value.string s), ((2 : Nat), Value.int IntKind.i64 a), ((3 : Nat), Value.int IntKind.i64 f),
                           ((4 : Nat), Value.int IntKind.i64 r), ((5 : Nat), Value.int IntKind.i64 z), ((6 : Nat), Value.int IntKind.u32 u), ((7 : Nat), Value.int IntKind.i64 m),
                           ((8 : Nat), Value.string t)]),
                         (w26.heap.size,
                          [((0 : Nat), Value.string s27), ((1 : Nat), Value.int IntKind.i64 i28), ((2 : Nat), Value.int IntKind.i64 i29), ((3 : Nat), Value.int IntKind.i64 i30),
                           ((4 : Nat), Value.int IntKind.i64 i31), ((5 : Nat), Value.int IntKind.u32 i32), ((6 : Nat), Value.int IntKind.i64 i33)])] →
                       R (Ending.returned (Value.tuple #[Value.bool false, Value.slice q n c]))
                        ((((((((w26.alloc
                                       (Obj.cells
                                        #[Value.string { data := #[] }, Value.int IntKind.i64 (0 : Int), Value.int IntKind.i64 (0 : Int), Value.int IntKind.i64 (0 : Int),
                                         Value.int IntKind.i64 (0 : Int), Value.int IntKind.u32 (0 : Int), Value.int IntKind.i64 (0 : Int)]
                                        (50 : Nat))).setCell
                                     {block := w26.heap.size, off := (0 : Nat) } (Value.string s27)).setCell
                                   {block := w26.heap.size, off := (1 : Nat) } (Value.int IntKind.i64 i28)).setCell
                                 {block := w26.heap.size, off := (2 : Nat) } (Value.int IntKind.i64 i29)).setCell
                               {block := w26.heap.size, off := (3 : Nat) } (Value.int IntKind.i64 i30)).setCell
                             {block := w26.heap.size, off := (4 : Nat) } (Value.int IntKind.i64 i31)).setCell
                           {block := w26.heap.size, off := (5 : Nat) } (Value.int IntKind.u32 i32)).setCell
                         {block := w26.heap.size, off := (6 : Nat) } (Value.int IntKind.i64 i33))
                    else
                     bif t34 then
                      ((0 : Int) ≤ i2 ∧ i2 < (↑n : Int)) ∧
                       SX.Ptr q fun (a35 : Addr) =>
                        ∃ (s36 : ByteArray),
                         ∃ (i37 : Int),
                          ∃ (i38 : Int),
                           ∃ (i39 : Int),
                            ∃ (i40 : Int),
                             ∃ (i41 : Int),
                              ∃ (i42 : Int),
                               (((((((((w26.alloc
                                                    (Obj.cells
                                                     #[Value.string { data := #[] }, Value.int IntKind.i64 (0 : Int), Value.int IntKind.i64 (0 : Int),
                                                      Value.int IntKind.i64 (0 : Int), Value.int IntKind.i64 (0 : Int), Value.int IntKind.u32 (0 : Int),
                                                      Value.int IntKind.i64 (0 : Int)]
                                                     (50 : Nat))).setCell
                                                  {block := w26.heap.size, off := (0 : Nat) } (Value.string s27)).setCell
                                                {block := w26.heap.size, off := (1 : Nat) } (Value.int IntKind.i64 i28)).setCell
                                              {block := w26.heap.size, off := (2 : Nat) } (Value.int IntKind.i64 i29)).setCell
                                            {block := w26.heap.size, off := (3 : Nat) } (Value.int IntKind.i64 i30)).setCell
                                          {block := w26.heap.size, off := (4 : Nat) } (Value.int IntKind.i64 i31)).setCell
                                        {block := w26.heap.size, off := (5 : Nat) } (Value.int IntKind.u32 i32)).setCell
                                      {block := w26.heap.size, off := (6 : Nat) } (Value.int IntKind.i64 i33)).drew.cell?
                                   ((a35.add (i2.toNat * (7 : Nat))).add (0 : Nat)) =
                                  some (Value.string s36) ∧
                                 ((((((((w26.alloc
                                                     (Obj.cells
                                                      #[Value.string { data := #[] }, Value.int IntKind.i64 (0 : Int), Value.int IntKind.i64 (0 : Int),
                                                       Value.int IntKind.i64 (0 : Int), Value.int IntKind.i64 (0 : Int), Value.int IntKind.u32 (0 : Int),
                                                       Value.int IntKind.i64 (0 : Int)]
                                                      (50 : Nat))).setCell
                                                   {block := w26.heap.size, off := (0 : Nat) } (Value.string s27)).setCell
                                                 {block := w26.heap.size, off := (1 : Nat) } (Value.int IntKind.i64 i28)).setCell
                                               {block := w26.heap.size, off := (2 : Nat) } (Value.int IntKind.i64 i29)).setCell
                                             {block := w26.heap.size, off := (3 : Nat) } (Value.int IntKind.i64 i30)).setCell
                                           {block := w26.heap.size, off := (4 : Nat) } (Value.int IntKind.i64 i31)).setCell
                                         {block := w26.heap.size, off := (5 : Nat) } (Value.int IntKind.u32 i32)).setCell
                                       {block := w26.heap.size, off := (6 : Nat) } (Value.int IntKind.i64 i33)).drew.cell?
                                    ((a35.add (i2.toNat * (7 : Nat))).add (1 : Nat)) =
                                   some (Value.int IntKind.i64 i37) ∧
                                  ((((((((w26.alloc
                                                      (Obj.cells
                                                       #[Value.string { data := #[] }, Value.int IntKind.i64 (0 : Int), Value.int IntKind.i64 (0 : Int),
                                                        Value.int IntKind.i64 (0 : Int), Value.int IntKind.i64 (0 : Int), Value.int IntKind.u32 (0 : Int),
                                                        Value.int IntKind.i64 (0 : Int)]
                                                       (50 : Nat))).setCell
                                                    {block := w26.heap.size, off := (0 : Nat) } (Value.string s27)).setCell
                                                  {block := w26.heap.size, off := (1 : Nat) } (Value.int IntKind.i64 i28)).setCell
                                                {block := w26.heap.size, off := (2 : Nat) } (Value.int IntKind.i64 i29)).setCell
                                              {block := w26.heap.size, off := (3 : Nat) } (Value.int IntKind.i64 i30)).setCell
                                            {block := w26.heap.size, off := (4 : Nat) } (Value.int IntKind.i64 i31)).setCell
                                          {block := w26.heap.size, off := (5 : Nat) } (Value.int IntKind.u32 i32)).setCell
                                        {block := w26.heap.size, off := (6 : Nat) } (Value.int IntKind.i64 i33)).drew.cell?
                                     ((a35.add (i2.toNat * (7 : Nat))).add (2 : Nat)) =
                                    some (Value.int IntKind.i64 i38) ∧
                                   ((((((((w26.alloc
                                                       (Obj.cells
                                                        #[Value.string { data := #[] }, Value.int IntKind.i64 (0 : Int), Value.int IntKind.i64 (0 : Int),
                                                         Value.int IntKind.i64 (0 : Int), Value.int IntKind.i64 (0 : Int), Value.int IntKind.u32 (0 : Int),
                                                         Value.int IntKind.i64 (0 : Int)]
                                                        (50 : Nat))).setCell
                                                     {block := w26.heap.size, off := (0 : Nat) } (Value.string s27)).setCell
                                                   {block := w26.heap.size, off := (1 : Nat) } (Value.int IntKind.i64 i28)).setCell
                                                 {block := w26.heap.size, off := (2 : Nat) } (Value.int IntKind.i64 i29)).setCell
                                               {block := w26.heap.size, off := (3 : Nat) } (Value.int IntKind.i64 i30)).setCell
                                             {block := w26.heap.size, off := (4 : Nat) } (Value.int IntKind.i64 i31)).setCell
                                           {block := w26.heap.size, off := (5 : Nat) } (Value.int IntKind.u32 i32)).setCell
                                         {block := w26.heap.size, off := (6 : Nat) } (Value.int IntKind.i64 i33)).drew.cell?
                                      ((a35.add (i2.toNat * (7 : Nat))).add (3 : Nat)) =
                                     some (Value.int IntKind.i64 i39) ∧
                                    ((((((((w26.alloc
                                                        (Obj.cells
                                                         #[Value.string { data := #[] }, Value.int IntKind.i64 (0 : Int), Value.int IntKind.i64 (0 : Int),
                                                          Value.int IntKind.i64 (0 : Int), Value.int IntKind.i64 (0 : Int), Value.int IntKind.u32 (0 : Int),
                                                          Value.int IntKind.i64 (0 : Int)]
                                                         (50 : Nat))).setCell
                                                      {block := w26.heap.size, off := (0 : Nat) } (Value.string s27)).setCell
                                                    {block := w26.heap.size, off := (1 : Nat) } (Value.int IntKind.i64 i28)).setCell
                                                  {block := w26.heap.size, off := (2 : Nat) } (Value.int IntKind.i64 i29)).setCell
                                                {block := w26.heap.size, off := (3 : Nat) } (Value.int IntKind.i64 i30)).setCell
                                              {block := w26.heap.size, off := (4 : Nat) } (Value.int IntKind.i64 i31)).setCell
                                            {block := w26.heap.size, off := (5 : Nat) } (Value.int IntKind.u32 i32)).setCell
                                          {block := w26.heap.size, off := (6 : Nat) } (Value.int IntKind.i64 i33)).drew.cell?
                                       ((a35.add (i2.toNat * (7 : Nat))).add (4 : Nat)) =
                                      some (Value.int IntKind.i64 i40) ∧
                                     ((((((((w26.alloc
                                                         (Obj.cells
                                                          #[Value.string { data := #[] }, Value.int IntKind.i64 (0 : Int), Value.int IntKind.i64 (0 : Int),
                                                           Value.int IntKind.i64 (0 : Int), Value.int IntKind.i64 (0 : Int), Value.int IntKind.u32 (0 : Int),
                                                           Value.int IntKind.i64 (0 : Int)]
                                                          (50 : Nat))).setCell
                                                       {block := w26.heap.size, off := (0 : Nat) } (Value.string s27)).setCell
                                                     {block := w26.heap.size, off := (1 : Nat) } (Value.int IntKind.i64 i28)).setCell
                                                   {block := w26.heap.size, off := (2 : Nat) } (Value.int IntKind.i64 i29)).setCell
                                                 {block := w26.heap.size, off := (3 : Nat) } (Value.int IntKind.i64 i30)).setCell
                                               {block := w26.heap.size, off := (4 : Nat) } (Value.int IntKind.i64 i31)).setCell
                                             {block := w26.heap.size, off := (5 : Nat) } (Value.int IntKind.u32 i32)).setCell
                                           {block := w26.heap.size, off := (6 : Nat) } (Value.int IntKind.i64 i33)).drew.cell?
                                        ((a35.add (i2.toNat * (7 : Nat))).add (5 : Nat)) =
                                       some (Value.int IntKind.u32 i41) ∧
                                      ((((((((w26.alloc
                                                          (Obj.cells
                                                           #[Value.string { data := #[] }, Value.int IntKind.i64 (0 : Int), Value.int IntKind.i64 (0 : Int),
                                                            Value.int IntKind.i64 (0 : Int), Value.int IntKind.i64 (0 : Int), Value.int IntKind.u32 (0 : Int),
                                                            Value.int IntKind.i64 (0 : Int)]
                                                           (50 : Nat))).setCell
                                                        {block := w26.heap.size, off := (0 : Nat) } (Value.string s27)).setCell
                                                      {block := w26.heap.size, off := (1 : Nat) } (Value.int IntKind.i64 i28)).setCell
                                                    {block := w26.heap.size, off := (2 : Nat) } (Value.int IntKind.i64 i29)).setCell
                                                  {block := w26.heap.size, off := (3 : Nat) } (Value.int IntKind.i64 i30)).setCell
                                                {block := w26.heap.size, off := (4 : Nat) } (Value.int IntKind.i64 i31)).setCell
                                              {block := w26.heap.size, off := (5 : Nat) } (Value.int IntKind.u32 i32)).setCell
                                            {block := w26.heap.size, off := (6 : Nat) } (Value.int IntKind.i64 i33)).drew.cell?
                                         ((a35.add (i2.toNat * (7 : Nat))).add (6 : Nat)) =
                                        some (Value.int IntKind.i64 i42) ∧
                                       True) ∧
                                true = true ∧
                                 (Known
                                   ((((((((w26.alloc
                                                   (Obj.cells
                                                    #[Value.string { data := #[] }, Value.int IntKind.i64 (0 : Int), Value.int IntKind.i64 (0 : Int),
                                                     Value.int IntKind.i64 (0 : Int), Value.int IntKind.i64 (0 : Int), Value.int IntKind.u32 (0 : Int),
                                                     Value.int IntKind.i64 (0 : Int)]
                                                    (50 : Nat))).setCell
                                                 {block := w26.heap.size, off := (0 : Nat) } (Value.string s27)).setCell
                                               {block := w26.heap.size, off := (1 : Nat) } (Value.int IntKind.i64 i28)).setCell
                                             {block := w26.heap.size, off := (2 : Nat) } (Value.int IntKind.i64 i29)).setCell
                                           {block := w26.heap.size, off := (3 : Nat) } (Value.int IntKind.i64 i30)).setCell
                                         {block := w26.heap.size, off := (4 : Nat) } (Value.int IntKind.i64 i31)).setCell
                                       {block := w26.heap.size, off := (5 : Nat) } (Value.int IntKind.u32 i32)).setCell
                                     {block := w26.heap.size, off := (6 : Nat) } (Value.int IntKind.i64 i33)).drew
                                   [(w.heap.size,
                                     [((0 : Nat), Value.int IntKind.i64 k), ((1 : Nat), Value.string s), ((2 : Nat), Value.int IntKind.i64 a), ((3 : Nat), Value.int IntKind.i64 f),
                                      ((4 : Nat), Value.int IntKind.i64 r), ((5 : Nat), Value.int IntKind.i64 z), ((6 : Nat), Value.int IntKind.u32 u),
                                      ((7 : Nat), Value.int IntKind.i64 m), ((8 : Nat), Value.string t)]),
                                    (w26.heap.size,
                                     [((0 : Nat), Value.string s27), ((1 : Nat), Value.int IntKind.i64 i28), ((2 : Nat), Value.int IntKind.i64 i29),
                                      ((3 : Nat), Value.int IntKind.i64 i30), ((4 : Nat), Value.int IntKind.i64 i31), ((5 : Nat), Value.int IntKind.u32 i32),
                                      ((6 : Nat), Value.int IntKind.i64 i33)])] →
                                  R
                                   (Ending.returned
                                    (Value.tuple
                                     #[Value.bool (s27.toList == s36.toList && (i28 == i37 && (i29 == i38 && (i30 == i39 && (i31 == i40 && (i32 == i41 && i33 == i42)))))),
                                      Value.slice q n c]))
                                   ((((((((w26.alloc
                                                   (Obj.cells
                                                    #[Value.string { data := #[] }, Value.int IntKind.i64 (0 : Int), Value.int IntKind.i64 (0 : Int),
                                                     Value.int IntKind.i64 (0 : Int), Value.int IntKind.i64 (0 : Int), Value.int IntKind.u32 (0 : Int),
                                                     Value.int IntKind.i64 (0 : Int)]
                                                    (50 : Nat))).setCell
                                                 {block := w26.heap.size, off := (0 : Nat) } (Value.string s27)).setCell
                                               {block := w26.heap.size, off := (1 : Nat) } (Value.int IntKind.i64 i28)).setCell
                                             {block := w26.heap.size, off := (2 : Nat) } (Value.int IntKind.i64 i29)).setCell
                                           {block := w26.heap.size, off := (3 : Nat) } (Value.int IntKind.i64 i30)).setCell
                                         {block := w26.heap.size, off := (4 : Nat) } (Value.int IntKind.i64 i31)).setCell
                                       {block := w26.heap.size, off := (5 : Nat) } (Value.int IntKind.u32 i32)).setCell
                                     {block := w26.heap.size, off := (6 : Nat) } (Value.int IntKind.i64 i33)).drew)
                     else
                      Known
                        ((((((((w26.alloc
                                        (Obj.cells
                                         #[Value.string { data := #[] }, Value.int IntKind.i64 (0 : Int), Value.int IntKind.i64 (0 : Int), Value.int IntKind.i64 (0 : Int),
                                          Value.int IntKind.i64 (0 : Int), Value.int IntKind.u32 (0 : Int), Value.int IntKind.i64 (0 : Int)]
                                         (50 : Nat))).setCell
                                      {block := w26.heap.size, off := (0 : Nat) } (Value.string s27)).setCell
                                    {block := w26.heap.size, off := (1 : Nat) } (Value.int IntKind.i64 i28)).setCell
                                  {block := w26.heap.size, off := (2 : Nat) } (Value.int IntKind.i64 i29)).setCell
                                {block := w26.heap.size, off := (3 : Nat) } (Value.int IntKind.i64 i30)).setCell
                              {block := w26.heap.size, off := (4 : Nat) } (Value.int IntKind.i64 i31)).setCell
                            {block := w26.heap.size, off := (5 : Nat) } (Value.int IntKind.u32 i32)).setCell
                          {block := w26.heap.size, off := (6 : Nat) } (Value.int IntKind.i64 i33)).drew
                        [(w.heap.size,
                          [((0 : Nat), Value.int IntKind.i64 k), ((1 : Nat), Value.string s), ((2 : Nat), Value.int IntKind.i64 a), ((3 : Nat), Value.int IntKind.i64 f),
                           ((4 : Nat), Value.int IntKind.i64 r), ((5 : Nat), Value.int IntKind.i64 z), ((6 : Nat), Value.int IntKind.u32 u), ((7 : Nat), Value.int IntKind.i64 m),
                           ((8 : Nat), Value.string t)]),
                         (w26.heap.size,
                          [((0 : Nat), Value.string s27), ((1 : Nat), Value.int IntKind.i64 i28), ((2 : Nat), Value.int IntKind.i64 i29), ((3 : Nat), Value.int IntKind.i64 i30),
                           ((4 : Nat), Value.int IntKind.i64 i31), ((5 : Nat), Value.int IntKind.u32 i32), ((6 : Nat), Value.int IntKind.i64 i33)])] →
                       R (Ending.returned (Value.tuple #[Value.bool false, Value.slice q n c]))
                        ((((((((w26.alloc
                                        (Obj.cells
                                         #[Value.string { data := #[] }, Value.int IntKind.i64 (0 : Int), Value.int IntKind.i64 (0 : Int), Value.int IntKind.i64 (0 : Int),
                                          Value.int IntKind.i64 (0 : Int), Value.int IntKind.u32 (0 : Int), Value.int IntKind.i64 (0 : Int)]
                                         (50 : Nat))).setCell
                                      {block := w26.heap.size, off := (0 : Nat) } (Value.string s27)).setCell
                                    {block := w26.heap.size, off := (1 : Nat) } (Value.int IntKind.i64 i28)).setCell
                                  {block := w26.heap.size, off := (2 : Nat) } (Value.int IntKind.i64 i29)).setCell
                                {block := w26.heap.size, off := (3 : Nat) } (Value.int IntKind.i64 i30)).setCell
                              {block := w26.heap.size, off := (4 : Nat) } (Value.int IntKind.i64 i31)).setCell
                            {block := w26.heap.size, off := (5 : Nat) } (Value.int IntKind.u32 i32)).setCell
                          {block := w26.heap.size, off := (6 : Nat) } (Value.int IntKind.i64 i33)).drew
       else
        Known w1.drew
          [(w.heap.size,
            [((0 : Nat), Value.int IntKind.i64 k), ((1 : Nat), Value.string s), ((2 : Nat), Value.int IntKind.i64 a), ((3 : Nat), Value.int IntKind.i64 f), ((4 : Nat), Value.int IntKind.i64 r),
             ((5 : Nat), Value.int IntKind.i64 z), ((6 : Nat), Value.int IntKind.u32 u), ((7 : Nat), Value.int IntKind.i64 m), ((8 : Nat), Value.string t)])] →
         Rets Tryd.prog (80 : Nat) #[Value.pointer p, Value.string t] w1.drew fun (v43 : Value) (w44 : World) =>
          ∃ (t45 : Bool),
           v43 = Value.bool t45 ∧
            Keeps w1.drew w44 [w.heap.size] ∧
             w44.cell? { block := w.heap.size, off := (8 : Nat) } = some (Value.string t) ∧
              (Known w44
                [(w.heap.size,
                  [((0 : Nat), Value.int IntKind.i64 k), ((1 : Nat), Value.string s), ((2 : Nat), Value.int IntKind.i64 a), ((3 : Nat), Value.int IntKind.i64 f), ((4 : Nat), Value.int IntKind.i64 r),
                   ((5 : Nat), Value.int IntKind.i64 z), ((6 : Nat), Value.int IntKind.u32 u), ((7 : Nat), Value.int IntKind.i64 m), ((8 : Nat), Value.string t)])] →
               Rets Tryd.prog (126 : Nat) #[Value.slice q n c, Value.string t] w44 fun (v46 : Value) (w47 : World) =>
                ∃ (t48 : Bool),
                 v46 = Value.bool t48 ∧
                  Keeps w44 w47 [w.heap.size] ∧
                   (Known w47
                     [(w.heap.size,
                       [((0 : Nat), Value.int IntKind.i64 k), ((1 : Nat), Value.string s), ((2 : Nat), Value.int IntKind.i64 a), ((3 : Nat), Value.int IntKind.i64 f),
                        ((4 : Nat), Value.int IntKind.i64 r), ((5 : Nat), Value.int IntKind.i64 z), ((6 : Nat), Value.int IntKind.u32 u), ((7 : Nat), Value.int IntKind.i64 m),
                        ((8 : Nat), Value.string t)])] →
                    R (Ending.returned (Value.tuple #[Value.bool (t45 == t48), Value.slice q n c])) w47))
theorem vcTryd68 (p : Option Addr) (q : Option Addr) (n c : Nat) (k : Int) (s : ByteArray) (a f r z u m : Int) (t : ByteArray) (w : World) (R : Ending → World → Prop) : SX.vcFn Tryd.prog [] Tryd.f68 [.v (.pointer p), .v (.slice q n c), .v (.agg #[.int .i64 k, .string s, .int .i64 a, .int .i64 f, .int .i64 r, .int .i64 z, .int .u32 u, .int .i64 m, .string t])] [] w R = VCTryd68 p q n c k s a f r z u m t w R := by kernel_rfl
end Go.Proofs.YtbpknjldphckgaaDoor
