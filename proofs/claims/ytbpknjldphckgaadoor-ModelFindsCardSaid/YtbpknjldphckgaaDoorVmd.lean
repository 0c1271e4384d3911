/- The conditions of functions, as the executor computes them: each is equal to what 'vcFn' says. -/
import Derived.Test.YtbpknjldphckgaaDoorSxLib
import Derived.Test.YtbpknjldphckgaaDoorProg
namespace Go.Proofs.YtbpknjldphckgaaDoor
open Go Go.SX Go.Proofs
set_option maxRecDepth 100000
set_option linter.unusedVariables false
def VCTryd145 (p : Option Addr) (k : Int) (s : ByteArray) (dq : Option Addr) (dn dc : Nat) (N : Int) (kq : Option Addr) (kn kc : Nat) (nm fi : Int) (w : World) (R : Ending → World → Prop) : Prop :=
bif k == (1 : Int) then
 SX.Ptr p fun (a0 : Addr) =>
  ∃ (q1 : Option Addr),
   ∃ (n2 : Nat),
    ∃ (n3 : Nat),
     (w.alloc (Obj.cells #[Value.int IntKind.i64 k, Value.string s, Value.slice dq dn dc, Value.int IntKind.i64 N, Value.slice kq kn kc, Value.int IntKind.i64 nm, Value.int IntKind.u8 fi] (124 : Nat))).cell?
        (a0.add (0 : Nat)) =
       some (Value.slice q1 n2 n3) ∧
      Runs Tryd.prog
       (Builtin.append_ #[(183 : Nat), (183 : Nat)] (183 : Nat)
        #[Value.slice q1 n2 n3,
         Value.slice
          (some
           {
            block :=
             (w.alloc
                (Obj.cells #[Value.int IntKind.i64 k, Value.string s, Value.slice dq dn dc, Value.int IntKind.i64 N, Value.slice kq kn kc, Value.int IntKind.i64 nm, Value.int IntKind.u8 fi]
                 (124 : Nat))).heap.size,
            off := (0 : Nat) })
          (1 : Nat) (1 : Nat)])
       ((w.alloc (Obj.cells #[Value.int IntKind.i64 k, Value.string s, Value.slice dq dn dc, Value.int IntKind.i64 N, Value.slice kq kn kc, Value.int IntKind.i64 nm, Value.int IntKind.u8 fi] (124 : Nat))).alloc
        (Obj.cells #[Value.bool true, Value.slice none (0 : Nat) (0 : Nat)] (130 : Nat)))
       fun (v4 : Value) (w5 : World) =>
       ∃ (q6 : Option Addr),
        ∃ (n7 : Nat),
         ∃ (n8 : Nat),
          v4 = Value.slice q6 n7 n8 ∧
           Keeps
             ((w.alloc
                (Obj.cells #[Value.int IntKind.i64 k, Value.string s, Value.slice dq dn dc, Value.int IntKind.i64 N, Value.slice kq kn kc, Value.int IntKind.i64 nm, Value.int IntKind.u8 fi]
                 (124 : Nat))).alloc
              (Obj.cells #[Value.bool true, Value.slice none (0 : Nat) (0 : Nat)] (130 : Nat)))
             w5 [w.heap.size] ∧
            SX.Ptr p fun (a9 : Addr) =>
             (∃ (v10 : Value), w5.cell? ((a9.add (0 : Nat)).add (0 : Nat)) = some v10) ∧
              w5.frozen? ((a9.add (0 : Nat)).add (0 : Nat)) = false ∧
               Apart ((a9.add (0 : Nat)).add (0 : Nat)) w.heap.size [(0 : Nat), (1 : Nat), (2 : Nat), (3 : Nat), (4 : Nat), (5 : Nat), (6 : Nat)] ∧
                (Known (w5.setCell ((a9.add (0 : Nat)).add (0 : Nat)) (Value.slice q6 n7 n8))
                  [(w.heap.size,
                    [((0 : Nat), Value.int IntKind.i64 k), ((1 : Nat), Value.string s), ((2 : Nat), Value.slice dq dn dc), ((3 : Nat), Value.int IntKind.i64 N), ((4 : Nat), Value.slice kq kn kc),
                     ((5 : Nat), Value.int IntKind.i64 nm), ((6 : Nat), Value.int IntKind.u8 fi)])] →
                 R (Ending.returned (Value.tuple #[])) (w5.setCell ((a9.add (0 : Nat)).add (0 : Nat)) (Value.slice q6 n7 n8)))
else
 bif k == (12 : Int) then
  bif k == (12 : Int) then
   SX.Ptr p fun (a11 : Addr) =>
    ∃ (q12 : Option Addr),
     ∃ (n13 : Nat),
      ∃ (n14 : Nat),
       (w.alloc
             (Obj.cells #[Value.int IntKind.i64 k, Value.string s, Value.slice dq dn dc, Value.int IntKind.i64 N, Value.slice kq kn kc, Value.int IntKind.i64 nm, Value.int IntKind.u8 fi]
              (124 : Nat))).drew.cell?
          (a11.add (0 : Nat)) =
         some (Value.slice q12 n13 n14) ∧
        SX.Ptr p fun (a15 : Addr) =>
         ∃ (q16 : Option Addr),
          ∃ (n17 : Nat),
           ∃ (n18 : Nat),
            (w.alloc
                  (Obj.cells #[Value.int IntKind.i64 k, Value.string s, Value.slice dq dn dc, Value.int IntKind.i64 N, Value.slice kq kn kc, Value.int IntKind.i64 nm, Value.int IntKind.u8 fi]
                   (124 : Nat))).drew.cell?
               (a15.add (4 : Nat)) =
              some (Value.slice q16 n17 n18) ∧
             (Known
               (w.alloc
                 (Obj.cells #[Value.int IntKind.i64 k, Value.string s, Value.slice dq dn dc, Value.int IntKind.i64 N, Value.slice kq kn kc, Value.int IntKind.i64 nm, Value.int IntKind.u8 fi]
                  (124 : Nat))).drew
               [(w.heap.size,
                 [((0 : Nat), Value.int IntKind.i64 k), ((1 : Nat), Value.string s), ((2 : Nat), Value.slice dq dn dc), ((3 : Nat), Value.int IntKind.i64 N), ((4 : Nat), Value.slice kq kn kc),
                  ((5 : Nat), Value.int IntKind.i64 nm), ((6 : Nat), Value.int IntKind.u8 fi)])] →
              Rets Tryd.prog (139 : Nat) #[Value.slice q16 n17 n18]
               (w.alloc
                 (Obj.cells #[Value.int IntKind.i64 k, Value.string s, Value.slice dq dn dc, Value.int IntKind.i64 N, Value.slice kq kn kc, Value.int IntKind.i64 nm, Value.int IntKind.u8 fi]
                  (124 : Nat))).drew
               fun (v19 : Value) (w20 : World) =>
               ∃ (q21 : Option Addr),
                ∃ (n22 : Nat),
                 ∃ (n23 : Nat),
                  v19 = Value.slice q21 n22 n23 ∧
                   Keeps
                     (w.alloc
                       (Obj.cells #[Value.int IntKind.i64 k, Value.string s, Value.slice dq dn dc, Value.int IntKind.i64 N, Value.slice kq kn kc, Value.int IntKind.i64 nm, Value.int IntKind.u8 fi]
                        (124 : Nat))).drew
                     w20 [w.heap.size] ∧
                    w20.cell? (a11.add (0 : Nat)) = some (Value.slice q12 n13 n14) ∧
                     (w20.alloc (Obj.cells #[Value.bool true, Value.slice q21 n22 n23] (130 : Nat))).cell? (a11.add (0 : Nat)) = some (Value.slice q12 n13 n14) ∧
                      Runs Tryd.prog
                       (Builtin.append_ #[(183 : Nat), (183 : Nat)] (183 : Nat) #[Value.slice q12 n13 n14, Value.slice (some { block := w20.heap.size, off := (0 : Nat) }) (1 : Nat) (1 : Nat)])
                       (w20.alloc (Obj.cells #[Value.bool true, Value.slice q21 n22 n23] (130 : Nat))) fun (v24 : Value) (w25 : World) =>
                       ∃ (q26 : Option Addr),
                        ∃ (n27 : Nat),
                         ∃ (n28 : Nat),
                          v24 = Value.slice q26 n27 n28 ∧
                           Keeps (w20.alloc (Obj.cells #[Value.bool true, Value.slice q21 n22 n23] (130 : Nat))) w25 [w.heap.size] ∧
                            SX.Ptr p fun (a29 : Addr) =>
                             (∃ (v30 : Value), w25.cell? ((a29.add (0 : Nat)).add (0 : Nat)) = some v30) ∧
                              w25.frozen? ((a29.add (0 : Nat)).add (0 : Nat)) = false ∧
                               Apart ((a29.add (0 : Nat)).add (0 : Nat)) w.heap.size [(0 : Nat), (1 : Nat), (2 : Nat), (3 : Nat), (4 : Nat), (5 : Nat), (6 : Nat)] ∧
                                (Known (w25.setCell ((a29.add (0 : Nat)).add (0 : Nat)) (Value.slice q26 n27 n28))
                                  [(w.heap.size,
                                    [((0 : Nat), Value.int IntKind.i64 k), ((1 : Nat), Value.string s), ((2 : Nat), Value.slice dq dn dc), ((3 : Nat), Value.int IntKind.i64 N),
                                     ((4 : Nat), Value.slice kq kn kc), ((5 : Nat), Value.int IntKind.i64 nm), ((6 : Nat), Value.int IntKind.u8 fi)])] →
                                 R (Ending.returned (Value.tuple #[])) (w25.setCell ((a29.add (0 : Nat)).add (0 : Nat)) (Value.slice q26 n27 n28))))
  else
   Known (w.alloc (Obj.cells #[Value.int IntKind.i64 k, Value.string s, Value.slice dq dn dc, Value.int IntKind.i64 N, Value.slice kq kn kc, Value.int IntKind.i64 nm, Value.int IntKind.u8 fi] (124 : Nat)))
     [(w.heap.size,
       [((0 : Nat), Value.int IntKind.i64 k), ((1 : Nat), Value.string s), ((2 : Nat), Value.slice dq dn dc), ((3 : Nat), Value.int IntKind.i64 N), ((4 : Nat), Value.slice kq kn kc),
        ((5 : Nat), Value.int IntKind.i64 nm), ((6 : Nat), Value.int IntKind.u8 fi)])] →
    R (Ending.returned (Value.tuple #[]))
     (w.alloc (Obj.cells #[Value.int IntKind.i64 k, Value.string s, Value.slice dq dn dc, Value.int IntKind.i64 N, Value.slice kq kn kc, Value.int IntKind.i64 nm, Value.int IntKind.u8 fi] (124 : Nat)))
 else
  bif k == (13 : Int) then
   bif k == (13 : Int) then
    SX.Ptr p fun (a31 : Addr) =>
     ∃ (q32 : Option Addr),
      ∃ (n33 : Nat),
       ∃ (n34 : Nat),
        (w.alloc
              (Obj.cells #[Value.int IntKind.i64 k, Value.string s, Value.slice dq dn dc, Value.int IntKind.i64 N, Value.slice kq kn kc, Value.int IntKind.i64 nm, Value.int IntKind.u8 fi]
               (124 : Nat))).drew.cell?
           (a31.add (0 : Nat)) =
          some (Value.slice q32 n33 n34) ∧
         SX.Ptr p fun (a35 : Addr) =>
          ∃ (q36 : Option Addr),
           ∃ (n37 : Nat),
            ∃ (n38 : Nat),
             (w.alloc
                   (Obj.cells #[Value.int IntKind.i64 k, Value.string s, Value.slice dq dn dc, Value.int IntKind.i64 N, Value.slice kq kn kc, Value.int IntKind.i64 nm, Value.int IntKind.u8 fi]
                    (124 : Nat))).drew.cell?
                (a35.add (4 : Nat)) =
               some (Value.slice q36 n37 n38) ∧
              (Known
                (w.alloc
                  (Obj.cells #[Value.int IntKind.i64 k, Value.string s, Value.slice dq dn dc, Value.int IntKind.i64 N, Value.slice kq kn kc, Value.int IntKind.i64 nm, Value.int IntKind.u8 fi]
                   (124 : Nat))).drew
                [(w.heap.size,
                  [((0 : Nat), Value.int IntKind.i64 k), ((1 : Nat), Value.string s), ((2 : Nat), Value.slice dq dn dc), ((3 : Nat), Value.int IntKind.i64 N), ((4 : Nat), Value.slice kq kn kc),
                   ((5 : Nat), Value.int IntKind.i64 nm), ((6 : Nat), Value.int IntKind.u8 fi)])] →
               Rets Tryd.prog (139 : Nat) #[Value.slice q36 n37 n38]
                (w.alloc
                  (Obj.cells #[Value.int IntKind.i64 k, Value.string s, Value.slice dq dn dc, Value.int IntKind.i64 N, Value.slice kq kn kc, Value.int IntKind.i64 nm, Value.int IntKind.u8 fi]
                   (124 : Nat))).drew
                fun (v39 : Value) (w40 : World) =>
                ∃ (q41 : Option Addr),
                 ∃ (n42 : Nat),
                  ∃ (n43 : Nat),
                   v39 = Value.slice q41 n42 n43 ∧
                    Keeps
                      (w.alloc
                        (Obj.cells
                         #[Value.int IntKind.i64 k, Value.string s, Value.slice dq dn dc, Value.int IntKind.i64 N, Value.slice kq kn kc, Value.int IntKind.i64 nm, Value.int IntKind.u8 fi]
                         (124 : Nat))).drew
                      w40 [w.heap.size] ∧
                     w40.cell? (a31.add (0 : Nat)) = some (Value.slice q32 n33 n34) ∧
                      (w40.alloc (Obj.cells #[Value.bool true, Value.slice q41 n42 n43] (130 : Nat))).cell? (a31.add (0 : Nat)) = some (Value.slice q32 n33 n34) ∧
                       Runs Tryd.prog
                        (Builtin.append_ #[(183 : Nat), (183 : Nat)] (183 : Nat) #[Value.slice q32 n33 n34, Value.slice (some { block := w40.heap.size, off := (0 : Nat) }) (1 : Nat) (1 : Nat)])
                        (w40.alloc (Obj.cells #[Value.bool true, Value.slice q41 n42 n43] (130 : Nat))) fun (v44 : Value) (w45 : World) =>
                        ∃ (q46 : Option Addr),
                         ∃ (n47 : Nat),
                          ∃ (n48 : Nat),
                           v44 = Value.slice q46 n47 n48 ∧
                            Keeps (w40.alloc (Obj.cells #[Value.bool true, Value.slice q41 n42 n43] (130 : Nat))) w45 [w.heap.size] ∧
                             SX.Ptr p fun (a49 : Addr) =>
                              (∃ (v50 : Value), w45.cell? ((a49.add (0 : Nat)).add (0 : Nat)) = some v50) ∧
                               w45.frozen? ((a49.add (0 : Nat)).add (0 : Nat)) = false ∧
                                Apart ((a49.add (0 : Nat)).add (0 : Nat)) w.heap.size [(0 : Nat), (1 : Nat), (2 : Nat), (3 : Nat), (4 : Nat), (5 : Nat), (6 : Nat)] ∧
                                 (Known (w45.setCell ((a49.add (0 : Nat)).add (0 : Nat)) (Value.slice q46 n47 n48))
                                   [(w.heap.size,
                                     [((0 : Nat), Value.int IntKind.i64 k), ((1 : Nat), Value.string s), ((2 : Nat), Value.slice dq dn dc), ((3 : Nat), Value.int IntKind.i64 N),
                                      ((4 : Nat), Value.slice kq kn kc), ((5 : Nat), Value.int IntKind.i64 nm), ((6 : Nat), Value.int IntKind.u8 fi)])] →
                                  R (Ending.returned (Value.tuple #[])) (w45.setCell ((a49.add (0 : Nat)).add (0 : Nat)) (Value.slice q46 n47 n48))))
   else
    Known (w.alloc (Obj.cells #[Value.int IntKind.i64 k, Value.string s, Value.slice dq dn dc, Value.int IntKind.i64 N, Value.slice kq kn kc, Value.int IntKind.i64 nm, Value.int IntKind.u8 fi] (124 : Nat)))
      [(w.heap.size,
        [((0 : Nat), Value.int IntKind.i64 k), ((1 : Nat), Value.string s), ((2 : Nat), Value.slice dq dn dc), ((3 : Nat), Value.int IntKind.i64 N), ((4 : Nat), Value.slice kq kn kc),
         ((5 : Nat), Value.int IntKind.i64 nm), ((6 : Nat), Value.int IntKind.u8 fi)])] →
     R (Ending.returned (Value.tuple #[]))
      (w.alloc (Obj.cells #[Value.int IntKind.i64 k, Value.string s, Value.slice dq dn dc, Value.int IntKind.i64 N, Value.slice kq kn kc, Value.int IntKind.i64 nm, Value.int IntKind.u8 fi] (124 : Nat)))
  else
   bif k == (14 : Int) then
    SX.Ptr p fun (a51 : Addr) =>
     ∃ (q52 : Option Addr),
      ∃ (n53 : Nat),
       ∃ (n54 : Nat),
        (w.alloc
              (Obj.cells #[Value.int IntKind.i64 k, Value.string s, Value.slice dq dn dc, Value.int IntKind.i64 N, Value.slice kq kn kc, Value.int IntKind.i64 nm, Value.int IntKind.u8 fi]
               (124 : Nat))).drew.cell?
           (a51.add (0 : Nat)) =
          some (Value.slice q52 n53 n54) ∧
         SX.Ptr p fun (a55 : Addr) =>
          ∃ (q56 : Option Addr),
           ∃ (n57 : Nat),
            ∃ (n58 : Nat),
             (w.alloc
                   (Obj.cells #[Value.int IntKind.i64 k, Value.string s, Value.slice dq dn dc, Value.int IntKind.i64 N, Value.slice kq kn kc, Value.int IntKind.i64 nm, Value.int IntKind.u8 fi]
                    (124 : Nat))).drew.cell?
                (a55.add (4 : Nat)) =
               some (Value.slice q56 n57 n58) ∧
              (Known
                (w.alloc
                  (Obj.cells #[Value.int IntKind.i64 k, Value.string s, Value.slice dq dn dc, Value.int IntKind.i64 N, Value.slice kq kn kc, Value.int IntKind.i64 nm, Value.int IntKind.u8 fi]
                   (124 : Nat))).drew
                [(w.heap.size,
                  [((0 : Nat), Value.int IntKind.i64 k), ((1 : Nat), Value.string s), ((2 : Nat), Value.slice dq dn dc), ((3 : Nat), Value.int IntKind.i64 N), ((4 : Nat), Value.slice kq kn kc),
                   ((5 : Nat), Value.int IntKind.i64 nm), ((6 : Nat), Value.int IntKind.u8 fi)])] →
               Rets Tryd.prog (139 : Nat) #[Value.slice q56 n57 n58]
                (w.alloc
                  (Obj.cells #[Value.int IntKind.i64 k, Value.string s, Value.slice dq dn dc, Value.int IntKind.i64 N, Value.slice kq kn kc, Value.int IntKind.i64 nm, Value.int IntKind.u8 fi]
                   (124 : Nat))).drew
                fun (v59 : Value) (w60 : World) =>
                ∃ (q61 : Option Addr),
                 ∃ (n62 : Nat),
                  ∃ (n63 : Nat),
                   v59 = Value.slice q61 n62 n63 ∧
                    Keeps
                      (w.alloc
                        (Obj.cells
                         #[Value.int IntKind.i64 k, Value.string s, Value.slice dq dn dc, Value.int IntKind.i64 N, Value.slice kq kn kc, Value.int IntKind.i64 nm, Value.int IntKind.u8 fi]
                         (124 : Nat))).drew
                      w60 [w.heap.size] ∧
                     w60.cell? (a51.add (0 : Nat)) = some (Value.slice q52 n53 n54) ∧
                      (w60.alloc (Obj.cells #[Value.bool true, Value.slice q61 n62 n63] (130 : Nat))).cell? (a51.add (0 : Nat)) = some (Value.slice q52 n53 n54) ∧
                       Runs Tryd.prog
                        (Builtin.append_ #[(183 : Nat), (183 : Nat)] (183 : Nat) #[Value.slice q52 n53 n54, Value.slice (some { block := w60.heap.size, off := (0 : Nat) }) (1 : Nat) (1 : Nat)])
                        (w60.alloc (Obj.cells #[Value.bool true, Value.slice q61 n62 n63] (130 : Nat))) fun (v64 : Value) (w65 : World) =>
                        ∃ (q66 : Option Addr),
                         ∃ (n67 : Nat),
                          ∃ (n68 : Nat),
                           v64 = Value.slice q66 n67 n68 ∧
                            Keeps (w60.alloc (Obj.cells #[Value.bool true, Value.slice q61 n62 n63] (130 : Nat))) w65 [w.heap.size] ∧
                             SX.Ptr p fun (a69 : Addr) =>
                              (∃ (v70 : Value), w65.cell? ((a69.add (0 : Nat)).add (0 : Nat)) = some v70) ∧
                               w65.frozen? ((a69.add (0 : Nat)).add (0 : Nat)) = false ∧
                                Apart ((a69.add (0 : Nat)).add (0 : Nat)) w.heap.size [(0 : Nat), (1 : Nat), (2 : Nat), (3 : Nat), (4 : Nat), (5 : Nat), (6 : Nat)] ∧
                                 (Known (w65.setCell ((a69.add (0 : Nat)).add (0 : Nat)) (Value.slice q66 n67 n68))
                                   [(w.heap.size,
                                     [((0 : Nat), Value.int IntKind.i64 k), ((1 : Nat), Value.string s), ((2 : Nat), Value.slice dq dn dc), ((3 : Nat), Value.int IntKind.i64 N),
                                      ((4 : Nat), Value.slice kq kn kc), ((5 : Nat), Value.int IntKind.i64 nm), ((6 : Nat), Value.int IntKind.u8 fi)])] →
                                  R (Ending.returned (Value.tuple #[])) (w65.setCell ((a69.add (0 : Nat)).add (0 : Nat)) (Value.slice q66 n67 n68))))
   else
    Known (w.alloc (Obj.cells #[Value.int IntKind.i64 k, Value.string s, Value.slice dq dn dc, Value.int IntKind.i64 N, Value.slice kq kn kc, Value.int IntKind.i64 nm, Value.int IntKind.u8 fi] (124 : Nat)))
      [(w.heap.size,
        [((0 : Nat), Value.int IntKind.i64 k), ((1 : Nat), Value.string s), ((2 : Nat), Value.slice dq dn dc), ((3 : Nat), Value.int IntKind.i64 N), ((4 : Nat), Value.slice kq kn kc),
         ((5 : Nat), Value.int IntKind.i64 nm), ((6 : Nat), Value.int IntKind.u8 fi)])] →
     R (Ending.returned (Value.tuple #[]))
      (w.alloc (Obj.cells #[Value.int IntKind.i64 k, Value.string s, Value.slice dq dn dc, Value.int IntKind.i64 N, Value.slice kq kn kc, Value.int IntKind.i64 nm, Value.int IntKind.u8 fi] (124 : Nat)))
theorem vcTryd145 (p : Option Addr) (k : Int) (s : ByteArray) (dq : Option Addr) (dn dc : Nat) (N : Int) (kq : Option Addr) (kn kc : Nat) (nm fi : Int) (w : World) (R : Ending → World → Prop) : SX.vcFn Tryd.prog [] Tryd.f145 [.v (.pointer p), .v (.agg #[.int .i64 k, .string s, .slice dq dn dc, .int .i64 N, .slice kq kn kc, .int .i64 nm, .int .u8 fi])] [] w R = VCTryd145 p k s dq dn dc N kq kn kc nm fi w R := by kernel_rfl
def VCTryd146 (p : Option Addr) (k : Int) (s : ByteArray) (dq : Option Addr) (dn dc : Nat) (N : Int) (kq : Option Addr) (kn kc : Nat) (nm fi : Int) (e : Int) (aq : Option Addr) (an ac : Nat) (z : Int) (nq : Option Addr) (nn nc : Nat) (lq : Option Addr) (ln lc : Nat) (re po : Bool) (w : World) (R : Ending → World → Prop) : Prop :=
bif k == (1 : Int) then
 SX.Ptr p fun (a0 : Addr) =>
  (∃ (v1 : Value),
    (((w.alloc (Obj.cells #[Value.int IntKind.i64 k, Value.string s, Value.slice dq dn dc, Value.int IntKind.i64 N, Value.slice kq kn kc, Value.int IntKind.i64 nm, Value.int IntKind.u8 fi] (124 : Nat))).alloc
          (Obj.cells #[Value.int IntKind.i64 e, Value.slice aq an ac, Value.int IntKind.i64 z, Value.slice nq nn nc, Value.slice lq ln lc, Value.bool re, Value.bool po] (126 : Nat))).alloc
        (Obj.cells #[Value.bool true, Value.slice none (0 : Nat) (0 : Nat)] (130 : Nat))).cell?
      ((a0.add (0 : Nat)).add (0 : Nat)) =
     some v1) ∧
   (((w.alloc (Obj.cells #[Value.int IntKind.i64 k, Value.string s, Value.slice dq dn dc, Value.int IntKind.i64 N, Value.slice kq kn kc, Value.int IntKind.i64 nm, Value.int IntKind.u8 fi] (124 : Nat))).alloc
          (Obj.cells #[Value.int IntKind.i64 e, Value.slice aq an ac, Value.int IntKind.i64 z, Value.slice nq nn nc, Value.slice lq ln lc, Value.bool re, Value.bool po] (126 : Nat))).alloc
        (Obj.cells #[Value.bool true, Value.slice none (0 : Nat) (0 : Nat)] (130 : Nat))).frozen?
      ((a0.add (0 : Nat)).add (0 : Nat)) =
     false ∧
    Apart ((a0.add (0 : Nat)).add (0 : Nat)) w.heap.size [(0 : Nat), (1 : Nat), (2 : Nat), (3 : Nat), (4 : Nat), (5 : Nat), (6 : Nat)] ∧
     Apart ((a0.add (0 : Nat)).add (0 : Nat))
       (w.alloc (Obj.cells #[Value.int IntKind.i64 k, Value.string s, Value.slice dq dn dc, Value.int IntKind.i64 N, Value.slice kq kn kc, Value.int IntKind.i64 nm, Value.int IntKind.u8 fi] (124 : Nat))).heap.size
       [(0 : Nat), (1 : Nat), (2 : Nat), (3 : Nat), (4 : Nat), (5 : Nat), (6 : Nat)] ∧
      (Known
        ((((w.alloc
               (Obj.cells #[Value.int IntKind.i64 k, Value.string s, Value.slice dq dn dc, Value.int IntKind.i64 N, Value.slice kq kn kc, Value.int IntKind.i64 nm, Value.int IntKind.u8 fi]
                (124 : Nat))).alloc
             (Obj.cells #[Value.int IntKind.i64 e, Value.slice aq an ac, Value.int IntKind.i64 z, Value.slice nq nn nc, Value.slice lq ln lc, Value.bool re, Value.bool po] (126 : Nat))).alloc
           (Obj.cells #[Value.bool true, Value.slice none (0 : Nat) (0 : Nat)] (130 : Nat))).setCell
         ((a0.add (0 : Nat)).add (0 : Nat))
         (Value.slice
          (some
           {
            block :=
             ((w.alloc
                  (Obj.cells #[Value.int IntKind.i64 k, Value.string s, Value.slice dq dn dc, Value.int IntKind.i64 N, Value.slice kq kn kc, Value.int IntKind.i64 nm, Value.int IntKind.u8 fi]
                   (124 : Nat))).alloc
                (Obj.cells #[Value.int IntKind.i64 e, Value.slice aq an ac, Value.int IntKind.i64 z, Value.slice nq nn nc, Value.slice lq ln lc, Value.bool re, Value.bool po] (126 : Nat))).heap.size,
            off := (0 : Nat) })
          (1 : Nat) (1 : Nat)))
        [(w.heap.size,
          [((0 : Nat), Value.int IntKind.i64 k), ((1 : Nat), Value.string s), ((2 : Nat), Value.slice dq dn dc), ((3 : Nat), Value.int IntKind.i64 N), ((4 : Nat), Value.slice kq kn kc),
           ((5 : Nat), Value.int IntKind.i64 nm), ((6 : Nat), Value.int IntKind.u8 fi)]),
         ((w.alloc
             (Obj.cells #[Value.int IntKind.i64 k, Value.string s, Value.slice dq dn dc, Value.int IntKind.i64 N, Value.slice kq kn kc, Value.int IntKind.i64 nm, Value.int IntKind.u8 fi]
              (124 : Nat))).heap.size,
          [((0 : Nat), Value.int IntKind.i64 e), ((1 : Nat), Value.slice aq an ac), ((2 : Nat), Value.int IntKind.i64 z), ((3 : Nat), Value.slice nq nn nc), ((4 : Nat), Value.slice lq ln lc),
           ((5 : Nat), Value.bool re), ((6 : Nat), Value.bool po)])] →
       R (Ending.returned (Value.tuple #[]))
        ((((w.alloc
               (Obj.cells #[Value.int IntKind.i64 k, Value.string s, Value.slice dq dn dc, Value.int IntKind.i64 N, Value.slice kq kn kc, Value.int IntKind.i64 nm, Value.int IntKind.u8 fi]
                (124 : Nat))).alloc
             (Obj.cells #[Value.int IntKind.i64 e, Value.slice aq an ac, Value.int IntKind.i64 z, Value.slice nq nn nc, Value.slice lq ln lc, Value.bool re, Value.bool po] (126 : Nat))).alloc
           (Obj.cells #[Value.bool true, Value.slice none (0 : Nat) (0 : Nat)] (130 : Nat))).setCell
         ((a0.add (0 : Nat)).add (0 : Nat))
         (Value.slice
          (some
           {
            block :=
             ((w.alloc
                  (Obj.cells #[Value.int IntKind.i64 k, Value.string s, Value.slice dq dn dc, Value.int IntKind.i64 N, Value.slice kq kn kc, Value.int IntKind.i64 nm, Value.int IntKind.u8 fi]
                   (124 : Nat))).alloc
                (Obj.cells #[Value.int IntKind.i64 e, Value.slice aq an ac, Value.int IntKind.i64 z, Value.slice nq nn nc, Value.slice lq ln lc, Value.bool re, Value.bool po] (126 : Nat))).heap.size,
            off := (0 : Nat) })
          (1 : Nat) (1 : Nat))))
else
 bif k == (2 : Int) then
  Known
    ((w.alloc (Obj.cells #[Value.int IntKind.i64 k, Value.string s, Value.slice dq dn dc, Value.int IntKind.i64 N, Value.slice kq kn kc, Value.int IntKind.i64 nm, Value.int IntKind.u8 fi] (124 : Nat))).alloc
     (Obj.cells #[Value.int IntKind.i64 e, Value.slice aq an ac, Value.int IntKind.i64 z, Value.slice nq nn nc, Value.slice lq ln lc, Value.bool re, Value.bool po] (126 : Nat)))
    [(w.heap.size,
      [((0 : Nat), Value.int IntKind.i64 k), ((1 : Nat), Value.string s), ((2 : Nat), Value.slice dq dn dc), ((3 : Nat), Value.int IntKind.i64 N), ((4 : Nat), Value.slice kq kn kc),
       ((5 : Nat), Value.int IntKind.i64 nm), ((6 : Nat), Value.int IntKind.u8 fi)]),
     ((w.alloc (Obj.cells #[Value.int IntKind.i64 k, Value.string s, Value.slice dq dn dc, Value.int IntKind.i64 N, Value.slice kq kn kc, Value.int IntKind.i64 nm, Value.int IntKind.u8 fi] (124 : Nat))).heap.size,
      [((0 : Nat), Value.int IntKind.i64 e), ((1 : Nat), Value.slice aq an ac), ((2 : Nat), Value.int IntKind.i64 z), ((3 : Nat), Value.slice nq nn nc), ((4 : Nat), Value.slice lq ln lc),
       ((5 : Nat), Value.bool re), ((6 : Nat), Value.bool po)])] →
   Rets Tryd.prog (139 : Nat) #[Value.slice lq ln lc]
    ((w.alloc (Obj.cells #[Value.int IntKind.i64 k, Value.string s, Value.slice dq dn dc, Value.int IntKind.i64 N, Value.slice kq kn kc, Value.int IntKind.i64 nm, Value.int IntKind.u8 fi] (124 : Nat))).alloc
     (Obj.cells #[Value.int IntKind.i64 e, Value.slice aq an ac, Value.int IntKind.i64 z, Value.slice nq nn nc, Value.slice lq ln lc, Value.bool re, Value.bool po] (126 : Nat)))
    fun (v2 : Value) (w3 : World) =>
    ∃ (q4 : Option Addr),
     ∃ (n5 : Nat),
      ∃ (n6 : Nat),
       v2 = Value.slice q4 n5 n6 ∧
        Keeps
          ((w.alloc
             (Obj.cells #[Value.int IntKind.i64 k, Value.string s, Value.slice dq dn dc, Value.int IntKind.i64 N, Value.slice kq kn kc, Value.int IntKind.i64 nm, Value.int IntKind.u8 fi] (124 : Nat))).alloc
           (Obj.cells #[Value.int IntKind.i64 e, Value.slice aq an ac, Value.int IntKind.i64 z, Value.slice nq nn nc, Value.slice lq ln lc, Value.bool re, Value.bool po] (126 : Nat)))
          w3
          [w.heap.size,
           (w.alloc
              (Obj.cells #[Value.int IntKind.i64 k, Value.string s, Value.slice dq dn dc, Value.int IntKind.i64 N, Value.slice kq kn kc, Value.int IntKind.i64 nm, Value.int IntKind.u8 fi]
               (124 : Nat))).heap.size] ∧
         SX.Ptr p fun (a7 : Addr) =>
          (∃ (v8 : Value), w3.cell? ((a7.add (1 : Nat)).add (0 : Nat)) = some v8) ∧
           w3.frozen? ((a7.add (1 : Nat)).add (0 : Nat)) = false ∧
            Apart ((a7.add (1 : Nat)).add (0 : Nat)) w.heap.size [(0 : Nat), (1 : Nat), (2 : Nat), (3 : Nat), (4 : Nat), (5 : Nat), (6 : Nat)] ∧
             Apart ((a7.add (1 : Nat)).add (0 : Nat))
               (w.alloc
                  (Obj.cells #[Value.int IntKind.i64 k, Value.string s, Value.slice dq dn dc, Value.int IntKind.i64 N, Value.slice kq kn kc, Value.int IntKind.i64 nm, Value.int IntKind.u8 fi]
                   (124 : Nat))).heap.size
               [(0 : Nat), (1 : Nat), (2 : Nat), (3 : Nat), (4 : Nat), (5 : Nat), (6 : Nat)] ∧
              SX.Ptr p fun (a9 : Addr) =>
               (∃ (v10 : Value), (w3.setCell ((a7.add (1 : Nat)).add (0 : Nat)) (Value.bool true)).cell? ((a9.add (4 : Nat)).add (0 : Nat)) = some v10) ∧
                (w3.setCell ((a7.add (1 : Nat)).add (0 : Nat)) (Value.bool true)).frozen? ((a9.add (4 : Nat)).add (0 : Nat)) = false ∧
                 Apart ((a9.add (4 : Nat)).add (0 : Nat)) w.heap.size [(0 : Nat), (1 : Nat), (2 : Nat), (3 : Nat), (4 : Nat), (5 : Nat), (6 : Nat)] ∧
                  Apart ((a9.add (4 : Nat)).add (0 : Nat))
                    (w.alloc
                       (Obj.cells #[Value.int IntKind.i64 k, Value.string s, Value.slice dq dn dc, Value.int IntKind.i64 N, Value.slice kq kn kc, Value.int IntKind.i64 nm, Value.int IntKind.u8 fi]
                        (124 : Nat))).heap.size
                    [(0 : Nat), (1 : Nat), (2 : Nat), (3 : Nat), (4 : Nat), (5 : Nat), (6 : Nat)] ∧
                   (Known ((w3.setCell ((a7.add (1 : Nat)).add (0 : Nat)) (Value.bool true)).setCell ((a9.add (4 : Nat)).add (0 : Nat)) (Value.slice q4 n5 n6))
                     [(w.heap.size,
                       [((0 : Nat), Value.int IntKind.i64 k), ((1 : Nat), Value.string s), ((2 : Nat), Value.slice dq dn dc), ((3 : Nat), Value.int IntKind.i64 N),
                        ((4 : Nat), Value.slice kq kn kc), ((5 : Nat), Value.int IntKind.i64 nm), ((6 : Nat), Value.int IntKind.u8 fi)]),
                      ((w.alloc
                          (Obj.cells
                           #[Value.int IntKind.i64 k, Value.string s, Value.slice dq dn dc, Value.int IntKind.i64 N, Value.slice kq kn kc, Value.int IntKind.i64 nm, Value.int IntKind.u8 fi]
                           (124 : Nat))).heap.size,
                       [((0 : Nat), Value.int IntKind.i64 e), ((1 : Nat), Value.slice aq an ac), ((2 : Nat), Value.int IntKind.i64 z), ((3 : Nat), Value.slice nq nn nc),
                        ((4 : Nat), Value.slice lq ln lc), ((5 : Nat), Value.bool re), ((6 : Nat), Value.bool po)])] →
                    Rets Tryd.prog (139 : Nat) #[Value.slice lq ln lc]
                     ((w3.setCell ((a7.add (1 : Nat)).add (0 : Nat)) (Value.bool true)).setCell ((a9.add (4 : Nat)).add (0 : Nat)) (Value.slice q4 n5 n6)) fun (v11 : Value) (w12 : World) =>
                     ∃ (q13 : Option Addr),
                      ∃ (n14 : Nat),
                       ∃ (n15 : Nat),
                        v11 = Value.slice q13 n14 n15 ∧
                         Keeps ((w3.setCell ((a7.add (1 : Nat)).add (0 : Nat)) (Value.bool true)).setCell ((a9.add (4 : Nat)).add (0 : Nat)) (Value.slice q4 n5 n6)) w12
                           [w.heap.size,
                            (w.alloc
                               (Obj.cells
                                #[Value.int IntKind.i64 k, Value.string s, Value.slice dq dn dc, Value.int IntKind.i64 N, Value.slice kq kn kc, Value.int IntKind.i64 nm,
                                 Value.int IntKind.u8 fi]
                                (124 : Nat))).heap.size] ∧
                          SX.Ptr p fun (a16 : Addr) =>
                           (∃ (v17 : Value), (w12.alloc (Obj.cells #[Value.bool true, Value.slice q13 n14 n15] (130 : Nat))).cell? ((a16.add (0 : Nat)).add (0 : Nat)) = some v17) ∧
                            (w12.alloc (Obj.cells #[Value.bool true, Value.slice q13 n14 n15] (130 : Nat))).frozen? ((a16.add (0 : Nat)).add (0 : Nat)) = false ∧
                             Apart ((a16.add (0 : Nat)).add (0 : Nat)) w.heap.size [(0 : Nat), (1 : Nat), (2 : Nat), (3 : Nat), (4 : Nat), (5 : Nat), (6 : Nat)] ∧
                              Apart ((a16.add (0 : Nat)).add (0 : Nat))
                                (w.alloc
                                   (Obj.cells
                                    #[Value.int IntKind.i64 k, Value.string s, Value.slice dq dn dc, Value.int IntKind.i64 N, Value.slice kq kn kc, Value.int IntKind.i64 nm,
                                     Value.int IntKind.u8 fi]
                                    (124 : Nat))).heap.size
                                [(0 : Nat), (1 : Nat), (2 : Nat), (3 : Nat), (4 : Nat), (5 : Nat), (6 : Nat)] ∧
                               (Known
                                 ((w12.alloc (Obj.cells #[Value.bool true, Value.slice q13 n14 n15] (130 : Nat))).setCell ((a16.add (0 : Nat)).add (0 : Nat))
                                  (Value.slice (some { block := w12.heap.size, off := (0 : Nat) }) (1 : Nat) (1 : Nat)))
                                 [(w.heap.size,
                                   [((0 : Nat), Value.int IntKind.i64 k), ((1 : Nat), Value.string s), ((2 : Nat), Value.slice dq dn dc), ((3 : Nat), Value.int IntKind.i64 N),
                                    ((4 : Nat), Value.slice kq kn kc), ((5 : Nat), Value.int IntKind.i64 nm), ((6 : Nat), Value.int IntKind.u8 fi)]),
                                  ((w.alloc
                                      (Obj.cells
                                       #[Value.int IntKind.i64 k, Value.string s, Value.slice dq dn dc, Value.int IntKind.i64 N, Value.slice kq kn kc, Value.int IntKind.i64 nm,
                                        Value.int IntKind.u8 fi]
                                       (124 : Nat))).heap.size,
                                   [((0 : Nat), Value.int IntKind.i64 e), ((1 : Nat), Value.slice aq an ac), ((2 : Nat), Value.int IntKind.i64 z), ((3 : Nat), Value.slice nq nn nc),
                                    ((4 : Nat), Value.slice lq ln lc), ((5 : Nat), Value.bool re), ((6 : Nat), Value.bool po)])] →
                                R (Ending.returned (Value.tuple #[]))
                                 ((w12.alloc (Obj.cells #[Value.bool true, Value.slice q13 n14 n15] (130 : Nat))).setCell ((a16.add (0 : Nat)).add (0 : Nat))
                                  (Value.slice (some { block := w12.heap.size, off := (0 : Nat) }) (1 : Nat) (1 : Nat)))))
 else
  bif k == (3 : Int) then
   SX.Ptr p fun (a18 : Addr) =>
    ∃ (q19 : Option Addr),
     ∃ (n20 : Nat),
      ∃ (n21 : Nat),
       ((w.alloc (Obj.cells #[Value.int IntKind.i64 k, Value.string s, Value.slice dq dn dc, Value.int IntKind.i64 N, Value.slice kq kn kc, Value.int IntKind.i64 nm, Value.int IntKind.u8 fi] (124 : Nat))).alloc
             (Obj.cells #[Value.int IntKind.i64 e, Value.slice aq an ac, Value.int IntKind.i64 z, Value.slice nq nn nc, Value.slice lq ln lc, Value.bool re, Value.bool po] (126 : Nat))).drew.cell?
          (a18.add (4 : Nat)) =
         some (Value.slice q19 n20 n21) ∧
        (Known
          ((w.alloc
              (Obj.cells #[Value.int IntKind.i64 k, Value.string s, Value.slice dq dn dc, Value.int IntKind.i64 N, Value.slice kq kn kc, Value.int IntKind.i64 nm, Value.int IntKind.u8 fi]
               (124 : Nat))).alloc
            (Obj.cells #[Value.int IntKind.i64 e, Value.slice aq an ac, Value.int IntKind.i64 z, Value.slice nq nn nc, Value.slice lq ln lc, Value.bool re, Value.bool po] (126 : Nat))).drew
          [(w.heap.size,
            [((0 : Nat), Value.int IntKind.i64 k), ((1 : Nat), Value.string s), ((2 : Nat), Value.slice dq dn dc), ((3 : Nat), Value.int IntKind.i64 N), ((4 : Nat), Value.slice kq kn kc),
             ((5 : Nat), Value.int IntKind.i64 nm), ((6 : Nat), Value.int IntKind.u8 fi)]),
           ((w.alloc
               (Obj.cells #[Value.int IntKind.i64 k, Value.string s, Value.slice dq dn dc, Value.int IntKind.i64 N, Value.slice kq kn kc, Value.int IntKind.i64 nm, Value.int IntKind.u8 fi]
                (124 : Nat))).heap.size,
            [((0 : Nat), Value.int IntKind.i64 e), ((1 : Nat), Value.slice aq an ac), ((2 : Nat), Value.int IntKind.i64 z), ((3 : Nat), Value.slice nq nn nc), ((4 : Nat), Value.slice lq ln lc),
             ((5 : Nat), Value.bool re), ((6 : Nat), Value.bool po)])] →
         Rets Tryd.prog (89 : Nat) #[Value.slice q19 n20 n21, Value.string s, Value.slice dq dn dc]
          ((w.alloc
              (Obj.cells #[Value.int IntKind.i64 k, Value.string s, Value.slice dq dn dc, Value.int IntKind.i64 N, Value.slice kq kn kc, Value.int IntKind.i64 nm, Value.int IntKind.u8 fi]
               (124 : Nat))).alloc
            (Obj.cells #[Value.int IntKind.i64 e, Value.slice aq an ac, Value.int IntKind.i64 z, Value.slice nq nn nc, Value.slice lq ln lc, Value.bool re, Value.bool po] (126 : Nat))).drew
          fun (v22 : Value) (w23 : World) =>
          ∃ (q24 : Option Addr),
           ∃ (n25 : Nat),
            ∃ (n26 : Nat),
             v22 = Value.slice q24 n25 n26 ∧
              Keeps
                ((w.alloc
                    (Obj.cells #[Value.int IntKind.i64 k, Value.string s, Value.slice dq dn dc, Value.int IntKind.i64 N, Value.slice kq kn kc, Value.int IntKind.i64 nm, Value.int IntKind.u8 fi]
                     (124 : Nat))).alloc
                  (Obj.cells #[Value.int IntKind.i64 e, Value.slice aq an ac, Value.int IntKind.i64 z, Value.slice nq nn nc, Value.slice lq ln lc, Value.bool re, Value.bool po] (126 : Nat))).drew
                w23
                [w.heap.size,
                 (w.alloc
                    (Obj.cells #[Value.int IntKind.i64 k, Value.string s, Value.slice dq dn dc, Value.int IntKind.i64 N, Value.slice kq kn kc, Value.int IntKind.i64 nm, Value.int IntKind.u8 fi]
                     (124 : Nat))).heap.size] ∧
               SX.Ptr p fun (a27 : Addr) =>
                (∃ (v28 : Value), w23.cell? ((a27.add (4 : Nat)).add (0 : Nat)) = some v28) ∧
                 w23.frozen? ((a27.add (4 : Nat)).add (0 : Nat)) = false ∧
                  Apart ((a27.add (4 : Nat)).add (0 : Nat)) w.heap.size [(0 : Nat), (1 : Nat), (2 : Nat), (3 : Nat), (4 : Nat), (5 : Nat), (6 : Nat)] ∧
                   Apart ((a27.add (4 : Nat)).add (0 : Nat))
                     (w.alloc
                        (Obj.cells
                         #[Value.int IntKind.i64 k, Value.string s, Value.slice dq dn dc, Value.int IntKind.i64 N, Value.slice kq kn kc, Value.int IntKind.i64 nm, Value.int IntKind.u8 fi]
                         (124 : Nat))).heap.size
                     [(0 : Nat), (1 : Nat), (2 : Nat), (3 : Nat), (4 : Nat), (5 : Nat), (6 : Nat)] ∧
                    (Known (w23.setCell ((a27.add (4 : Nat)).add (0 : Nat)) (Value.slice q24 n25 n26))
                      [(w.heap.size,
                        [((0 : Nat), Value.int IntKind.i64 k), ((1 : Nat), Value.string s), ((2 : Nat), Value.slice dq dn dc), ((3 : Nat), Value.int IntKind.i64 N),
                         ((4 : Nat), Value.slice kq kn kc), ((5 : Nat), Value.int IntKind.i64 nm), ((6 : Nat), Value.int IntKind.u8 fi)]),
                       ((w.alloc
                           (Obj.cells
                            #[Value.int IntKind.i64 k, Value.string s, Value.slice dq dn dc, Value.int IntKind.i64 N, Value.slice kq kn kc, Value.int IntKind.i64 nm, Value.int IntKind.u8 fi]
                            (124 : Nat))).heap.size,
                        [((0 : Nat), Value.int IntKind.i64 e), ((1 : Nat), Value.slice aq an ac), ((2 : Nat), Value.int IntKind.i64 z), ((3 : Nat), Value.slice nq nn nc),
                         ((4 : Nat), Value.slice lq ln lc), ((5 : Nat), Value.bool re), ((6 : Nat), Value.bool po)])] →
                     R (Ending.returned (Value.tuple #[])) (w23.setCell ((a27.add (4 : Nat)).add (0 : Nat)) (Value.slice q24 n25 n26))))
  else
   bif k == (4 : Int) then
    SX.Ptr p fun (a29 : Addr) =>
     (∃ (v30 : Value),
       ((w.alloc (Obj.cells #[Value.int IntKind.i64 k, Value.string s, Value.slice dq dn dc, Value.int IntKind.i64 N, Value.slice kq kn kc, Value.int IntKind.i64 nm, Value.int IntKind.u8 fi] (124 : Nat))).alloc
            (Obj.cells #[Value.int IntKind.i64 e, Value.slice aq an ac, Value.int IntKind.i64 z, Value.slice nq nn nc, Value.slice lq ln lc, Value.bool re, Value.bool po] (126 : Nat))).drew.cell?
         ((a29.add (3 : Nat)).add (0 : Nat)) =
        some v30) ∧
      ((w.alloc (Obj.cells #[Value.int IntKind.i64 k, Value.string s, Value.slice dq dn dc, Value.int IntKind.i64 N, Value.slice kq kn kc, Value.int IntKind.i64 nm, Value.int IntKind.u8 fi] (124 : Nat))).alloc
            (Obj.cells #[Value.int IntKind.i64 e, Value.slice aq an ac, Value.int IntKind.i64 z, Value.slice nq nn nc, Value.slice lq ln lc, Value.bool re, Value.bool po] (126 : Nat))).drew.frozen?
         ((a29.add (3 : Nat)).add (0 : Nat)) =
        false ∧
       Apart ((a29.add (3 : Nat)).add (0 : Nat)) w.heap.size [(0 : Nat), (1 : Nat), (2 : Nat), (3 : Nat), (4 : Nat), (5 : Nat), (6 : Nat)] ∧
        Apart ((a29.add (3 : Nat)).add (0 : Nat))
          (w.alloc
             (Obj.cells #[Value.int IntKind.i64 k, Value.string s, Value.slice dq dn dc, Value.int IntKind.i64 N, Value.slice kq kn kc, Value.int IntKind.i64 nm, Value.int IntKind.u8 fi]
              (124 : Nat))).heap.size
          [(0 : Nat), (1 : Nat), (2 : Nat), (3 : Nat), (4 : Nat), (5 : Nat), (6 : Nat)] ∧
         (((w.alloc
                   (Obj.cells #[Value.int IntKind.i64 k, Value.string s, Value.slice dq dn dc, Value.int IntKind.i64 N, Value.slice kq kn kc, Value.int IntKind.i64 nm, Value.int IntKind.u8 fi]
                    (124 : Nat))).alloc
                 (Obj.cells #[Value.int IntKind.i64 e, Value.slice aq an ac, Value.int IntKind.i64 z, Value.slice nq nn nc, Value.slice lq ln lc, Value.bool re, Value.bool po] (126 : Nat))).drew.setCell
              ((a29.add (3 : Nat)).add (0 : Nat)) (Value.bool true)).cell?
            {block := w.heap.size, off := (1 : Nat) } =
           some (Value.string s) ∧
          SX.Ptr p fun (a31 : Addr) =>
           (∃ (v32 : Value),
             (((w.alloc
                      (Obj.cells #[Value.int IntKind.i64 k, Value.string s, Value.slice dq dn dc, Value.int IntKind.i64 N, Value.slice kq kn kc, Value.int IntKind.i64 nm, Value.int IntKind.u8 fi]
                       (124 : Nat))).alloc
                    (Obj.cells #[Value.int IntKind.i64 e, Value.slice aq an ac, Value.int IntKind.i64 z, Value.slice nq nn nc, Value.slice lq ln lc, Value.bool re, Value.bool po]
                     (126 : Nat))).drew.setCell
                 ((a29.add (3 : Nat)).add (0 : Nat)) (Value.bool true)).cell?
               ((a31.add (5 : Nat)).add (0 : Nat)) =
              some v32) ∧
            (((w.alloc
                      (Obj.cells #[Value.int IntKind.i64 k, Value.string s, Value.slice dq dn dc, Value.int IntKind.i64 N, Value.slice kq kn kc, Value.int IntKind.i64 nm, Value.int IntKind.u8 fi]
                       (124 : Nat))).alloc
                    (Obj.cells #[Value.int IntKind.i64 e, Value.slice aq an ac, Value.int IntKind.i64 z, Value.slice nq nn nc, Value.slice lq ln lc, Value.bool re, Value.bool po]
                     (126 : Nat))).drew.setCell
                 ((a29.add (3 : Nat)).add (0 : Nat)) (Value.bool true)).frozen?
               ((a31.add (5 : Nat)).add (0 : Nat)) =
              false ∧
             Apart ((a31.add (5 : Nat)).add (0 : Nat)) w.heap.size [(0 : Nat), (1 : Nat), (2 : Nat), (3 : Nat), (4 : Nat), (5 : Nat), (6 : Nat)] ∧
              Apart ((a31.add (5 : Nat)).add (0 : Nat))
                (w.alloc
                   (Obj.cells #[Value.int IntKind.i64 k, Value.string s, Value.slice dq dn dc, Value.int IntKind.i64 N, Value.slice kq kn kc, Value.int IntKind.i64 nm, Value.int IntKind.u8 fi]
                    (124 : Nat))).heap.size
                [(0 : Nat), (1 : Nat), (2 : Nat), (3 : Nat), (4 : Nat), (5 : Nat), (6 : Nat)] ∧
               SX.Ptr p fun (a33 : Addr) =>
                (∃ (v34 : Value),
                  ((((w.alloc
                             (Obj.cells
                              #[Value.int IntKind.i64 k, Value.string s, Value.slice dq dn dc, Value.int IntKind.i64 N, Value.slice kq kn kc, Value.int IntKind.i64 nm,
                               Value.int IntKind.u8 fi]
                              (124 : Nat))).alloc
                           (Obj.cells #[Value.int IntKind.i64 e, Value.slice aq an ac, Value.int IntKind.i64 z, Value.slice nq nn nc, Value.slice lq ln lc, Value.bool re, Value.bool po]
                            (126 : Nat))).drew.setCell
                        ((a29.add (3 : Nat)).add (0 : Nat)) (Value.bool true)).setCell
                      ((a31.add (5 : Nat)).add (0 : Nat)) (Value.string s)).cell?
                    ((a33.add (6 : Nat)).add (0 : Nat)) =
                   some v34) ∧
                 ((((w.alloc
                             (Obj.cells
                              #[Value.int IntKind.i64 k, Value.string s, Value.slice dq dn dc, Value.int IntKind.i64 N, Value.slice kq kn kc, Value.int IntKind.i64 nm,
                               Value.int IntKind.u8 fi]
                              (124 : Nat))).alloc
                           (Obj.cells #[Value.int IntKind.i64 e, Value.slice aq an ac, Value.int IntKind.i64 z, Value.slice nq nn nc, Value.slice lq ln lc, Value.bool re, Value.bool po]
                            (126 : Nat))).drew.setCell
                        ((a29.add (3 : Nat)).add (0 : Nat)) (Value.bool true)).setCell
                      ((a31.add (5 : Nat)).add (0 : Nat)) (Value.string s)).frozen?
                    ((a33.add (6 : Nat)).add (0 : Nat)) =
                   false ∧
                  Apart ((a33.add (6 : Nat)).add (0 : Nat)) w.heap.size [(0 : Nat), (1 : Nat), (2 : Nat), (3 : Nat), (4 : Nat), (5 : Nat), (6 : Nat)] ∧
                   Apart ((a33.add (6 : Nat)).add (0 : Nat))
                     (w.alloc
                        (Obj.cells
                         #[Value.int IntKind.i64 k, Value.string s, Value.slice dq dn dc, Value.int IntKind.i64 N, Value.slice kq kn kc, Value.int IntKind.i64 nm, Value.int IntKind.u8 fi]
                         (124 : Nat))).heap.size
                     [(0 : Nat), (1 : Nat), (2 : Nat), (3 : Nat), (4 : Nat), (5 : Nat), (6 : Nat)] ∧
                    (Known
                      (((((w.alloc
                                (Obj.cells
                                 #[Value.int IntKind.i64 k, Value.string s, Value.slice dq dn dc, Value.int IntKind.i64 N, Value.slice kq kn kc, Value.int IntKind.i64 nm,
                                  Value.int IntKind.u8 fi]
                                 (124 : Nat))).alloc
                              (Obj.cells #[Value.int IntKind.i64 e, Value.slice aq an ac, Value.int IntKind.i64 z, Value.slice nq nn nc, Value.slice lq ln lc, Value.bool re, Value.bool po]
                               (126 : Nat))).drew.setCell
                           ((a29.add (3 : Nat)).add (0 : Nat)) (Value.bool true)).setCell
                         ((a31.add (5 : Nat)).add (0 : Nat)) (Value.string s)).setCell
                       ((a33.add (6 : Nat)).add (0 : Nat)) (Value.slice none (0 : Nat) (0 : Nat)))
                      [(w.heap.size,
                        [((0 : Nat), Value.int IntKind.i64 k), ((1 : Nat), Value.string s), ((2 : Nat), Value.slice dq dn dc), ((3 : Nat), Value.int IntKind.i64 N),
                         ((4 : Nat), Value.slice kq kn kc), ((5 : Nat), Value.int IntKind.i64 nm), ((6 : Nat), Value.int IntKind.u8 fi)]),
                       ((w.alloc
                           (Obj.cells
                            #[Value.int IntKind.i64 k, Value.string s, Value.slice dq dn dc, Value.int IntKind.i64 N, Value.slice kq kn kc, Value.int IntKind.i64 nm, Value.int IntKind.u8 fi]
                            (124 : Nat))).heap.size,
                        [((0 : Nat), Value.int IntKind.i64 e), ((1 : Nat), Value.slice aq an ac), ((2 : Nat), Value.int IntKind.i64 z), ((3 : Nat), Value.slice nq nn nc),
                         ((4 : Nat), Value.slice lq ln lc), ((5 : Nat), Value.bool re), ((6 : Nat), Value.bool po)])] →
                     R (Ending.returned (Value.tuple #[]))
                      (((((w.alloc
                                (Obj.cells
                                 #[Value.int IntKind.i64 k, Value.string s, Value.slice dq dn dc, Value.int IntKind.i64 N, Value.slice kq kn kc, Value.int IntKind.i64 nm,
                                  Value.int IntKind.u8 fi]
                                 (124 : Nat))).alloc
                              (Obj.cells #[Value.int IntKind.i64 e, Value.slice aq an ac, Value.int IntKind.i64 z, Value.slice nq nn nc, Value.slice lq ln lc, Value.bool re, Value.bool po]
                               (126 : Nat))).drew.setCell
                           ((a29.add (3 : Nat)).add (0 : Nat)) (Value.bool true)).setCell
                         ((a31.add (5 : Nat)).add (0 : Nat)) (Value.string s)).setCell
                       ((a33.add (6 : Nat)).add (0 : Nat)) (Value.slice none (0 : Nat) (0 : Nat))))
   else
    bif k == (5 : Int) then
     SX.Ptr p fun (a35 : Addr) =>
      ∃ (q36 : Option Addr),
       ∃ (n37 : Nat),
        ∃ (n38 : Nat),
         ((w.alloc
                 (Obj.cells #[Value.int IntKind.i64 k, Value.string s, Value.slice dq dn dc, Value.int IntKind.i64 N, Value.slice kq kn kc, Value.int IntKind.i64 nm, Value.int IntKind.u8 fi]
                  (124 : Nat))).alloc
               (Obj.cells #[Value.int IntKind.i64 e, Value.slice aq an ac, Value.int IntKind.i64 z, Value.slice nq nn nc, Value.slice lq ln lc, Value.bool re, Value.bool po] (126 : Nat))).drew.cell?
            (a35.add (6 : Nat)) =
           some (Value.slice q36 n37 n38) ∧
          Runs Tryd.prog (Builtin.append_ #[(27 : Nat), (27 : Nat)] (27 : Nat) #[Value.slice q36 n37 n38, Value.slice dq dn dc])
           ((w.alloc
               (Obj.cells #[Value.int IntKind.i64 k, Value.string s, Value.slice dq dn dc, Value.int IntKind.i64 N, Value.slice kq kn kc, Value.int IntKind.i64 nm, Value.int IntKind.u8 fi]
                (124 : Nat))).alloc
             (Obj.cells #[Value.int IntKind.i64 e, Value.slice aq an ac, Value.int IntKind.i64 z, Value.slice nq nn nc, Value.slice lq ln lc, Value.bool re, Value.bool po] (126 : Nat))).drew
           fun (v39 : Value) (w40 : World) =>
           ∃ (q41 : Option Addr),
            ∃ (n42 : Nat),
             ∃ (n43 : Nat),
              v39 = Value.slice q41 n42 n43 ∧
               Keeps
                 ((w.alloc
                     (Obj.cells #[Value.int IntKind.i64 k, Value.string s, Value.slice dq dn dc, Value.int IntKind.i64 N, Value.slice kq kn kc, Value.int IntKind.i64 nm, Value.int IntKind.u8 fi]
                      (124 : Nat))).alloc
                   (Obj.cells #[Value.int IntKind.i64 e, Value.slice aq an ac, Value.int IntKind.i64 z, Value.slice nq nn nc, Value.slice lq ln lc, Value.bool re, Value.bool po] (126 : Nat))).drew
                 w40
                 [w.heap.size,
                  (w.alloc
                     (Obj.cells #[Value.int IntKind.i64 k, Value.string s, Value.slice dq dn dc, Value.int IntKind.i64 N, Value.slice kq kn kc, Value.int IntKind.i64 nm, Value.int IntKind.u8 fi]
                      (124 : Nat))).heap.size] ∧
                SX.Ptr p fun (a44 : Addr) =>
                 (∃ (v45 : Value), w40.cell? ((a44.add (6 : Nat)).add (0 : Nat)) = some v45) ∧
                  w40.frozen? ((a44.add (6 : Nat)).add (0 : Nat)) = false ∧
                   Apart ((a44.add (6 : Nat)).add (0 : Nat)) w.heap.size [(0 : Nat), (1 : Nat), (2 : Nat), (3 : Nat), (4 : Nat), (5 : Nat), (6 : Nat)] ∧
                    Apart ((a44.add (6 : Nat)).add (0 : Nat))
                      (w.alloc
                         (Obj.cells
                          #[Value.int IntKind.i64 k, Value.string s, Value.slice dq dn dc, Value.int IntKind.i64 N, Value.slice kq kn kc, Value.int IntKind.i64 nm, Value.int IntKind.u8 fi]
                          (124 : Nat))).heap.size
                      [(0 : Nat), (1 : Nat), (2 : Nat), (3 : Nat), (4 : Nat), (5 : Nat), (6 : Nat)] ∧
                     (Known (w40.setCell ((a44.add (6 : Nat)).add (0 : Nat)) (Value.slice q41 n42 n43))
                       [(w.heap.size,
                         [((0 : Nat), Value.int IntKind.i64 k), ((1 : Nat), Value.string s), ((2 : Nat), Value.slice dq dn dc), ((3 : Nat), Value.int IntKind.i64 N),
                          ((4 : Nat), Value.slice kq kn kc), ((5 : Nat), Value.int IntKind.i64 nm), ((6 : Nat), Value.int IntKind.u8 fi)]),
                        ((w.alloc
                            (Obj.cells
                             #[Value.int IntKind.i64 k, Value.string s, Value.slice dq dn dc, Value.int IntKind.i64 N, Value.slice kq kn kc, Value.int IntKind.i64 nm, Value.int IntKind.u8 fi]
                             (124 : Nat))).heap.size,
                         [((0 : Nat), Value.int IntKind.i64 e), ((1 : Nat), Value.slice aq an ac), ((2 : Nat), Value.int IntKind.i64 z), ((3 : Nat), Value.slice nq nn nc),
                          ((4 : Nat), Value.slice lq ln lc), ((5 : Nat), Value.bool re), ((6 : Nat), Value.bool po)])] →
                      R (Ending.returned (Value.tuple #[])) (w40.setCell ((a44.add (6 : Nat)).add (0 : Nat)) (Value.slice q41 n42 n43)))
    else
     bif k == (6 : Int) then
      SX.Ptr p fun (a46 : Addr) =>
       ∃ (q47 : Option Addr),
        ∃ (n48 : Nat),
         ∃ (n49 : Nat),
          ((w.alloc
                  (Obj.cells #[Value.int IntKind.i64 k, Value.string s, Value.slice dq dn dc, Value.int IntKind.i64 N, Value.slice kq kn kc, Value.int IntKind.i64 nm, Value.int IntKind.u8 fi]
                   (124 : Nat))).alloc
                (Obj.cells #[Value.int IntKind.i64 e, Value.slice aq an ac, Value.int IntKind.i64 z, Value.slice nq nn nc, Value.slice lq ln lc, Value.bool re, Value.bool po] (126 : Nat))).drew.cell?
             (a46.add (4 : Nat)) =
            some (Value.slice q47 n48 n49) ∧
           SX.Ptr p fun (a50 : Addr) =>
            ∃ (s51 : ByteArray),
             ((w.alloc
                     (Obj.cells #[Value.int IntKind.i64 k, Value.string s, Value.slice dq dn dc, Value.int IntKind.i64 N, Value.slice kq kn kc, Value.int IntKind.i64 nm, Value.int IntKind.u8 fi]
                      (124 : Nat))).alloc
                   (Obj.cells #[Value.int IntKind.i64 e, Value.slice aq an ac, Value.int IntKind.i64 z, Value.slice nq nn nc, Value.slice lq ln lc, Value.bool re, Value.bool po]
                    (126 : Nat))).drew.cell?
                (a50.add (5 : Nat)) =
               some (Value.string s51) ∧
              SX.Ptr p fun (a52 : Addr) =>
               ∃ (q53 : Option Addr),
                ∃ (n54 : Nat),
                 ∃ (n55 : Nat),
                  ((w.alloc
                          (Obj.cells
                           #[Value.int IntKind.i64 k, Value.string s, Value.slice dq dn dc, Value.int IntKind.i64 N, Value.slice kq kn kc, Value.int IntKind.i64 nm, Value.int IntKind.u8 fi]
                           (124 : Nat))).alloc
                        (Obj.cells #[Value.int IntKind.i64 e, Value.slice aq an ac, Value.int IntKind.i64 z, Value.slice nq nn nc, Value.slice lq ln lc, Value.bool re, Value.bool po]
                         (126 : Nat))).drew.cell?
                     (a52.add (6 : Nat)) =
                    some (Value.slice q53 n54 n55) ∧
                   (Known
                     ((w.alloc
                         (Obj.cells
                          #[Value.int IntKind.i64 k, Value.string s, Value.slice dq dn dc, Value.int IntKind.i64 N, Value.slice kq kn kc, Value.int IntKind.i64 nm, Value.int IntKind.u8 fi]
                          (124 : Nat))).alloc
                       (Obj.cells #[Value.int IntKind.i64 e, Value.slice aq an ac, Value.int IntKind.i64 z, Value.slice nq nn nc, Value.slice lq ln lc, Value.bool re, Value.bool po]
                        (126 : Nat))).drew
                     [(w.heap.size,
                       [((0 : Nat), Value.int IntKind.i64 k), ((1 : Nat), Value.string s), ((2 : Nat), Value.slice dq dn dc), ((3 : Nat), Value.int IntKind.i64 N),
                        ((4 : Nat), Value.slice kq kn kc), ((5 : Nat), Value.int IntKind.i64 nm), ((6 : Nat), Value.int IntKind.u8 fi)]),
                      ((w.alloc
                          (Obj.cells
                           #[Value.int IntKind.i64 k, Value.string s, Value.slice dq dn dc, Value.int IntKind.i64 N, Value.slice kq kn kc, Value.int IntKind.i64 nm, Value.int IntKind.u8 fi]
                           (124 : Nat))).heap.size,
                       [((0 : Nat), Value.int IntKind.i64 e), ((1 : Nat), Value.slice aq an ac), ((2 : Nat), Value.int IntKind.i64 z), ((3 : Nat), Value.slice nq nn nc),
                        ((4 : Nat), Value.slice lq ln lc), ((5 : Nat), Value.bool re), ((6 : Nat), Value.bool po)])] →
                    Rets Tryd.prog (89 : Nat) #[Value.slice q47 n48 n49, Value.string s51, Value.slice q53 n54 n55]
                     ((w.alloc
                         (Obj.cells
                          #[Value.int IntKind.i64 k, Value.string s, Value.slice dq dn dc, Value.int IntKind.i64 N, Value.slice kq kn kc, Value.int IntKind.i64 nm, Value.int IntKind.u8 fi]
                          (124 : Nat))).alloc
                       (Obj.cells #[Value.int IntKind.i64 e, Value.slice aq an ac, Value.int IntKind.i64 z, Value.slice nq nn nc, Value.slice lq ln lc, Value.bool re, Value.bool po]
                        (126 : Nat))).drew
                     fun (v56 : Value) (w57 : World) =>
                     ∃ (q58 : Option Addr),
                      ∃ (n59 : Nat),
                       ∃ (n60 : Nat),
                        v56 = Value.slice q58 n59 n60 ∧
                         Keeps
                           ((w.alloc
                               (Obj.cells
                                #[Value.int IntKind.i64 k, Value.string s, Value.slice dq dn dc, Value.int IntKind.i64 N, Value.slice kq kn kc, Value.int IntKind.i64 nm,
                                 Value.int IntKind.u8 fi]
                                (124 : Nat))).alloc
                             (Obj.cells #[Value.int IntKind.i64 e, Value.slice aq an ac, Value.int IntKind.i64 z, Value.slice nq nn nc, Value.slice lq ln lc, Value.bool re, Value.bool po]
                              (126 : Nat))).drew
                           w57
                           [w.heap.size,
                            (w.alloc
                               (Obj.cells
                                #[Value.int IntKind.i64 k, Value.string s, Value.slice dq dn dc, Value.int IntKind.i64 N, Value.slice kq kn kc, Value.int IntKind.i64 nm,
                                 Value.int IntKind.u8 fi]
                                (124 : Nat))).heap.size] ∧
                          SX.Ptr p fun (a61 : Addr) =>
                           (∃ (v62 : Value), w57.cell? ((a61.add (4 : Nat)).add (0 : Nat)) = some v62) ∧
                            w57.frozen? ((a61.add (4 : Nat)).add (0 : Nat)) = false ∧
                             Apart ((a61.add (4 : Nat)).add (0 : Nat)) w.heap.size [(0 : Nat), (1 : Nat), (2 : Nat), (3 : Nat), (4 : Nat), (5 : Nat), (6 : Nat)] ∧
                              Apart ((a61.add (4 : Nat)).add (0 : Nat))
                                (w.alloc
                                   (Obj.cells
                                    #[Value.int IntKind.i64 k, Value.string s, Value.slice dq dn dc, Value.int IntKind.i64 N, Value.slice kq kn kc, Value.int IntKind.i64 nm,
                                     Value.int IntKind.u8 fi]
                                    (124 : Nat))).heap.size
                                [(0 : Nat), (1 : Nat), (2 : Nat), (3 : Nat), (4 : Nat), (5 : Nat), (6 : Nat)] ∧
                               SX.Ptr p fun (a63 : Addr) =>
                                (∃ (v64 : Value), (w57.setCell ((a61.add (4 : Nat)).add (0 : Nat)) (Value.slice q58 n59 n60)).cell? ((a63.add (3 : Nat)).add (0 : Nat)) = some v64) ∧
                                 (w57.setCell ((a61.add (4 : Nat)).add (0 : Nat)) (Value.slice q58 n59 n60)).frozen? ((a63.add (3 : Nat)).add (0 : Nat)) = false ∧
                                  Apart ((a63.add (3 : Nat)).add (0 : Nat)) w.heap.size [(0 : Nat), (1 : Nat), (2 : Nat), (3 : Nat), (4 : Nat), (5 : Nat), (6 : Nat)] ∧
                                   Apart ((a63.add (3 : Nat)).add (0 : Nat))
                                     (w.alloc
                                        (Obj.cells
                                         #[Value.int IntKind.i64 k, Value.string s, Value.slice dq dn dc, Value.int IntKind.i64 N, Value.slice kq kn kc, Value.int IntKind.i64 nm,
                                          Value.int IntKind.u8 fi]
                                         (124 : Nat))).heap.size
                                     [(0 : Nat), (1 : Nat), (2 : Nat), (3 : Nat), (4 : Nat), (5 : Nat), (6 : Nat)] ∧
                                    (Known ((w57.setCell ((a61.add (4 : Nat)).add (0 : Nat)) (Value.slice q58 n59 n60)).setCell ((a63.add (3 : Nat)).add (0 : Nat)) (Value.bool false))
                                      [(w.heap.size,
                                        [((0 : Nat), Value.int IntKind.i64 k), ((1 : Nat), Value.string s), ((2 : Nat), Value.slice dq dn dc), ((3 : Nat), Value.int IntKind.i64 N),
                                         ((4 : Nat), Value.slice kq kn kc), ((5 : Nat), Value.int IntKind.i64 nm), ((6 : Nat), Value.int IntKind.u8 fi)]),
                                       ((w.alloc
                                           (Obj.cells
                                            #[Value.int IntKind.i64 k, Value.string s, Value.slice dq dn dc, Value.int IntKind.i64 N, Value.slice kq kn kc,
                                             Value.int IntKind.i64 nm, Value.int IntKind.u8 fi]
                                            (124 : Nat))).heap.size,
                                        [((0 : Nat), Value.int IntKind.i64 e), ((1 : Nat), Value.slice aq an ac), ((2 : Nat), Value.int IntKind.i64 z),
                                         ((3 : Nat), Value.slice nq nn nc), ((4 : Nat), Value.slice lq ln lc), ((5 : Nat), Value.bool re), ((6 : Nat), Value.bool po)])] →
                                     R (Ending.returned (Value.tuple #[]))
                                      ((w57.setCell ((a61.add (4 : Nat)).add (0 : Nat)) (Value.slice q58 n59 n60)).setCell ((a63.add (3 : Nat)).add (0 : Nat)) (Value.bool false))))
     else
      bif k == (7 : Int) then
       SX.Ptr p fun (a65 : Addr) =>
        (∃ (v66 : Value),
          ((w.alloc
                (Obj.cells #[Value.int IntKind.i64 k, Value.string s, Value.slice dq dn dc, Value.int IntKind.i64 N, Value.slice kq kn kc, Value.int IntKind.i64 nm, Value.int IntKind.u8 fi]
                 (124 : Nat))).alloc
              (Obj.cells #[Value.int IntKind.i64 e, Value.slice aq an ac, Value.int IntKind.i64 z, Value.slice nq nn nc, Value.slice lq ln lc, Value.bool re, Value.bool po] (126 : Nat))).cell?
            ((a65.add (3 : Nat)).add (0 : Nat)) =
           some v66) ∧
         ((w.alloc
                (Obj.cells #[Value.int IntKind.i64 k, Value.string s, Value.slice dq dn dc, Value.int IntKind.i64 N, Value.slice kq kn kc, Value.int IntKind.i64 nm, Value.int IntKind.u8 fi]
                 (124 : Nat))).alloc
              (Obj.cells #[Value.int IntKind.i64 e, Value.slice aq an ac, Value.int IntKind.i64 z, Value.slice nq nn nc, Value.slice lq ln lc, Value.bool re, Value.bool po] (126 : Nat))).frozen?
            ((a65.add (3 : Nat)).add (0 : Nat)) =
           false ∧
          Apart ((a65.add (3 : Nat)).add (0 : Nat)) w.heap.size [(0 : Nat), (1 : Nat), (2 : Nat), (3 : Nat), (4 : Nat), (5 : Nat), (6 : Nat)] ∧
           Apart ((a65.add (3 : Nat)).add (0 : Nat))
             (w.alloc
                (Obj.cells #[Value.int IntKind.i64 k, Value.string s, Value.slice dq dn dc, Value.int IntKind.i64 N, Value.slice kq kn kc, Value.int IntKind.i64 nm, Value.int IntKind.u8 fi]
                 (124 : Nat))).heap.size
             [(0 : Nat), (1 : Nat), (2 : Nat), (3 : Nat), (4 : Nat), (5 : Nat), (6 : Nat)] ∧
            (Known
              (((w.alloc
                   (Obj.cells #[Value.int IntKind.i64 k, Value.string s, Value.slice dq dn dc, Value.int IntKind.i64 N, Value.slice kq kn kc, Value.int IntKind.i64 nm, Value.int IntKind.u8 fi]
                    (124 : Nat))).alloc
                 (Obj.cells #[Value.int IntKind.i64 e, Value.slice aq an ac, Value.int IntKind.i64 z, Value.slice nq nn nc, Value.slice lq ln lc, Value.bool re, Value.bool po] (126 : Nat))).setCell
               ((a65.add (3 : Nat)).add (0 : Nat)) (Value.bool false))
              [(w.heap.size,
                [((0 : Nat), Value.int IntKind.i64 k), ((1 : Nat), Value.string s), ((2 : Nat), Value.slice dq dn dc), ((3 : Nat), Value.int IntKind.i64 N), ((4 : Nat), Value.slice kq kn kc),
                 ((5 : Nat), Value.int IntKind.i64 nm), ((6 : Nat), Value.int IntKind.u8 fi)]),
               ((w.alloc
                   (Obj.cells #[Value.int IntKind.i64 k, Value.string s, Value.slice dq dn dc, Value.int IntKind.i64 N, Value.slice kq kn kc, Value.int IntKind.i64 nm, Value.int IntKind.u8 fi]
                    (124 : Nat))).heap.size,
                [((0 : Nat), Value.int IntKind.i64 e), ((1 : Nat), Value.slice aq an ac), ((2 : Nat), Value.int IntKind.i64 z), ((3 : Nat), Value.slice nq nn nc), ((4 : Nat), Value.slice lq ln lc),
                 ((5 : Nat), Value.bool re), ((6 : Nat), Value.bool po)])] →
             R (Ending.returned (Value.tuple #[]))
              (((w.alloc
                   (Obj.cells #[Value.int IntKind.i64 k, Value.string s, Value.slice dq dn dc, Value.int IntKind.i64 N, Value.slice kq kn kc, Value.int IntKind.i64 nm, Value.int IntKind.u8 fi]
                    (124 : Nat))).alloc
                 (Obj.cells #[Value.int IntKind.i64 e, Value.slice aq an ac, Value.int IntKind.i64 z, Value.slice nq nn nc, Value.slice lq ln lc, Value.bool re, Value.bool po] (126 : Nat))).setCell
               ((a65.add (3 : Nat)).add (0 : Nat)) (Value.bool false)))
      else
       bif k == (11 : Int) then
        SX.Ptr p fun (a67 : Addr) =>
         ∃ (q68 : Option Addr),
          ∃ (n69 : Nat),
           ∃ (n70 : Nat),
            ((w.alloc
                    (Obj.cells #[Value.int IntKind.i64 k, Value.string s, Value.slice dq dn dc, Value.int IntKind.i64 N, Value.slice kq kn kc, Value.int IntKind.i64 nm, Value.int IntKind.u8 fi]
                     (124 : Nat))).alloc
                  (Obj.cells #[Value.int IntKind.i64 e, Value.slice aq an ac, Value.int IntKind.i64 z, Value.slice nq nn nc, Value.slice lq ln lc, Value.bool re, Value.bool po] (126 : Nat))).drew.cell?
               (a67.add (4 : Nat)) =
              some (Value.slice q68 n69 n70) ∧
             (Known
               ((w.alloc
                   (Obj.cells #[Value.int IntKind.i64 k, Value.string s, Value.slice dq dn dc, Value.int IntKind.i64 N, Value.slice kq kn kc, Value.int IntKind.i64 nm, Value.int IntKind.u8 fi]
                    (124 : Nat))).alloc
                 (Obj.cells #[Value.int IntKind.i64 e, Value.slice aq an ac, Value.int IntKind.i64 z, Value.slice nq nn nc, Value.slice lq ln lc, Value.bool re, Value.bool po] (126 : Nat))).drew
               [(w.heap.size,
                 [((0 : Nat), Value.int IntKind.i64 k), ((1 : Nat), Value.string s), ((2 : Nat), Value.slice dq dn dc), ((3 : Nat), Value.int IntKind.i64 N), ((4 : Nat), Value.slice kq kn kc),
                  ((5 : Nat), Value.int IntKind.i64 nm), ((6 : Nat), Value.int IntKind.u8 fi)]),
                ((w.alloc
                    (Obj.cells #[Value.int IntKind.i64 k, Value.string s, Value.slice dq dn dc, Value.int IntKind.i64 N, Value.slice kq kn kc, Value.int IntKind.i64 nm, Value.int IntKind.u8 fi]
                     (124 : Nat))).heap.size,
                 [((0 : Nat), Value.int IntKind.i64 e), ((1 : Nat), Value.slice aq an ac), ((2 : Nat), Value.int IntKind.i64 z), ((3 : Nat), Value.slice nq nn nc), ((4 : Nat), Value.slice lq ln lc),
                  ((5 : Nat), Value.bool re), ((6 : Nat), Value.bool po)])] →
              Rets Tryd.prog (90 : Nat) #[Value.slice q68 n69 n70, Value.string s]
               ((w.alloc
                   (Obj.cells #[Value.int IntKind.i64 k, Value.string s, Value.slice dq dn dc, Value.int IntKind.i64 N, Value.slice kq kn kc, Value.int IntKind.i64 nm, Value.int IntKind.u8 fi]
                    (124 : Nat))).alloc
                 (Obj.cells #[Value.int IntKind.i64 e, Value.slice aq an ac, Value.int IntKind.i64 z, Value.slice nq nn nc, Value.slice lq ln lc, Value.bool re, Value.bool po] (126 : Nat))).drew
               fun (v71 : Value) (w72 : World) =>
               ∃ (q73 : Option Addr),
                ∃ (n74 : Nat),
                 ∃ (n75 : Nat),
                  v71 = Value.slice q73 n74 n75 ∧
                   Keeps
                     ((w.alloc
                         (Obj.cells
                          #[Value.int IntKind.i64 k, Value.string s, Value.slice dq dn dc, Value.int IntKind.i64 N, Value.slice kq kn kc, Value.int IntKind.i64 nm, Value.int IntKind.u8 fi]
                          (124 : Nat))).alloc
                       (Obj.cells #[Value.int IntKind.i64 e, Value.slice aq an ac, Value.int IntKind.i64 z, Value.slice nq nn nc, Value.slice lq ln lc, Value.bool re, Value.bool po]
                        (126 : Nat))).drew
                     w72
                     [w.heap.size,
                      (w.alloc
                         (Obj.cells
                          #[Value.int IntKind.i64 k, Value.string s, Value.slice dq dn dc, Value.int IntKind.i64 N, Value.slice kq kn kc, Value.int IntKind.i64 nm, Value.int IntKind.u8 fi]
                          (124 : Nat))).heap.size] ∧
                    SX.Ptr p fun (a76 : Addr) =>
                     (∃ (v77 : Value), w72.cell? ((a76.add (4 : Nat)).add (0 : Nat)) = some v77) ∧
                      w72.frozen? ((a76.add (4 : Nat)).add (0 : Nat)) = false ∧
                       Apart ((a76.add (4 : Nat)).add (0 : Nat)) w.heap.size [(0 : Nat), (1 : Nat), (2 : Nat), (3 : Nat), (4 : Nat), (5 : Nat), (6 : Nat)] ∧
                        Apart ((a76.add (4 : Nat)).add (0 : Nat))
                          (w.alloc
                             (Obj.cells
                              #[Value.int IntKind.i64 k, Value.string s, Value.slice dq dn dc, Value.int IntKind.i64 N, Value.slice kq kn kc, Value.int IntKind.i64 nm,
                               Value.int IntKind.u8 fi]
                              (124 : Nat))).heap.size
                          [(0 : Nat), (1 : Nat), (2 : Nat), (3 : Nat), (4 : Nat), (5 : Nat), (6 : Nat)] ∧
                         (Known (w72.setCell ((a76.add (4 : Nat)).add (0 : Nat)) (Value.slice q73 n74 n75))
                           [(w.heap.size,
                             [((0 : Nat), Value.int IntKind.i64 k), ((1 : Nat), Value.string s), ((2 : Nat), Value.slice dq dn dc), ((3 : Nat), Value.int IntKind.i64 N),
                              ((4 : Nat), Value.slice kq kn kc), ((5 : Nat), Value.int IntKind.i64 nm), ((6 : Nat), Value.int IntKind.u8 fi)]),
                            ((w.alloc
                                (Obj.cells
                                 #[Value.int IntKind.i64 k, Value.string s, Value.slice dq dn dc, Value.int IntKind.i64 N, Value.slice kq kn kc, Value.int IntKind.i64 nm,
                                  Value.int IntKind.u8 fi]
                                 (124 : Nat))).heap.size,
                             [((0 : Nat), Value.int IntKind.i64 e), ((1 : Nat), Value.slice aq an ac), ((2 : Nat), Value.int IntKind.i64 z), ((3 : Nat), Value.slice nq nn nc),
                              ((4 : Nat), Value.slice lq ln lc), ((5 : Nat), Value.bool re), ((6 : Nat), Value.bool po)])] →
                          R (Ending.returned (Value.tuple #[])) (w72.setCell ((a76.add (4 : Nat)).add (0 : Nat)) (Value.slice q73 n74 n75))))
       else
        bif k == (12 : Int) then
         bif k == (12 : Int) then
          SX.Ptr p fun (a78 : Addr) =>
           ∃ (q79 : Option Addr),
            ∃ (n80 : Nat),
             ∃ (n81 : Nat),
              ((w.alloc
                     (Obj.cells #[Value.int IntKind.i64 k, Value.string s, Value.slice dq dn dc, Value.int IntKind.i64 N, Value.slice kq kn kc, Value.int IntKind.i64 nm, Value.int IntKind.u8 fi]
                      (124 : Nat))).alloc
                   (Obj.cells #[Value.int IntKind.i64 e, Value.slice aq an ac, Value.int IntKind.i64 z, Value.slice nq nn nc, Value.slice lq ln lc, Value.bool re, Value.bool po] (126 : Nat))).cell?
                 (a78.add (4 : Nat)) =
                some (Value.slice q79 n80 n81) ∧
               (Known
                 ((w.alloc
                    (Obj.cells #[Value.int IntKind.i64 k, Value.string s, Value.slice dq dn dc, Value.int IntKind.i64 N, Value.slice kq kn kc, Value.int IntKind.i64 nm, Value.int IntKind.u8 fi]
                     (124 : Nat))).alloc
                  (Obj.cells #[Value.int IntKind.i64 e, Value.slice aq an ac, Value.int IntKind.i64 z, Value.slice nq nn nc, Value.slice lq ln lc, Value.bool re, Value.bool po] (126 : Nat)))
                 [(w.heap.size,
                   [((0 : Nat), Value.int IntKind.i64 k), ((1 : Nat), Value.string s), ((2 : Nat), Value.slice dq dn dc), ((3 : Nat), Value.int IntKind.i64 N), ((4 : Nat), Value.slice kq kn kc),
                    ((5 : Nat), Value.int IntKind.i64 nm), ((6 : Nat), Value.int IntKind.u8 fi)]),
                  ((w.alloc
                      (Obj.cells #[Value.int IntKind.i64 k, Value.string s, Value.slice dq dn dc, Value.int IntKind.i64 N, Value.slice kq kn kc, Value.int IntKind.i64 nm, Value.int IntKind.u8 fi]
                       (124 : Nat))).heap.size,
                   [((0 : Nat), Value.int IntKind.i64 e), ((1 : Nat), Value.slice aq an ac), ((2 : Nat), Value.int IntKind.i64 z), ((3 : Nat), Value.slice nq nn nc), ((4 : Nat), Value.slice lq ln lc),
                    ((5 : Nat), Value.bool re), ((6 : Nat), Value.bool po)])] →
                Rets Tryd.prog (139 : Nat) #[Value.slice q79 n80 n81]
                 ((w.alloc
                    (Obj.cells #[Value.int IntKind.i64 k, Value.string s, Value.slice dq dn dc, Value.int IntKind.i64 N, Value.slice kq kn kc, Value.int IntKind.i64 nm, Value.int IntKind.u8 fi]
                     (124 : Nat))).alloc
                  (Obj.cells #[Value.int IntKind.i64 e, Value.slice aq an ac, Value.int IntKind.i64 z, Value.slice nq nn nc, Value.slice lq ln lc, Value.bool re, Value.bool po] (126 : Nat)))
                 fun (v82 : Value) (w83 : World) =>
                 ∃ (q84 : Option Addr),
                  ∃ (n85 : Nat),
                   ∃ (n86 : Nat),
                    v82 = Value.slice q84 n85 n86 ∧
                     Keeps
                       ((w.alloc
                          (Obj.cells
                           #[Value.int IntKind.i64 k, Value.string s, Value.slice dq dn dc, Value.int IntKind.i64 N, Value.slice kq kn kc, Value.int IntKind.i64 nm, Value.int IntKind.u8 fi]
                           (124 : Nat))).alloc
                        (Obj.cells #[Value.int IntKind.i64 e, Value.slice aq an ac, Value.int IntKind.i64 z, Value.slice nq nn nc, Value.slice lq ln lc, Value.bool re, Value.bool po] (126 : Nat)))
                       w83
                       [w.heap.size,
                        (w.alloc
                           (Obj.cells
                            #[Value.int IntKind.i64 k, Value.string s, Value.slice dq dn dc, Value.int IntKind.i64 N, Value.slice kq kn kc, Value.int IntKind.i64 nm, Value.int IntKind.u8 fi]
                            (124 : Nat))).heap.size] ∧
                      SX.Ptr p fun (a87 : Addr) =>
                       (∃ (v88 : Value), (w83.alloc (Obj.cells #[Value.bool true, Value.slice q84 n85 n86] (130 : Nat))).cell? ((a87.add (0 : Nat)).add (0 : Nat)) = some v88) ∧
                        (w83.alloc (Obj.cells #[Value.bool true, Value.slice q84 n85 n86] (130 : Nat))).frozen? ((a87.add (0 : Nat)).add (0 : Nat)) = false ∧
                         Apart ((a87.add (0 : Nat)).add (0 : Nat)) w.heap.size [(0 : Nat), (1 : Nat), (2 : Nat), (3 : Nat), (4 : Nat), (5 : Nat), (6 : Nat)] ∧
                          Apart ((a87.add (0 : Nat)).add (0 : Nat))
                            (w.alloc
                               (Obj.cells
                                #[Value.int IntKind.i64 k, Value.string s, Value.slice dq dn dc, Value.int IntKind.i64 N, Value.slice kq kn kc, Value.int IntKind.i64 nm,
                                 Value.int IntKind.u8 fi]
                                (124 : Nat))).heap.size
                            [(0 : Nat), (1 : Nat), (2 : Nat), (3 : Nat), (4 : Nat), (5 : Nat), (6 : Nat)] ∧
                           (Known
                             ((w83.alloc (Obj.cells #[Value.bool true, Value.slice q84 n85 n86] (130 : Nat))).setCell ((a87.add (0 : Nat)).add (0 : Nat))
                              (Value.slice (some { block := w83.heap.size, off := (0 : Nat) }) (1 : Nat) (1 : Nat)))
                             [(w.heap.size,
                               [((0 : Nat), Value.int IntKind.i64 k), ((1 : Nat), Value.string s), ((2 : Nat), Value.slice dq dn dc), ((3 : Nat), Value.int IntKind.i64 N),
                                ((4 : Nat), Value.slice kq kn kc), ((5 : Nat), Value.int IntKind.i64 nm), ((6 : Nat), Value.int IntKind.u8 fi)]),
                              ((w.alloc
                                  (Obj.cells
                                   #[Value.int IntKind.i64 k, Value.string s, Value.slice dq dn dc, Value.int IntKind.i64 N, Value.slice kq kn kc, Value.int IntKind.i64 nm,
                                    Value.int IntKind.u8 fi]
                                   (124 : Nat))).heap.size,
                               [((0 : Nat), Value.int IntKind.i64 e), ((1 : Nat), Value.slice aq an ac), ((2 : Nat), Value.int IntKind.i64 z), ((3 : Nat), Value.slice nq nn nc),
                                ((4 : Nat), Value.slice lq ln lc), ((5 : Nat), Value.bool re), ((6 : Nat), Value.bool po)])] →
                            R (Ending.returned (Value.tuple #[]))
                             ((w83.alloc (Obj.cells #[Value.bool true, Value.slice q84 n85 n86] (130 : Nat))).setCell ((a87.add (0 : Nat)).add (0 : Nat))
                              (Value.slice (some { block := w83.heap.size, off := (0 : Nat) }) (1 : Nat) (1 : Nat)))))
         else
          Known
            ((w.alloc
               (Obj.cells #[Value.int IntKind.i64 k, Value.string s, Value.slice dq dn dc, Value.int IntKind.i64 N, Value.slice kq kn kc, Value.int IntKind.i64 nm, Value.int IntKind.u8 fi]
                (124 : Nat))).alloc
             (Obj.cells #[Value.int IntKind.i64 e, Value.slice aq an ac, Value.int IntKind.i64 z, Value.slice nq nn nc, Value.slice lq ln lc, Value.bool re, Value.bool po] (126 : Nat)))
            [(w.heap.size,
              [((0 : Nat), Value.int IntKind.i64 k), ((1 : Nat), Value.string s), ((2 : Nat), Value.slice dq dn dc), ((3 : Nat), Value.int IntKind.i64 N), ((4 : Nat), Value.slice kq kn kc),
               ((5 : Nat), Value.int IntKind.i64 nm), ((6 : Nat), Value.int IntKind.u8 fi)]),
             ((w.alloc
                 (Obj.cells #[Value.int IntKind.i64 k, Value.string s, Value.slice dq dn dc, Value.int IntKind.i64 N, Value.slice kq kn kc, Value.int IntKind.i64 nm, Value.int IntKind.u8 fi]
                  (124 : Nat))).heap.size,
              [((0 : Nat), Value.int IntKind.i64 e), ((1 : Nat), Value.slice aq an ac), ((2 : Nat), Value.int IntKind.i64 z), ((3 : Nat), Value.slice nq nn nc), ((4 : Nat), Value.slice lq ln lc),
               ((5 : Nat), Value.bool re), ((6 : Nat), Value.bool po)])] →
           R (Ending.returned (Value.tuple #[]))
            ((w.alloc
               (Obj.cells #[Value.int IntKind.i64 k, Value.string s, Value.slice dq dn dc, Value.int IntKind.i64 N, Value.slice kq kn kc, Value.int IntKind.i64 nm, Value.int IntKind.u8 fi]
                (124 : Nat))).alloc
             (Obj.cells #[Value.int IntKind.i64 e, Value.slice aq an ac, Value.int IntKind.i64 z, Value.slice nq nn nc, Value.slice lq ln lc, Value.bool re, Value.bool po] (126 : Nat)))
        else
         bif k == (13 : Int) then
          bif k == (13 : Int) then
           SX.Ptr p fun (a89 : Addr) =>
            ∃ (q90 : Option Addr),
             ∃ (n91 : Nat),
              ∃ (n92 : Nat),
               ((w.alloc
                      (Obj.cells #[Value.int IntKind.i64 k, Value.string s, Value.slice dq dn dc, Value.int IntKind.i64 N, Value.slice kq kn kc, Value.int IntKind.i64 nm, Value.int IntKind.u8 fi]
                       (124 : Nat))).alloc
                    (Obj.cells #[Value.int IntKind.i64 e, Value.slice aq an ac, Value.int IntKind.i64 z, Value.slice nq nn nc, Value.slice lq ln lc, Value.bool re, Value.bool po] (126 : Nat))).cell?
                  (a89.add (4 : Nat)) =
                 some (Value.slice q90 n91 n92) ∧
                (Known
                  ((w.alloc
                     (Obj.cells #[Value.int IntKind.i64 k, Value.string s, Value.slice dq dn dc, Value.int IntKind.i64 N, Value.slice kq kn kc, Value.int IntKind.i64 nm, Value.int IntKind.u8 fi]
                      (124 : Nat))).alloc
                   (Obj.cells #[Value.int IntKind.i64 e, Value.slice aq an ac, Value.int IntKind.i64 z, Value.slice nq nn nc, Value.slice lq ln lc, Value.bool re, Value.bool po] (126 : Nat)))
                  [(w.heap.size,
                    [((0 : Nat), Value.int IntKind.i64 k), ((1 : Nat), Value.string s), ((2 : Nat), Value.slice dq dn dc), ((3 : Nat), Value.int IntKind.i64 N), ((4 : Nat), Value.slice kq kn kc),
                     ((5 : Nat), Value.int IntKind.i64 nm), ((6 : Nat), Value.int IntKind.u8 fi)]),
                   ((w.alloc
                       (Obj.cells #[Value.int IntKind.i64 k, Value.string s, Value.slice dq dn dc, Value.int IntKind.i64 N, Value.slice kq kn kc, Value.int IntKind.i64 nm, Value.int IntKind.u8 fi]
                        (124 : Nat))).heap.size,
                    [((0 : Nat), Value.int IntKind.i64 e), ((1 : Nat), Value.slice aq an ac), ((2 : Nat), Value.int IntKind.i64 z), ((3 : Nat), Value.slice nq nn nc),
                     ((4 : Nat), Value.slice lq ln lc), ((5 : Nat), Value.bool re), ((6 : Nat), Value.bool po)])] →
                 Rets Tryd.prog (139 : Nat) #[Value.slice q90 n91 n92]
                  ((w.alloc
                     (Obj.cells #[Value.int IntKind.i64 k, Value.string s, Value.slice dq dn dc, Value.int IntKind.i64 N, Value.slice kq kn kc, Value.int IntKind.i64 nm, Value.int IntKind.u8 fi]
                      (124 : Nat))).alloc
                   (Obj.cells #[Value.int IntKind.i64 e, Value.slice aq an ac, Value.int IntKind.i64 z, Value.slice nq nn nc, Value.slice lq ln lc, Value.bool re, Value.bool po] (126 : Nat)))
                  fun (v93 : Value) (w94 : World) =>
                  ∃ (q95 : Option Addr),
                   ∃ (n96 : Nat),
                    ∃ (n97 : Nat),
                     v93 = Value.slice q95 n96 n97 ∧
                      Keeps
                        ((w.alloc
                           (Obj.cells
                            #[Value.int IntKind.i64 k, Value.string s, Value.slice dq dn dc, Value.int IntKind.i64 N, Value.slice kq kn kc, Value.int IntKind.i64 nm, Value.int IntKind.u8 fi]
                            (124 : Nat))).alloc
                         (Obj.cells #[Value.int IntKind.i64 e, Value.slice aq an ac, Value.int IntKind.i64 z, Value.slice nq nn nc, Value.slice lq ln lc, Value.bool re, Value.bool po]
                          (126 : Nat)))
                        w94
                        [w.heap.size,
                         (w.alloc
                            (Obj.cells
                             #[Value.int IntKind.i64 k, Value.string s, Value.slice dq dn dc, Value.int IntKind.i64 N, Value.slice kq kn kc, Value.int IntKind.i64 nm, Value.int IntKind.u8 fi]
                             (124 : Nat))).heap.size] ∧
                       SX.Ptr p fun (a98 : Addr) =>
                        (∃ (v99 : Value), (w94.alloc (Obj.cells #[Value.bool true, Value.slice q95 n96 n97] (130 : Nat))).cell? ((a98.add (0 : Nat)).add (0 : Nat)) = some v99) ∧
                         (w94.alloc (Obj.cells #[Value.bool true, Value.slice q95 n96 n97] (130 : Nat))).frozen? ((a98.add (0 : Nat)).add (0 : Nat)) = false ∧
                          Apart ((a98.add (0 : Nat)).add (0 : Nat)) w.heap.size [(0 : Nat), (1 : Nat), (2 : Nat), (3 : Nat), (4 : Nat), (5 : Nat), (6 : Nat)] ∧
                           Apart ((a98.add (0 : Nat)).add (0 : Nat))
                             (w.alloc
                                (Obj.cells
                                 #[Value.int IntKind.i64 k, Value.string s, Value.slice dq dn dc, Value.int IntKind.i64 N, Value.slice kq kn kc, Value.int IntKind.i64 nm,
                                  Value.int IntKind.u8 fi]
                                 (124 : Nat))).heap.size
                             [(0 : Nat), (1 : Nat), (2 : Nat), (3 : Nat), (4 : Nat), (5 : Nat), (6 : Nat)] ∧
                            (Known
                              ((w94.alloc (Obj.cells #[Value.bool true, Value.slice q95 n96 n97] (130 : Nat))).setCell ((a98.add (0 : Nat)).add (0 : Nat))
                               (Value.slice (some { block := w94.heap.size, off := (0 : Nat) }) (1 : Nat) (1 : Nat)))
                              [(w.heap.size,
                                [((0 : Nat), Value.int IntKind.i64 k), ((1 : Nat), Value.string s), ((2 : Nat), Value.slice dq dn dc), ((3 : Nat), Value.int IntKind.i64 N),
                                 ((4 : Nat), Value.slice kq kn kc), ((5 : Nat), Value.int IntKind.i64 nm), ((6 : Nat), Value.int IntKind.u8 fi)]),
                               ((w.alloc
                                   (Obj.cells
                                    #[Value.int IntKind.i64 k, Value.string s, Value.slice dq dn dc, Value.int IntKind.i64 N, Value.slice kq kn kc, Value.int IntKind.i64 nm,
                                     Value.int IntKind.u8 fi]
                                    (124 : Nat))).heap.size,
                                [((0 : Nat), Value.int IntKind.i64 e), ((1 : Nat), Value.slice aq an ac), ((2 : Nat), Value.int IntKind.i64 z), ((3 : Nat), Value.slice nq nn nc),
                                 ((4 : Nat), Value.slice lq ln lc), ((5 : Nat), Value.bool re), ((6 : Nat), Value.bool po)])] →
                             R (Ending.returned (Value.tuple #[]))
                              ((w94.alloc (Obj.cells #[Value.bool true, Value.slice q95 n96 n97] (130 : Nat))).setCell ((a98.add (0 : Nat)).add (0 : Nat))
                               (Value.slice (some { block := w94.heap.size, off := (0 : Nat) }) (1 : Nat) (1 : Nat)))))
          else
           Known
             ((w.alloc
                (Obj.cells #[Value.int IntKind.i64 k, Value.string s, Value.slice dq dn dc, Value.int IntKind.i64 N, Value.slice kq kn kc, Value.int IntKind.i64 nm, Value.int IntKind.u8 fi]
                 (124 : Nat))).alloc
              (Obj.cells #[Value.int IntKind.i64 e, Value.slice aq an ac, Value.int IntKind.i64 z, Value.slice nq nn nc, Value.slice lq ln lc, Value.bool re, Value.bool po] (126 : Nat)))
             [(w.heap.size,
               [((0 : Nat), Value.int IntKind.i64 k), ((1 : Nat), Value.string s), ((2 : Nat), Value.slice dq dn dc), ((3 : Nat), Value.int IntKind.i64 N), ((4 : Nat), Value.slice kq kn kc),
                ((5 : Nat), Value.int IntKind.i64 nm), ((6 : Nat), Value.int IntKind.u8 fi)]),
              ((w.alloc
                  (Obj.cells #[Value.int IntKind.i64 k, Value.string s, Value.slice dq dn dc, Value.int IntKind.i64 N, Value.slice kq kn kc, Value.int IntKind.i64 nm, Value.int IntKind.u8 fi]
                   (124 : Nat))).heap.size,
               [((0 : Nat), Value.int IntKind.i64 e), ((1 : Nat), Value.slice aq an ac), ((2 : Nat), Value.int IntKind.i64 z), ((3 : Nat), Value.slice nq nn nc), ((4 : Nat), Value.slice lq ln lc),
                ((5 : Nat), Value.bool re), ((6 : Nat), Value.bool po)])] →
            R (Ending.returned (Value.tuple #[]))
             ((w.alloc
                (Obj.cells #[Value.int IntKind.i64 k, Value.string s, Value.slice dq dn dc, Value.int IntKind.i64 N, Value.slice kq kn kc, Value.int IntKind.i64 nm, Value.int IntKind.u8 fi]
                 (124 : Nat))).alloc
              (Obj.cells #[Value.int IntKind.i64 e, Value.slice aq an ac, Value.int IntKind.i64 z, Value.slice nq nn nc, Value.slice lq ln lc, Value.bool re, Value.bool po] (126 : Nat)))
         else
          bif k == (14 : Int) then
           SX.Ptr p fun (a100 : Addr) =>
            ∃ (q101 : Option Addr),
             ∃ (n102 : Nat),
              ∃ (n103 : Nat),
               ((w.alloc
                      (Obj.cells #[Value.int IntKind.i64 k, Value.string s, Value.slice dq dn dc, Value.int IntKind.i64 N, Value.slice kq kn kc, Value.int IntKind.i64 nm, Value.int IntKind.u8 fi]
                       (124 : Nat))).alloc
                    (Obj.cells #[Value.int IntKind.i64 e, Value.slice aq an ac, Value.int IntKind.i64 z, Value.slice nq nn nc, Value.slice lq ln lc, Value.bool re, Value.bool po] (126 : Nat))).cell?
                  (a100.add (4 : Nat)) =
                 some (Value.slice q101 n102 n103) ∧
                (Known
                  ((w.alloc
                     (Obj.cells #[Value.int IntKind.i64 k, Value.string s, Value.slice dq dn dc, Value.int IntKind.i64 N, Value.slice kq kn kc, Value.int IntKind.i64 nm, Value.int IntKind.u8 fi]
                      (124 : Nat))).alloc
                   (Obj.cells #[Value.int IntKind.i64 e, Value.slice aq an ac, Value.int IntKind.i64 z, Value.slice nq nn nc, Value.slice lq ln lc, Value.bool re, Value.bool po] (126 : Nat)))
                  [(w.heap.size,
                    [((0 : Nat), Value.int IntKind.i64 k), ((1 : Nat), Value.string s), ((2 : Nat), Value.slice dq dn dc), ((3 : Nat), Value.int IntKind.i64 N), ((4 : Nat), Value.slice kq kn kc),
                     ((5 : Nat), Value.int IntKind.i64 nm), ((6 : Nat), Value.int IntKind.u8 fi)]),
                   ((w.alloc
                       (Obj.cells #[Value.int IntKind.i64 k, Value.string s, Value.slice dq dn dc, Value.int IntKind.i64 N, Value.slice kq kn kc, Value.int IntKind.i64 nm, Value.int IntKind.u8 fi]
                        (124 : Nat))).heap.size,
                    [((0 : Nat), Value.int IntKind.i64 e), ((1 : Nat), Value.slice aq an ac), ((2 : Nat), Value.int IntKind.i64 z), ((3 : Nat), Value.slice nq nn nc),
                     ((4 : Nat), Value.slice lq ln lc), ((5 : Nat), Value.bool re), ((6 : Nat), Value.bool po)])] →
                 Rets Tryd.prog (139 : Nat) #[Value.slice q101 n102 n103]
                  ((w.alloc
                     (Obj.cells #[Value.int IntKind.i64 k, Value.string s, Value.slice dq dn dc, Value.int IntKind.i64 N, Value.slice kq kn kc, Value.int IntKind.i64 nm, Value.int IntKind.u8 fi]
                      (124 : Nat))).alloc
                   (Obj.cells #[Value.int IntKind.i64 e, Value.slice aq an ac, Value.int IntKind.i64 z, Value.slice nq nn nc, Value.slice lq ln lc, Value.bool re, Value.bool po] (126 : Nat)))
                  fun (v104 : Value) (w105 : World) =>
                  ∃ (q106 : Option Addr),
                   ∃ (n107 : Nat),
                    ∃ (n108 : Nat),
                     v104 = Value.slice q106 n107 n108 ∧
                      Keeps
                        ((w.alloc
                           (Obj.cells
                            #[Value.int IntKind.i64 k, Value.string s, Value.slice dq dn dc, Value.int IntKind.i64 N, Value.slice kq kn kc, Value.int IntKind.i64 nm, Value.int IntKind.u8 fi]
                            (124 : Nat))).alloc
                         (Obj.cells #[Value.int IntKind.i64 e, Value.slice aq an ac, Value.int IntKind.i64 z, Value.slice nq nn nc, Value.slice lq ln lc, Value.bool re, Value.bool po]
                          (126 : Nat)))
                        w105
                        [w.heap.size,
                         (w.alloc
                            (Obj.cells
                             #[Value.int IntKind.i64 k, Value.string s, Value.slice dq dn dc, Value.int IntKind.i64 N, Value.slice kq kn kc, Value.int IntKind.i64 nm, Value.int IntKind.u8 fi]
                             (124 : Nat))).heap.size] ∧
                       SX.Ptr p fun (a109 : Addr) =>
                        (∃ (v110 : Value), (w105.alloc (Obj.cells #[Value.bool true, Value.slice q106 n107 n108] (130 : Nat))).cell? ((a109.add (0 : Nat)).add (0 : Nat)) = some v110) ∧
                         (w105.alloc (Obj.cells #[Value.bool true, Value.slice q106 n107 n108] (130 : Nat))).frozen? ((a109.add (0 : Nat)).add (0 : Nat)) = false ∧
                          Apart ((a109.add (0 : Nat)).add (0 : Nat)) w.heap.size [(0 : Nat), (1 : Nat), (2 : Nat), (3 : Nat), (4 : Nat), (5 : Nat), (6 : Nat)] ∧
                           Apart ((a109.add (0 : Nat)).add (0 : Nat))
                             (w.alloc
                                (Obj.cells
                                 #[Value.int IntKind.i64 k, Value.string s, Value.slice dq dn dc, Value.int IntKind.i64 N, Value.slice kq kn kc, Value.int IntKind.i64 nm,
                                  Value.int IntKind.u8 fi]
                                 (124 : Nat))).heap.size
                             [(0 : Nat), (1 : Nat), (2 : Nat), (3 : Nat), (4 : Nat), (5 : Nat), (6 : Nat)] ∧
                            (Known
                              ((w105.alloc (Obj.cells #[Value.bool true, Value.slice q106 n107 n108] (130 : Nat))).setCell ((a109.add (0 : Nat)).add (0 : Nat))
                               (Value.slice (some { block := w105.heap.size, off := (0 : Nat) }) (1 : Nat) (1 : Nat)))
                              [(w.heap.size,
                                [((0 : Nat), Value.int IntKind.i64 k), ((1 : Nat), Value.string s), ((2 : Nat), Value.slice dq dn dc), ((3 : Nat), Value.int IntKind.i64 N),
                                 ((4 : Nat), Value.slice kq kn kc), ((5 : Nat), Value.int IntKind.i64 nm), ((6 : Nat), Value.int IntKind.u8 fi)]),
                               ((w.alloc
                                   (Obj.cells
                                    #[Value.int IntKind.i64 k, Value.string s, Value.slice dq dn dc, Value.int IntKind.i64 N, Value.slice kq kn kc, Value.int IntKind.i64 nm,
                                     Value.int IntKind.u8 fi]
                                    (124 : Nat))).heap.size,
                                [((0 : Nat), Value.int IntKind.i64 e), ((1 : Nat), Value.slice aq an ac), ((2 : Nat), Value.int IntKind.i64 z), ((3 : Nat), Value.slice nq nn nc),
                                 ((4 : Nat), Value.slice lq ln lc), ((5 : Nat), Value.bool re), ((6 : Nat), Value.bool po)])] →
                             R (Ending.returned (Value.tuple #[]))
                              ((w105.alloc (Obj.cells #[Value.bool true, Value.slice q106 n107 n108] (130 : Nat))).setCell ((a109.add (0 : Nat)).add (0 : Nat))
                               (Value.slice (some { block := w105.heap.size, off := (0 : Nat) }) (1 : Nat) (1 : Nat)))))
          else
           Known
             ((w.alloc
                (Obj.cells #[Value.int IntKind.i64 k, Value.string s, Value.slice dq dn dc, Value.int IntKind.i64 N, Value.slice kq kn kc, Value.int IntKind.i64 nm, Value.int IntKind.u8 fi]
                 (124 : Nat))).alloc
              (Obj.cells #[Value.int IntKind.i64 e, Value.slice aq an ac, Value.int IntKind.i64 z, Value.slice nq nn nc, Value.slice lq ln lc, Value.bool re, Value.bool po] (126 : Nat)))
             [(w.heap.size,
               [((0 : Nat), Value.int IntKind.i64 k), ((1 : Nat), Value.string s), ((2 : Nat), Value.slice dq dn dc), ((3 : Nat), Value.int IntKind.i64 N), ((4 : Nat), Value.slice kq kn kc),
                ((5 : Nat), Value.int IntKind.i64 nm), ((6 : Nat), Value.int IntKind.u8 fi)]),
              ((w.alloc
                  (Obj.cells #[Value.int IntKind.i64 k, Value.string s, Value.slice dq dn dc, Value.int IntKind.i64 N, Value.slice kq kn kc, Value.int IntKind.i64 nm, Value.int IntKind.u8 fi]
                   (124 : Nat))).heap.size,
               [((0 : Nat), Value.int IntKind.i64 e), ((1 : Nat), Value.slice aq an ac), ((2 : Nat), Value.int IntKind.i64 z), ((3 : Nat), Value.slice nq nn nc), ((4 : Nat), Value.slice lq ln lc),
                ((5 : Nat), Value.bool re), ((6 : Nat), Value.bool po)])] →
            R (Ending.returned (Value.tuple #[]))
             ((w.alloc
                (Obj.cells #[Value.int IntKind.i64 k, Value.string s, Value.slice dq dn dc, Value.int IntKind.i64 N, Value.slice kq kn kc, Value.int IntKind.i64 nm, Value.int IntKind.u8 fi]
                 (124 : Nat))).alloc
              (Obj.cells #[Value.int IntKind.i64 e, Value.slice aq an ac, Value.int IntKind.i64 z, Value.slice nq nn nc, Value.slice lq ln lc, Value.bool re, Value.bool po] (126 : Nat)))
theorem vcTryd146 (p : Option Addr) (k : Int) (s : ByteArray) (dq : Option Addr) (dn dc : Nat) (N : Int) (kq : Option Addr) (kn kc : Nat) (nm fi : Int) (e : Int) (aq : Option Addr) (an ac : Nat) (z : Int) (nq : Option Addr) (nn nc : Nat) (lq : Option Addr) (ln lc : Nat) (re po : Bool) (w : World) (R : Ending → World → Prop) : SX.vcFn Tryd.prog [] Tryd.f146 [.v (.pointer p), .v (.agg #[.int .i64 k, .string s, .slice dq dn dc, .int .i64 N, .slice kq kn kc, .int .i64 nm, .int .u8 fi]), .v (.agg #[.int .i64 e, .slice aq an ac, .int .i64 z, .slice nq nn nc, .slice lq ln lc, .bool re, .bool po])] [] w R = VCTryd146 p k s dq dn dc N kq kn kc nm fi e aq an ac z nq nn nc lq ln lc re po w R := by kernel_rfl
def VCTryd94 (p : Option Addr) (k : Int) (s : ByteArray) (dq : Option Addr) (dn dc : Nat) (N : Int) (kq : Option Addr) (kn kc : Nat) (nm fi : Int) (e : Int) (aq : Option Addr) (an ac : Nat) (z : Int) (nq : Option Addr) (nn nc : Nat) (lq : Option Addr) (ln lc : Nat) (re po : Bool) (w : World) (R : Ending → World → Prop) : Prop :=
bif p.isNone then
 Known
   ((w.alloc (Obj.cells #[Value.int IntKind.i64 k, Value.string s, Value.slice dq dn dc, Value.int IntKind.i64 N, Value.slice kq kn kc, Value.int IntKind.i64 nm, Value.int IntKind.u8 fi] (124 : Nat))).alloc
    (Obj.cells #[Value.int IntKind.i64 e, Value.slice aq an ac, Value.int IntKind.i64 z, Value.slice nq nn nc, Value.slice lq ln lc, Value.bool re, Value.bool po] (126 : Nat)))
   [(w.heap.size,
     [((0 : Nat), Value.int IntKind.i64 k), ((1 : Nat), Value.string s), ((2 : Nat), Value.slice dq dn dc), ((3 : Nat), Value.int IntKind.i64 N), ((4 : Nat), Value.slice kq kn kc),
      ((5 : Nat), Value.int IntKind.i64 nm), ((6 : Nat), Value.int IntKind.u8 fi)]),
    ((w.alloc (Obj.cells #[Value.int IntKind.i64 k, Value.string s, Value.slice dq dn dc, Value.int IntKind.i64 N, Value.slice kq kn kc, Value.int IntKind.i64 nm, Value.int IntKind.u8 fi] (124 : Nat))).heap.size,
     [((0 : Nat), Value.int IntKind.i64 e), ((1 : Nat), Value.slice aq an ac), ((2 : Nat), Value.int IntKind.i64 z), ((3 : Nat), Value.slice nq nn nc), ((4 : Nat), Value.slice lq ln lc), ((5 : Nat), Value.bool re),
      ((6 : Nat), Value.bool po)])] →
  R (Ending.returned (Value.bool false))
   ((w.alloc (Obj.cells #[Value.int IntKind.i64 k, Value.string s, Value.slice dq dn dc, Value.int IntKind.i64 N, Value.slice kq kn kc, Value.int IntKind.i64 nm, Value.int IntKind.u8 fi] (124 : Nat))).alloc
    (Obj.cells #[Value.int IntKind.i64 e, Value.slice aq an ac, Value.int IntKind.i64 z, Value.slice nq nn nc, Value.slice lq ln lc, Value.bool re, Value.bool po] (126 : Nat)))
else
 Known
   ((w.alloc (Obj.cells #[Value.int IntKind.i64 k, Value.string s, Value.slice dq dn dc, Value.int IntKind.i64 N, Value.slice kq kn kc, Value.int IntKind.i64 nm, Value.int IntKind.u8 fi] (124 : Nat))).alloc
    (Obj.cells #[Value.int IntKind.i64 e, Value.slice aq an ac, Value.int IntKind.i64 z, Value.slice nq nn nc, Value.slice lq ln lc, Value.bool re, Value.bool po] (126 : Nat)))
   [(w.heap.size,
     [((0 : Nat), Value.int IntKind.i64 k), ((1 : Nat), Value.string s), ((2 : Nat), Value.slice dq dn dc), ((3 : Nat), Value.int IntKind.i64 N), ((4 : Nat), Value.slice kq kn kc),
      ((5 : Nat), Value.int IntKind.i64 nm), ((6 : Nat), Value.int IntKind.u8 fi)]),
    ((w.alloc (Obj.cells #[Value.int IntKind.i64 k, Value.string s, Value.slice dq dn dc, Value.int IntKind.i64 N, Value.slice kq kn kc, Value.int IntKind.i64 nm, Value.int IntKind.u8 fi] (124 : Nat))).heap.size,
     [((0 : Nat), Value.int IntKind.i64 e), ((1 : Nat), Value.slice aq an ac), ((2 : Nat), Value.int IntKind.i64 z), ((3 : Nat), Value.slice nq nn nc), ((4 : Nat), Value.slice lq ln lc), ((5 : Nat), Value.bool re),
      ((6 : Nat), Value.bool po)])] →
  Rets Tryd.prog (142 : Nat)
   #[Value.pointer p, Value.agg #[Value.int IntKind.i64 k, Value.string s, Value.slice dq dn dc, Value.int IntKind.i64 N, Value.slice kq kn kc, Value.int IntKind.i64 nm, Value.int IntKind.u8 fi],
    Value.agg #[Value.int IntKind.i64 e, Value.slice aq an ac, Value.int IntKind.i64 z, Value.slice nq nn nc, Value.slice lq ln lc, Value.bool re, Value.bool po]]
   ((w.alloc (Obj.cells #[Value.int IntKind.i64 k, Value.string s, Value.slice dq dn dc, Value.int IntKind.i64 N, Value.slice kq kn kc, Value.int IntKind.i64 nm, Value.int IntKind.u8 fi] (124 : Nat))).alloc
    (Obj.cells #[Value.int IntKind.i64 e, Value.slice aq an ac, Value.int IntKind.i64 z, Value.slice nq nn nc, Value.slice lq ln lc, Value.bool re, Value.bool po] (126 : Nat)))
   fun (v0 : Value) (w1 : World) =>
   ∃ (t2 : Bool),
    v0 = Value.bool t2 ∧
     Keeps
       ((w.alloc (Obj.cells #[Value.int IntKind.i64 k, Value.string s, Value.slice dq dn dc, Value.int IntKind.i64 N, Value.slice kq kn kc, Value.int IntKind.i64 nm, Value.int IntKind.u8 fi] (124 : Nat))).alloc
        (Obj.cells #[Value.int IntKind.i64 e, Value.slice aq an ac, Value.int IntKind.i64 z, Value.slice nq nn nc, Value.slice lq ln lc, Value.bool re, Value.bool po] (126 : Nat)))
       w1
       [w.heap.size,
        (w.alloc
           (Obj.cells #[Value.int IntKind.i64 k, Value.string s, Value.slice dq dn dc, Value.int IntKind.i64 N, Value.slice kq kn kc, Value.int IntKind.i64 nm, Value.int IntKind.u8 fi]
            (124 : Nat))).heap.size] ∧
      bif !t2 then
       Known w1
         [(w.heap.size,
           [((0 : Nat), Value.int IntKind.i64 k), ((1 : Nat), Value.string s), ((2 : Nat), Value.slice dq dn dc), ((3 : Nat), Value.int IntKind.i64 N), ((4 : Nat), Value.slice kq kn kc),
            ((5 : Nat), Value.int IntKind.i64 nm), ((6 : Nat), Value.int IntKind.u8 fi)]),
          ((w.alloc
              (Obj.cells #[Value.int IntKind.i64 k, Value.string s, Value.slice dq dn dc, Value.int IntKind.i64 N, Value.slice kq kn kc, Value.int IntKind.i64 nm, Value.int IntKind.u8 fi]
               (124 : Nat))).heap.size,
           [((0 : Nat), Value.int IntKind.i64 e), ((1 : Nat), Value.slice aq an ac), ((2 : Nat), Value.int IntKind.i64 z), ((3 : Nat), Value.slice nq nn nc), ((4 : Nat), Value.slice lq ln lc),
            ((5 : Nat), Value.bool re), ((6 : Nat), Value.bool po)])] →
        R (Ending.returned (Value.bool false)) w1
      else
       Known w1
         [(w.heap.size,
           [((0 : Nat), Value.int IntKind.i64 k), ((1 : Nat), Value.string s), ((2 : Nat), Value.slice dq dn dc), ((3 : Nat), Value.int IntKind.i64 N), ((4 : Nat), Value.slice kq kn kc),
            ((5 : Nat), Value.int IntKind.i64 nm), ((6 : Nat), Value.int IntKind.u8 fi)]),
          ((w.alloc
              (Obj.cells #[Value.int IntKind.i64 k, Value.string s, Value.slice dq dn dc, Value.int IntKind.i64 N, Value.slice kq kn kc, Value.int IntKind.i64 nm, Value.int IntKind.u8 fi]
               (124 : Nat))).heap.size,
           [((0 : Nat), Value.int IntKind.i64 e), ((1 : Nat), Value.slice aq an ac), ((2 : Nat), Value.int IntKind.i64 z), ((3 : Nat), Value.slice nq nn nc), ((4 : Nat), Value.slice lq ln lc),
            ((5 : Nat), Value.bool re), ((6 : Nat), Value.bool po)])] →
        Rets Tryd.prog (143 : Nat)
         #[Value.pointer p, Value.agg #[Value.int IntKind.i64 k, Value.string s, Value.slice dq dn dc, Value.int IntKind.i64 N, Value.slice kq kn kc, Value.int IntKind.i64 nm, Value.int IntKind.u8 fi],
          Value.agg #[Value.int IntKind.i64 e, Value.slice aq an ac, Value.int IntKind.i64 z, Value.slice nq nn nc, Value.slice lq ln lc, Value.bool re, Value.bool po]]
         w1 fun (v3 : Value) (w4 : World) =>
         ∃ (t5 : Bool),
          v3 = Value.bool t5 ∧
           Keeps w1 w4
             [w.heap.size,
              (w.alloc
                 (Obj.cells #[Value.int IntKind.i64 k, Value.string s, Value.slice dq dn dc, Value.int IntKind.i64 N, Value.slice kq kn kc, Value.int IntKind.i64 nm, Value.int IntKind.u8 fi]
                  (124 : Nat))).heap.size] ∧
            bif !t5 then
             Known w4
               [(w.heap.size,
                 [((0 : Nat), Value.int IntKind.i64 k), ((1 : Nat), Value.string s), ((2 : Nat), Value.slice dq dn dc), ((3 : Nat), Value.int IntKind.i64 N), ((4 : Nat), Value.slice kq kn kc),
                  ((5 : Nat), Value.int IntKind.i64 nm), ((6 : Nat), Value.int IntKind.u8 fi)]),
                ((w.alloc
                    (Obj.cells #[Value.int IntKind.i64 k, Value.string s, Value.slice dq dn dc, Value.int IntKind.i64 N, Value.slice kq kn kc, Value.int IntKind.i64 nm, Value.int IntKind.u8 fi]
                     (124 : Nat))).heap.size,
                 [((0 : Nat), Value.int IntKind.i64 e), ((1 : Nat), Value.slice aq an ac), ((2 : Nat), Value.int IntKind.i64 z), ((3 : Nat), Value.slice nq nn nc), ((4 : Nat), Value.slice lq ln lc),
                  ((5 : Nat), Value.bool re), ((6 : Nat), Value.bool po)])] →
              R (Ending.returned (Value.bool false)) w4
            else
             Known w4
               [(w.heap.size,
                 [((0 : Nat), Value.int IntKind.i64 k), ((1 : Nat), Value.string s), ((2 : Nat), Value.slice dq dn dc), ((3 : Nat), Value.int IntKind.i64 N), ((4 : Nat), Value.slice kq kn kc),
                  ((5 : Nat), Value.int IntKind.i64 nm), ((6 : Nat), Value.int IntKind.u8 fi)]),
                ((w.alloc
                    (Obj.cells #[Value.int IntKind.i64 k, Value.string s, Value.slice dq dn dc, Value.int IntKind.i64 N, Value.slice kq kn kc, Value.int IntKind.i64 nm, Value.int IntKind.u8 fi]
                     (124 : Nat))).heap.size,
                 [((0 : Nat), Value.int IntKind.i64 e), ((1 : Nat), Value.slice aq an ac), ((2 : Nat), Value.int IntKind.i64 z), ((3 : Nat), Value.slice nq nn nc), ((4 : Nat), Value.slice lq ln lc),
                  ((5 : Nat), Value.bool re), ((6 : Nat), Value.bool po)])] →
              Rets Tryd.prog (144 : Nat)
               #[Value.pointer p,
                Value.agg #[Value.int IntKind.i64 k, Value.string s, Value.slice dq dn dc, Value.int IntKind.i64 N, Value.slice kq kn kc, Value.int IntKind.i64 nm, Value.int IntKind.u8 fi],
                Value.agg #[Value.int IntKind.i64 e, Value.slice aq an ac, Value.int IntKind.i64 z, Value.slice nq nn nc, Value.slice lq ln lc, Value.bool re, Value.bool po]]
               w4 fun (v6 : Value) (w7 : World) =>
               ∃ (t8 : Bool),
                v6 = Value.bool t8 ∧
                 Keeps w4 w7
                   [w.heap.size,
                    (w.alloc
                       (Obj.cells #[Value.int IntKind.i64 k, Value.string s, Value.slice dq dn dc, Value.int IntKind.i64 N, Value.slice kq kn kc, Value.int IntKind.i64 nm, Value.int IntKind.u8 fi]
                        (124 : Nat))).heap.size] ∧
                  ∃ (I9 :
                   Int →
                    ByteArray →
                     Option Addr →
                      Nat → Nat → Int → Option Addr → Nat → Nat → Int → Int → Int → Option Addr → Nat → Nat → Int → Option Addr → Nat → Nat → Option Addr → Nat → Nat → Bool → Bool → World → Prop),
                   (∀ (i10 : Int) (s11 : ByteArray) (q12 : Option Addr) (n13 n14 : Nat) (i15 : Int) (q16 : Option Addr) (n17 n18 : Nat) (i19 i20 i21 : Int) (q22 : Option Addr) (n23 n24 : Nat)
                     (i25 : Int) (q26 : Option Addr) (n27 n28 : Nat) (q29 : Option Addr) (n30 n31 : Nat) (t32 t33 : Bool) (w34 : World),
                     I9 i10 s11 q12 n13 n14 i15 q16 n17 n18 i19 i20 i21 q22 n23 n24 i25 q26 n27 n28 q29 n30 n31 t32 t33 w34 →
                      Known w34
                        [(w.heap.size,
                          [((0 : Nat), Value.int IntKind.i64 i10), ((1 : Nat), Value.string s11), ((2 : Nat), Value.slice q12 n13 n14), ((3 : Nat), Value.int IntKind.i64 i15),
                           ((4 : Nat), Value.slice q16 n17 n18), ((5 : Nat), Value.int IntKind.i64 i19), ((6 : Nat), Value.int IntKind.u8 i20)]),
                         ((w.alloc
                             (Obj.cells
                              #[Value.int IntKind.i64 k, Value.string s, Value.slice dq dn dc, Value.int IntKind.i64 N, Value.slice kq kn kc, Value.int IntKind.i64 nm,
                               Value.int IntKind.u8 fi]
                              (124 : Nat))).heap.size,
                          [((0 : Nat), Value.int IntKind.i64 i21), ((1 : Nat), Value.slice q22 n23 n24), ((2 : Nat), Value.int IntKind.i64 i25), ((3 : Nat), Value.slice q26 n27 n28),
                           ((4 : Nat), Value.slice q29 n30 n31), ((5 : Nat), Value.bool t32), ((6 : Nat), Value.bool t33)])] →
                       SX.Ptr p fun (a35 : Addr) =>
                        (∃ (v36 : Value), w34.cell? ((a35.add (2 : Nat)).add (0 : Nat)) = some v36) ∧
                         w34.frozen? ((a35.add (2 : Nat)).add (0 : Nat)) = false ∧
                          Apart ((a35.add (2 : Nat)).add (0 : Nat)) w.heap.size [(0 : Nat), (1 : Nat), (2 : Nat), (3 : Nat), (4 : Nat), (5 : Nat), (6 : Nat)] ∧
                           Apart ((a35.add (2 : Nat)).add (0 : Nat))
                             (w.alloc
                                (Obj.cells
                                 #[Value.int IntKind.i64 k, Value.string s, Value.slice dq dn dc, Value.int IntKind.i64 N, Value.slice kq kn kc, Value.int IntKind.i64 nm,
                                  Value.int IntKind.u8 fi]
                                 (124 : Nat))).heap.size
                             [(0 : Nat), (1 : Nat), (2 : Nat), (3 : Nat), (4 : Nat), (5 : Nat), (6 : Nat)] ∧
                            ∃ (I37 :
                             Int →
                              ByteArray →
                               Option Addr →
                                Nat →
                                 Nat →
                                  Int →
                                   Option Addr →
                                    Nat → Nat → Int → Int → Int → Option Addr → Nat → Nat → Int → Option Addr → Nat → Nat → Option Addr → Nat → Nat → Bool → Bool → World → Prop),
                             (∀ (i38 : Int) (s39 : ByteArray) (q40 : Option Addr) (n41 n42 : Nat) (i43 : Int) (q44 : Option Addr) (n45 n46 : Nat) (i47 i48 i49 : Int) (q50 : Option Addr)
                               (n51 n52 : Nat) (i53 : Int) (q54 : Option Addr) (n55 n56 : Nat) (q57 : Option Addr) (n58 n59 : Nat) (t60 t61 : Bool) (w62 : World),
                               I37 i38 s39 q40 n41 n42 i43 q44 n45 n46 i47 i48 i49 q50 n51 n52 i53 q54 n55 n56 q57 n58 n59 t60 t61 w62 →
                                Known w62
                                  [(w.heap.size,
                                    [((0 : Nat), Value.int IntKind.i64 i38), ((1 : Nat), Value.string s39), ((2 : Nat), Value.slice q40 n41 n42),
                                     ((3 : Nat), Value.int IntKind.i64 i43), ((4 : Nat), Value.slice q44 n45 n46), ((5 : Nat), Value.int IntKind.i64 i47),
                                     ((6 : Nat), Value.int IntKind.u8 i48)]),
                                   ((w.alloc
                                       (Obj.cells
                                        #[Value.int IntKind.i64 k, Value.string s, Value.slice dq dn dc, Value.int IntKind.i64 N, Value.slice kq kn kc, Value.int IntKind.i64 nm,
                                         Value.int IntKind.u8 fi]
                                        (124 : Nat))).heap.size,
                                    [((0 : Nat), Value.int IntKind.i64 i49), ((1 : Nat), Value.slice q50 n51 n52), ((2 : Nat), Value.int IntKind.i64 i53),
                                     ((3 : Nat), Value.slice q54 n55 n56), ((4 : Nat), Value.slice q57 n58 n59), ((5 : Nat), Value.bool t60), ((6 : Nat), Value.bool t61)])] →
                                 Known w62
                                   [(w.heap.size,
                                     [((0 : Nat), Value.int IntKind.i64 i38), ((1 : Nat), Value.string s39), ((2 : Nat), Value.slice q40 n41 n42),
                                      ((3 : Nat), Value.int IntKind.i64 i43), ((4 : Nat), Value.slice q44 n45 n46), ((5 : Nat), Value.int IntKind.i64 i47),
                                      ((6 : Nat), Value.int IntKind.u8 i48)]),
                                    ((w.alloc
                                        (Obj.cells
                                         #[Value.int IntKind.i64 k, Value.string s, Value.slice dq dn dc, Value.int IntKind.i64 N, Value.slice kq kn kc, Value.int IntKind.i64 nm,
                                          Value.int IntKind.u8 fi]
                                         (124 : Nat))).heap.size,
                                     [((0 : Nat), Value.int IntKind.i64 i49), ((1 : Nat), Value.slice q50 n51 n52), ((2 : Nat), Value.int IntKind.i64 i53),
                                      ((3 : Nat), Value.slice q54 n55 n56), ((4 : Nat), Value.slice q57 n58 n59), ((5 : Nat), Value.bool t60), ((6 : Nat), Value.bool t61)])] →
                                  R (Ending.returned (Value.bool true)) w62) ∧
                              bif t8 then
                               SX.Ptr p fun (a63 : Addr) =>
                                (∃ (v64 : Value), (w34.setCell ((a35.add (2 : Nat)).add (0 : Nat)) (Value.bool t33)).cell? ((a63.add (1 : Nat)).add (0 : Nat)) = some v64) ∧
                                 (w34.setCell ((a35.add (2 : Nat)).add (0 : Nat)) (Value.bool t33)).frozen? ((a63.add (1 : Nat)).add (0 : Nat)) = false ∧
                                  Apart ((a63.add (1 : Nat)).add (0 : Nat)) w.heap.size [(0 : Nat), (1 : Nat), (2 : Nat), (3 : Nat), (4 : Nat), (5 : Nat), (6 : Nat)] ∧
                                   Apart ((a63.add (1 : Nat)).add (0 : Nat))
                                     (w.alloc
                                        (Obj.cells
                                         #[Value.int IntKind.i64 k, Value.string s, Value.slice dq dn dc, Value.int IntKind.i64 N, Value.slice kq kn kc, Value.int IntKind.i64 nm,
                                          Value.int IntKind.u8 fi]
                                         (124 : Nat))).heap.size
                                     [(0 : Nat), (1 : Nat), (2 : Nat), (3 : Nat), (4 : Nat), (5 : Nat), (6 : Nat)] ∧
                                    SX.Ptr p fun (a65 : Addr) =>
                                     (∃ (v66 : Value),
                                       ((w34.setCell ((a35.add (2 : Nat)).add (0 : Nat)) (Value.bool t33)).setCell ((a63.add (1 : Nat)).add (0 : Nat)) (Value.bool false)).cell?
                                         ((a65.add (3 : Nat)).add (0 : Nat)) =
                                        some v66) ∧
                                      ((w34.setCell ((a35.add (2 : Nat)).add (0 : Nat)) (Value.bool t33)).setCell ((a63.add (1 : Nat)).add (0 : Nat)) (Value.bool false)).frozen?
                                         ((a65.add (3 : Nat)).add (0 : Nat)) =
                                        false ∧
                                       Apart ((a65.add (3 : Nat)).add (0 : Nat)) w.heap.size [(0 : Nat), (1 : Nat), (2 : Nat), (3 : Nat), (4 : Nat), (5 : Nat), (6 : Nat)] ∧
                                        Apart ((a65.add (3 : Nat)).add (0 : Nat))
                                          (w.alloc
                                             (Obj.cells
                                              #[Value.int IntKind.i64 k, Value.string s, Value.slice dq dn dc, Value.int IntKind.i64 N, Value.slice kq kn kc,
                                               Value.int IntKind.i64 nm, Value.int IntKind.u8 fi]
                                              (124 : Nat))).heap.size
                                          [(0 : Nat), (1 : Nat), (2 : Nat), (3 : Nat), (4 : Nat), (5 : Nat), (6 : Nat)] ∧
                                         SX.Ptr p fun (a67 : Addr) =>
                                          (∃ (v68 : Value),
                                            (((w34.setCell ((a35.add (2 : Nat)).add (0 : Nat)) (Value.bool t33)).setCell ((a63.add (1 : Nat)).add (0 : Nat))
                                                  (Value.bool false)).setCell
                                                ((a65.add (3 : Nat)).add (0 : Nat)) (Value.bool false)).cell?
                                              ((a67.add (4 : Nat)).add (0 : Nat)) =
                                             some v68) ∧
                                           (((w34.setCell ((a35.add (2 : Nat)).add (0 : Nat)) (Value.bool t33)).setCell ((a63.add (1 : Nat)).add (0 : Nat))
                                                  (Value.bool false)).setCell
                                                ((a65.add (3 : Nat)).add (0 : Nat)) (Value.bool false)).frozen?
                                              ((a67.add (4 : Nat)).add (0 : Nat)) =
                                             false ∧
                                            Apart ((a67.add (4 : Nat)).add (0 : Nat)) w.heap.size
                                              [(0 : Nat), (1 : Nat), (2 : Nat), (3 : Nat), (4 : Nat), (5 : Nat), (6 : Nat)] ∧
                                             Apart ((a67.add (4 : Nat)).add (0 : Nat))
                                               (w.alloc
                                                  (Obj.cells
                                                   #[Value.int IntKind.i64 k, Value.string s, Value.slice dq dn dc, Value.int IntKind.i64 N, Value.slice kq kn kc,
                                                    Value.int IntKind.i64 nm, Value.int IntKind.u8 fi]
                                                   (124 : Nat))).heap.size
                                               [(0 : Nat), (1 : Nat), (2 : Nat), (3 : Nat), (4 : Nat), (5 : Nat), (6 : Nat)] ∧
                                              SX.Ptr p fun (a69 : Addr) =>
                                               (∃ (v70 : Value),
                                                 ((((w34.setCell ((a35.add (2 : Nat)).add (0 : Nat)) (Value.bool t33)).setCell ((a63.add (1 : Nat)).add (0 : Nat))
                                                        (Value.bool false)).setCell
                                                      ((a65.add (3 : Nat)).add (0 : Nat)) (Value.bool false)).setCell
                                                     ((a67.add (4 : Nat)).add (0 : Nat)) (Value.slice none (0 : Nat) (0 : Nat))).cell?
                                                   ((a69.add (6 : Nat)).add (0 : Nat)) =
                                                  some v70) ∧
                                                ((((w34.setCell ((a35.add (2 : Nat)).add (0 : Nat)) (Value.bool t33)).setCell ((a63.add (1 : Nat)).add (0 : Nat))
                                                        (Value.bool false)).setCell
                                                      ((a65.add (3 : Nat)).add (0 : Nat)) (Value.bool false)).setCell
                                                     ((a67.add (4 : Nat)).add (0 : Nat)) (Value.slice none (0 : Nat) (0 : Nat))).frozen?
                                                   ((a69.add (6 : Nat)).add (0 : Nat)) =
                                                  false ∧
                                                 Apart ((a69.add (6 : Nat)).add (0 : Nat)) w.heap.size
                                                   [(0 : Nat), (1 : Nat), (2 : Nat), (3 : Nat), (4 : Nat), (5 : Nat), (6 : Nat)] ∧
                                                  Apart ((a69.add (6 : Nat)).add (0 : Nat))
                                                    (w.alloc
                                                      (Obj.cells
                                                       #[Value.int IntKind.i64 k, Value.string s, Value.slice dq dn dc, Value.int IntKind.i64 N,
                                                        Value.slice kq kn kc, Value.int IntKind.i64 nm, Value.int IntKind.u8 fi]
                                                       (124 : Nat))).heap.size
                                                    [(0 : Nat), (1 : Nat), (2 : Nat), (3 : Nat), (4 : Nat), (5 : Nat), (6 : Nat)] ∧
                                                   I37 i10 s11 q12 n13 n14 i15 q16 n17 n18 i19 i20 i21 q22 n23 n24 i25 q26 n27 n28 q29 n30 n31 t32 t33
                                                    (((((w34.setCell ((a35.add (2 : Nat)).add (0 : Nat)) (Value.bool t33)).setCell ((a63.add (1 : Nat)).add (0 : Nat))
                                                         (Value.bool false)).setCell
                                                        ((a65.add (3 : Nat)).add (0 : Nat)) (Value.bool false)).setCell
                                                      ((a67.add (4 : Nat)).add (0 : Nat)) (Value.slice none (0 : Nat) (0 : Nat))).setCell
                                                     ((a69.add (6 : Nat)).add (0 : Nat)) (Value.slice none (0 : Nat) (0 : Nat)))
                              else
                               I37 i10 s11 q12 n13 n14 i15 q16 n17 n18 i19 i20 i21 q22 n23 n24 i25 q26 n27 n28 q29 n30 n31 t32 t33
                                (w34.setCell ((a35.add (2 : Nat)).add (0 : Nat)) (Value.bool t33))) ∧
                    bif re then
                     Known w7
                       [(w.heap.size,
                         [((0 : Nat), Value.int IntKind.i64 k), ((1 : Nat), Value.string s), ((2 : Nat), Value.slice dq dn dc), ((3 : Nat), Value.int IntKind.i64 N),
                          ((4 : Nat), Value.slice kq kn kc), ((5 : Nat), Value.int IntKind.i64 nm), ((6 : Nat), Value.int IntKind.u8 fi)]),
                        ((w.alloc
                            (Obj.cells
                             #[Value.int IntKind.i64 k, Value.string s, Value.slice dq dn dc, Value.int IntKind.i64 N, Value.slice kq kn kc, Value.int IntKind.i64 nm, Value.int IntKind.u8 fi]
                             (124 : Nat))).heap.size,
                         [((0 : Nat), Value.int IntKind.i64 e), ((1 : Nat), Value.slice aq an ac), ((2 : Nat), Value.int IntKind.i64 z), ((3 : Nat), Value.slice nq nn nc),
                          ((4 : Nat), Value.slice lq ln lc), ((5 : Nat), Value.bool re), ((6 : Nat), Value.bool po)])] →
                      Rets Tryd.prog (145 : Nat)
                       #[Value.pointer p,
                        Value.agg
                         #[Value.int IntKind.i64 k, Value.string s, Value.slice dq dn dc, Value.int IntKind.i64 N, Value.slice kq kn kc, Value.int IntKind.i64 nm, Value.int IntKind.u8 fi]]
                       w7 fun (v71 : Value) (w72 : World) =>
                       v71 = Value.tuple #[] ∧
                        Keeps w7 w72
                          [w.heap.size,
                           (w.alloc
                              (Obj.cells
                               #[Value.int IntKind.i64 k, Value.string s, Value.slice dq dn dc, Value.int IntKind.i64 N, Value.slice kq kn kc, Value.int IntKind.i64 nm,
                                Value.int IntKind.u8 fi]
                               (124 : Nat))).heap.size] ∧
                         I9 k s dq dn dc N kq kn kc nm fi e aq an ac z nq nn nc lq ln lc re po w72
                    else
                     bif e == (0 : Int) then
                      Known w7
                        [(w.heap.size,
                          [((0 : Nat), Value.int IntKind.i64 k), ((1 : Nat), Value.string s), ((2 : Nat), Value.slice dq dn dc), ((3 : Nat), Value.int IntKind.i64 N),
                           ((4 : Nat), Value.slice kq kn kc), ((5 : Nat), Value.int IntKind.i64 nm), ((6 : Nat), Value.int IntKind.u8 fi)]),
                         ((w.alloc
                             (Obj.cells
                              #[Value.int IntKind.i64 k, Value.string s, Value.slice dq dn dc, Value.int IntKind.i64 N, Value.slice kq kn kc, Value.int IntKind.i64 nm,
                               Value.int IntKind.u8 fi]
                              (124 : Nat))).heap.size,
                          [((0 : Nat), Value.int IntKind.i64 e), ((1 : Nat), Value.slice aq an ac), ((2 : Nat), Value.int IntKind.i64 z), ((3 : Nat), Value.slice nq nn nc),
                           ((4 : Nat), Value.slice lq ln lc), ((5 : Nat), Value.bool re), ((6 : Nat), Value.bool po)])] →
                       Rets Tryd.prog (146 : Nat)
                        #[Value.pointer p,
                         Value.agg
                          #[Value.int IntKind.i64 k, Value.string s, Value.slice dq dn dc, Value.int IntKind.i64 N, Value.slice kq kn kc, Value.int IntKind.i64 nm, Value.int IntKind.u8 fi],
                         Value.agg #[Value.int IntKind.i64 e, Value.slice aq an ac, Value.int IntKind.i64 z, Value.slice nq nn nc, Value.slice lq ln lc, Value.bool re, Value.bool po]]
                        w7 fun (v73 : Value) (w74 : World) =>
                        v73 = Value.tuple #[] ∧
                         Keeps w7 w74
                           [w.heap.size,
                            (w.alloc
                               (Obj.cells
                                #[Value.int IntKind.i64 k, Value.string s, Value.slice dq dn dc, Value.int IntKind.i64 N, Value.slice kq kn kc, Value.int IntKind.i64 nm,
                                 Value.int IntKind.u8 fi]
                                (124 : Nat))).heap.size] ∧
                          I9 k s dq dn dc N kq kn kc nm fi e aq an ac z nq nn nc lq ln lc re po w74
                     else
                      bif e == (7 : Int) then
                       bif k == (2 : Int) then
                        SX.Ptr p fun (a75 : Addr) =>
                         (∃ (v76 : Value), (w7.alloc (Obj.cells #[Value.bool false, Value.slice none (0 : Nat) (0 : Nat)] (130 : Nat))).cell? ((a75.add (0 : Nat)).add (0 : Nat)) = some v76) ∧
                          (w7.alloc (Obj.cells #[Value.bool false, Value.slice none (0 : Nat) (0 : Nat)] (130 : Nat))).frozen? ((a75.add (0 : Nat)).add (0 : Nat)) = false ∧
                           Apart ((a75.add (0 : Nat)).add (0 : Nat)) w.heap.size [(0 : Nat), (1 : Nat), (2 : Nat), (3 : Nat), (4 : Nat), (5 : Nat), (6 : Nat)] ∧
                            Apart ((a75.add (0 : Nat)).add (0 : Nat))
                              (w.alloc
                                 (Obj.cells
                                  #[Value.int IntKind.i64 k, Value.string s, Value.slice dq dn dc, Value.int IntKind.i64 N, Value.slice kq kn kc, Value.int IntKind.i64 nm,
                                   Value.int IntKind.u8 fi]
                                  (124 : Nat))).heap.size
                              [(0 : Nat), (1 : Nat), (2 : Nat), (3 : Nat), (4 : Nat), (5 : Nat), (6 : Nat)] ∧
                             I9 k s dq dn dc N kq kn kc nm fi e aq an ac z nq nn nc lq ln lc re po
                              ((w7.alloc (Obj.cells #[Value.bool false, Value.slice none (0 : Nat) (0 : Nat)] (130 : Nat))).setCell ((a75.add (0 : Nat)).add (0 : Nat))
                               (Value.slice (some { block := w7.heap.size, off := (0 : Nat) }) (1 : Nat) (1 : Nat)))
                       else I9 k s dq dn dc N kq kn kc nm fi e aq an ac z nq nn nc lq ln lc re po w7
                      else I9 k s dq dn dc N kq kn kc nm fi e aq an ac z nq nn nc lq ln lc re po w7
theorem vcTryd94 (p : Option Addr) (k : Int) (s : ByteArray) (dq : Option Addr) (dn dc : Nat) (N : Int) (kq : Option Addr) (kn kc : Nat) (nm fi : Int) (e : Int) (aq : Option Addr) (an ac : Nat) (z : Int) (nq : Option Addr) (nn nc : Nat) (lq : Option Addr) (ln lc : Nat) (re po : Bool) (w : World) (R : Ending → World → Prop) : SX.vcFn Tryd.prog [(1000013, ⟨[], [], [(0, 0, .int .i64), (0, 1, .str), (0, 2, .slice), (0, 3, .int .i64), (0, 4, .slice), (0, 5, .int .i64), (0, 6, .int .u8), (1, 0, .int .i64), (1, 1, .slice), (1, 2, .int .i64), (1, 3, .slice), (1, 4, .slice), (1, 5, .bool), (1, 6, .bool)]⟩), (1000010, ⟨[], [5, 7, 0], [(0, 0, .int .i64), (0, 1, .str), (0, 2, .slice), (0, 3, .int .i64), (0, 4, .slice), (0, 5, .int .i64), (0, 6, .int .u8), (1, 0, .int .i64), (1, 1, .slice), (1, 2, .int .i64), (1, 3, .slice), (1, 4, .slice), (1, 5, .bool), (1, 6, .bool)]⟩)] Tryd.f94 [.v (.pointer p), .v (.agg #[.int .i64 k, .string s, .slice dq dn dc, .int .i64 N, .slice kq kn kc, .int .i64 nm, .int .u8 fi]), .v (.agg #[.int .i64 e, .slice aq an ac, .int .i64 z, .slice nq nn nc, .slice lq ln lc, .bool re, .bool po])] [] w R = VCTryd94 p k s dq dn dc N kq kn kc nm fi e aq an ac z nq nn nc lq ln lc re po w R := by kernel_rfl
end Go.Proofs.YtbpknjldphckgaaDoor
