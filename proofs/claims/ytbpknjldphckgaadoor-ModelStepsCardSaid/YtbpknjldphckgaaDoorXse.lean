/- What the row needs, part 5. -/
import Derived.Test.YtbpknjldphckgaaDoorProg
import Derived.Test.YtbpknjldphckgaaDoorXsd
namespace Go.Proofs.YtbpknjldphckgaaDoor
open Go Go.SX Go.Proofs
set_option maxRecDepth 100000
set_option linter.unusedVariables false
def VCTryd145 (p : Option Addr) (k : Int) (s : ByteArray) (dq : Option Addr) (dn dc : Nat) (N : Int) (kq : Option Addr) (kn kc : Nat) (nm fi : Int) (w : World) (R : Ending → World → Prop) : Prop :=
bif k == (1 : Int) then
 SX.Ptr p fun (a0 : Addr) =>
  ∃ (q1 : Option Addr),
   ∃ (n2 : Nat),
    ∃ (n3 : Nat),
     (w.alloc (Obj.cells #[Value.int IntKind.i64 k, Value.string s, Value.slice dq dn dc, Value.int IntKind.i64 N, Value.slice kq kn kc, Value.int IntKind.i64 nm, Value.int IntKind.u8 fi] (124 : Nat))).cell?
        (a0.add (0 : Nat)) =
       some (Value.slice q1 n2 n3) ∧
      Runs Tryd.prog
       (Builtin.append_ #[(183 : Nat), (183 : Nat)] (183 : Nat)
        #[Value.slice q1 n2 n3,
         Value.slice
          (some
           {
            block :=
             (w.alloc
                (Obj.cells #[Value.int IntKind.i64 k, Value.string s, Value.slice dq dn dc, Value.int IntKind.i64 N, Value.slice kq kn kc, Value.int IntKind.i64 nm, Value.int IntKind.u8 fi]
                 (124 : Nat))).heap.size,
            off := (0 : Nat) })
          (1 : Nat) (1 : Nat)])
       ((w.alloc (Obj.cells #[Value.int IntKind.i64 k, Value.string s, Value.slice dq dn dc, Value.int IntKind.i64 N, Value.slice kq kn kc, Value.int IntKind.i64 nm, Value.int IntKind.u8 fi] (124 : Nat))).alloc
        (Obj.cells #[Value.bool true, Value.slice none (0 : Nat) (0 : Nat)] (130 : Nat)))
       fun (v4 : Value) (w5 : World) =>
       ∃ (q6 : Option Addr),
        ∃ (n7 : Nat),
         ∃ (n8 : Nat),
          v4 = Value.slice q6 n7 n8 ∧
           Keeps
             ((w.alloc
                (Obj.cells #[Value.int IntKind.i64 k, Value.string s, Value.slice dq dn dc, Value.int IntKind.i64 N, Value.slice kq kn kc, Value.int IntKind.i64 nm, Value.int IntKind.u8 fi]
                 (124 : Nat))).alloc
              (Obj.cells #[Value.bool true, Value.slice none (0 : Nat) (0 : Nat)] (130 : Nat)))
             w5 [w.heap.size] ∧
            SX.Ptr p fun (a9 : Addr) =>
             (∃ (v10 : Value), w5.cell? ((a9.add (0 : Nat)).add (0 : Nat)) = some v10) ∧
              w5.frozen? ((a9.add (0 : Nat)).add (0 : Nat)) = false ∧
               Apart ((a9.add (0 : Nat)).add (0 : Nat)) w.heap.size [(0 : Nat), (1 : Nat), (2 : Nat), (3 : Nat), (4 : Nat), (5 : Nat), (6 : Nat)] ∧
                (Known (w5.setCell ((a9.add (0 : Nat)).add (0 : Nat)) (Value.slice q6 n7 n8))
                  [(w.heap.size,
                    [((0 : Nat), Value.int IntKind.i64 k), ((1 : Nat), Value.string s), ((2 : Nat), Value.slice dq dn dc), ((3 : Nat), Value.int IntKind.i64 N), ((4 : Nat), Value.slice kq kn kc),
                     ((5 : Nat), Value.int IntKind.i64 nm), ((6 : Nat), Value.int IntKind.u8 fi)])] →
                 R (Ending.returned (Value.tuple #[])) (w5.setCell ((a9.add (0 : Nat)).add (0 : Nat)) (Value.slice q6 n7 n8)))
else
 bif k == (12 : Int) then
  bif k == (12 : Int) then
   SX.Ptr p fun (a11 : Addr) =>
    ∃ (q12 : Option Addr),
     ∃ (n13 : Nat),
      ∃ (n14 : Nat),
       (w.alloc
             (Obj.cells #[Value.int IntKind.i64 k, Value.string s, Value.slice dq dn dc, Value.int IntKind.i64 N, Value.slice kq kn kc, Value.int IntKind.i64 nm, Value.int IntKind.u8 fi]
              (124 : Nat))).drew.cell?
          (a11.add (0 : Nat)) =
         some (Value.slice q12 n13 n14) ∧
        SX.Ptr p fun (a15 : Addr) =>
         ∃ (q16 : Option Addr),
          ∃ (n17 : Nat),
           ∃ (n18 : Nat),
            (w.alloc
                  (Obj.cells #[Value.int IntKind.i64 k, Value.string s, Value.slice dq dn dc, Value.int IntKind.i64 N, Value.slice kq kn kc, Value.int IntKind.i64 nm, Value.int IntKind.u8 fi]
                   (124 : Nat))).drew.cell?
               (a15.add (4 : Nat)) =
              some (Value.slice q16 n17 n18) ∧
             (Known
               (w.alloc
                 (Obj.cells #[Value.int IntKind.i64 k, Value.string s, Value.slice dq dn dc, Value.int IntKind.i64 N, Value.slice kq kn kc, Value.int IntKind.i64 nm, Value.int IntKind.u8 fi]
                  (124 : Nat))).drew
               [(w.heap.size,
                 [((0 : Nat), Value.int IntKind.i64 k), ((1 : Nat), Value.string s), ((2 : Nat), Value.slice dq dn dc), ((3 : Nat), Value.int IntKind.i64 N), ((4 : Nat), Value.slice kq kn kc),
                  ((5 : Nat), Value.int IntKind.i64 nm), ((6 : Nat), Value.int IntKind.u8 fi)])] →
              Rets Tryd.prog (139 : Nat) #[Value.slice q16 n17 n18]
               (w.alloc
                 (Obj.cells #[Value.int IntKind.i64 k, Value.string s, Value.slice dq dn dc, Value.int IntKind.i64 N, Value.slice kq kn kc, Value.int IntKind.i64 nm, Value.int IntKind.u8 fi]
                  (124 : Nat))).drew
               fun (v19 : Value) (w20 : World) =>
               ∃ (q21 : Option Addr),
                ∃ (n22 : Nat),
                 ∃ (n23 : Nat),
                  v19 = Value.slice q21 n22 n23 ∧
                   Keeps
                     (w.alloc
                       (Obj.cells #[Value.int IntKind.i64 k, Value.string s, Value.slice dq dn dc, Value.int IntKind.i64 N, Value.slice kq kn kc, Value.int IntKind.i64 nm, Value.int IntKind.u8 fi]
                        (124 : Nat))).drew
                     w20 [w.heap.size] ∧
                    w20.cell? (a11.add (0 : Nat)) = some (Value.slice q12 n13 n14) ∧
                     (w20.alloc (Obj.cells #[Value.bool true, Value.slice q21 n22 n23] (130 : Nat))).cell? (a11.add (0 : Nat)) = some (Value.slice q12 n13 n14) ∧
                      Runs Tryd.prog
                       (Builtin.append_ #[(183 : Nat), (183 : Nat)] (183 : Nat) #[Value.slice q12 n13 n14, Value.slice (some { block := w20.heap.size, off := (0 : Nat) }) (1 : Nat) (1 : Nat)])
                       (w20.alloc (Obj.cells #[Value.bool true, Value.slice q21 n22 n23] (130 : Nat))) fun (v24 : Value) (w25 : World) =>
                       ∃ (q26 : Option Addr),
                        ∃ (n27 : Nat),
                         ∃ (n28 : Nat),
                          v24 = Value.slice q26 n27 n28 ∧
                           Keeps (w20.alloc (Obj.cells #[Value.bool true, Value.slice q21 n22 n23] (130 : Nat))) w25 [w.heap.size] ∧
                            SX.Ptr p fun (a29 : Addr) =>
                             (∃ (v30 : Value), w25.cell? ((a29.add (0 : Nat)).add (0 : Nat)) = some v30) ∧
                              w25.frozen? ((a29.add (0 : Nat)).add (0 : Nat)) = false ∧
                               Apart ((a29.add (0 : Nat)).add (0 : Nat)) w.heap.size [(0 : Nat), (1 : Nat), (2 : Nat), (3 : Nat), (4 : Nat), (5 : Nat), (6 : Nat)] ∧
                                (Known (w25.setCell ((a29.add (0 : Nat)).add (0 : Nat)) (Value.slice q26 n27 n28))
                                  [(w.heap.size,
                                    [((0 : Nat), Value.int IntKind.i64 k), ((1 : Nat), Value.string s), ((2 : Nat), Value.slice dq dn dc), ((3 : Nat), Value.int IntKind.i64 N),
                                     ((4 : Nat), Value.slice kq kn kc), ((5 : Nat), Value.int IntKind.i64 nm), ((6 : Nat), Value.int IntKind.u8 fi)])] →
                                 R (Ending.returned (Value.tuple #[])) (w25.setCell ((a29.add (0 : Nat)).add (0 : Nat)) (Value.slice q26 n27 n28))))
  else
   Known (w.alloc (Obj.cells #[Value.int IntKind.i64 k, Value.string s, Value.slice dq dn dc, Value.int IntKind.i64 N, Value.slice kq kn kc, Value.int IntKind.i64 nm, Value.int IntKind.u8 fi] (124 : Nat)))
     [(w.heap.size,
       [((0 : Nat), Value.int IntKind.i64 k), ((1 : Nat), Value.string s), ((2 : Nat), Value.slice dq dn dc), ((3 : Nat), Value.int IntKind.i64 N), ((4 : Nat), Value.slice kq kn kc),
        ((5 : Nat), Value.int IntKind.i64 nm), ((6 : Nat), Value.int IntKind.u8 fi)])] →
    R (Ending.returned (Value.tuple #[]))
     (w.alloc (Obj.cells #[Value.int IntKind.i64 k, Value.string s, Value.slice dq dn dc, Value.int IntKind.i64 N, Value.slice kq kn kc, Value.int IntKind.i64 nm, Value.int IntKind.u8 fi] (124 : Nat)))
 else
  bif k == (13 : Int) then
   bif k == (13 : Int) then
    SX.Ptr p fun (a31 : Addr) =>
     ∃ (q32 : Option Addr),
      ∃ (n33 : Nat),
       ∃ (n34 : Nat),
        (w.alloc
              (Obj.cells #[Value.int IntKind.i64 k, Value.string s, Value.slice dq dn dc, Value.int IntKind.i64 N, Value.slice kq kn kc, Value.int IntKind.i64 nm, Value.int IntKind.u8 fi]
               (124 : Nat))).drew.cell?
           (a31.add (0 : Nat)) =
          some (Value.slice q32 n33 n34) ∧
         SX.Ptr p fun (a35 : Addr) =>
          ∃ (q36 : Option Addr),
           ∃ (n37 : Nat),
            ∃ (n38 : Nat),
             (w.alloc
                   (Obj.cells #[Value.int IntKind.i64 k, Value.string s, Value.slice dq dn dc, Value.int IntKind.i64 N, Value.slice kq kn kc, Value.int IntKind.i64 nm, Value.int IntKind.u8 fi]
                    (124 : Nat))).drew.cell?
                (a35.add (4 : Nat)) =
               some (Value.slice q36 n37 n38) ∧
              (Known
                (w.alloc
                  (Obj.cells #[Value.int IntKind.i64 k, Value.string s, Value.slice dq dn dc, Value.int IntKind.i64 N, Value.slice kq kn kc, Value.int IntKind.i64 nm, Value.int IntKind.u8 fi]
                   (124 : Nat))).drew
                [(w.heap.size,
                  [((0 : Nat), Value.int IntKind.i64 k), ((1 : Nat), Value.string s), ((2 : Nat), Value.slice dq dn dc), ((3 : Nat), Value.int IntKind.i64 N), ((4 : Nat), Value.slice kq kn kc),
                   ((5 : Nat), Value.int IntKind.i64 nm), ((6 : Nat), Value.int IntKind.u8 fi)])] →
               Rets Tryd.prog (139 : Nat) #[Value.slice q36 n37 n38]
                (w.alloc
                  (Obj.cells #[Value.int IntKind.i64 k, Value.string s, Value.slice dq dn dc, Value.int IntKind.i64 N, Value.slice kq kn kc, Value.int IntKind.i64 nm, Value.int IntKind.u8 fi]
                   (124 : Nat))).drew
                fun (v39 : Value) (w40 : World) =>
                ∃ (q41 : Option Addr),
                 ∃ (n42 : Nat),
                  ∃ (n43 : Nat),
                   v39 = Value.slice q41 n42 n43 ∧
                    Keeps
                      (w.alloc
                        (Obj.cells
                         #[Value.int IntKind.i64 k, Value.string s, Value.slice dq dn dc, Value.int IntKind.i64 N, Value.slice kq kn kc, Value.int IntKind.i64 nm, Value.int IntKind.u8 fi]
                         (124 : Nat))).drew
                      w40 [w.heap.size] ∧
                     w40.cell? (a31.add (0 : Nat)) = some (Value.slice q32 n33 n34) ∧
                      (w40.alloc (Obj.cells #[Value.bool true, Value.slice q41 n42 n43] (130 : Nat))).cell? (a31.add (0 : Nat)) = some (Value.slice q32 n33 n34) ∧
                       Runs Tryd.prog
                        (Builtin.append_ #[(183 : Nat), (183 : Nat)] (183 : Nat) #[Value.slice q32 n33 n34, Value.slice (some { block := w40.heap.size, off := (0 : Nat) }) (1 : Nat) (1 : Nat)])
                        (w40.alloc (Obj.cells #[Value.bool true, Value.slice q41 n42 n43] (130 : Nat))) fun (v44 : Value) (w45 : World) =>
                        ∃ (q46 : Option Addr),
                         ∃ (n47 : Nat),
                          ∃ (n48 : Nat),
                           v44 = Value.slice q46 n47 n48 ∧
                            Keeps (w40.alloc (Obj.cells #[Value.bool true, Value.slice q41 n42 n43] (130 : Nat))) w45 [w.heap.size] ∧
                             SX.Ptr p fun (a49 : Addr) =>
                              (∃ (v50 : Value), w45.cell? ((a49.add (0 : Nat)).add (0 : Nat)) = some v50) ∧
                               w45.frozen? ((a49.add (0 : Nat)).add (0 : Nat)) = false ∧
                                Apart ((a49.add (0 : Nat)).add (0 : Nat)) w.heap.size [(0 : Nat), (1 : Nat), (2 : Nat), (3 : Nat), (4 : Nat), (5 : Nat), (6 : Nat)] ∧
                                 (Known (w45.setCell ((a49.add (0 : Nat)).add (0 : Nat)) (Value.slice q46 n47 n48))
                                   [(w.heap.size,
                                     [((0 : Nat), Value.int IntKind.i64 k), ((1 : Nat), Value.string s), ((2 : Nat), Value.slice dq dn dc), ((3 : Nat), Value.int IntKind.i64 N),
                                      ((4 : Nat), Value.slice kq kn kc), ((5 : Nat), Value.int IntKind.i64 nm), ((6 : Nat), Value.int IntKind.u8 fi)])] →
                                  R (Ending.returned (Value.tuple #[])) (w45.setCell ((a49.add (0 : Nat)).add (0 : Nat)) (Value.slice q46 n47 n48))))
   else
    Known (w.alloc (Obj.cells #[Value.int IntKind.i64 k, Value.string s, Value.slice dq dn dc, Value.int IntKind.i64 N, Value.slice kq kn kc, Value.int IntKind.i64 nm, Value.int IntKind.u8 fi] (124 : Nat)))
      [(w.heap.size,
        [((0 : Nat), Value.int IntKind.i64 k), ((1 : Nat), Value.string s), ((2 : Nat), Value.slice dq dn dc), ((3 : Nat), Value.int IntKind.i64 N), ((4 : Nat), Value.slice kq kn kc),
         ((5 : Nat), Value.int IntKind.i64 nm), ((6 : Nat), Value.int IntKind.u8 fi)])] →
     R (Ending.returned (Value.tuple #[]))
      (w.alloc (Obj.cells #[Value.int IntKind.i64 k, Value.string s, Value.slice dq dn dc, Value.int IntKind.i64 N, Value.slice kq kn kc, Value.int IntKind.i64 nm, Value.int IntKind.u8 fi] (124 : Nat)))
  else
   bif k == (14 : Int) then
    SX.Ptr p fun (a51 : Addr) =>
     ∃ (q52 : Option Addr),
      ∃ (n53 : Nat),
       ∃ (n54 : Nat),
        (w.alloc
              (Obj.cells #[Value.int IntKind.i64 k, Value.string s, Value.slice dq dn dc, Value.int IntKind.i64 N, Value.slice kq kn kc, Value.int IntKind.i64 nm, Value.int IntKind.u8 fi]
               (124 : Nat))).drew.cell?
           (a51.add (0 : Nat)) =
          some (Value.slice q52 n53 n54) ∧
         SX.Ptr p fun (a55 : Addr) =>
          ∃ (q56 : Option Addr),
           ∃ (n57 : Nat),
            ∃ (n58 : Nat),
             (w.alloc
                   (Obj.cells #[Value.int IntKind.i64 k, Value.string s, Value.slice dq dn dc, Value.int IntKind.i64 N, Value.slice kq kn kc, Value.int IntKind.i64 nm, Value.int IntKind.u8 fi]
                    (124 : Nat))).drew.cell?
                (a55.add (4 : Nat)) =
               some (Value.slice q56 n57 n58) ∧
              (Known
                (w.alloc
                  (Obj.cells #[Value.int IntKind.i64 k, Value.string s, Value.slice dq dn dc, Value.int IntKind.i64 N, Value.slice kq kn kc, Value.int IntKind.i64 nm, Value.int IntKind.u8 fi]
                   (124 : Nat))).drew
                [(w.heap.size,
                  [((0 : Nat), Value.int IntKind.i64 k), ((1 : Nat), Value.string s), ((2 : Nat), Value.slice dq dn dc), ((3 : Nat), Value.int IntKind.i64 N), ((4 : Nat), Value.slice kq kn kc),
                   ((5 : Nat), Value.int IntKind.i64 nm), ((6 : Nat), Value.int IntKind.u8 fi)])] →
               Rets Tryd.prog (139 : Nat) #[Value.slice q56 n57 n58]
                (w.alloc
                  (Obj.cells #[Value.int IntKind.i64 k, Value.string s, Value.slice dq dn dc, Value.int IntKind.i64 N, Value.slice kq kn kc, Value.int IntKind.i64 nm, Value.int IntKind.u8 fi]
                   (124 : Nat))).drew
                fun (v59 : Value) (w60 : World) =>
                ∃ (q61 : Option Addr),
                 ∃ (n62 : Nat),
                  ∃ (n63 : Nat),
                   v59 = Value.slice q61 n62 n63 ∧
                    Keeps
                      (w.alloc
                        (Obj.cells
                         #[Value.int IntKind.i64 k, Value.string s, Value.slice dq dn dc, Value.int IntKind.i64 N, Value.slice kq kn kc, Value.int IntKind.i64 nm, Value.int IntKind.u8 fi]
                         (124 : Nat))).drew
                      w60 [w.heap.size] ∧
                     w60.cell? (a51.add (0 : Nat)) = some (Value.slice q52 n53 n54) ∧
                      (w60.alloc (Obj.cells #[Value.bool true, Value.slice q61 n62 n63] (130 : Nat))).cell? (a51.add (0 : Nat)) = some (Value.slice q52 n53 n54) ∧
                       Runs Tryd.prog
                        (Builtin.append_ #[(183 : Nat), (183 : Nat)] (183 : Nat) #[Value.slice q52 n53 n54, Value.slice (some { block := w60.heap.size, off := (0 : Nat) }) (1 : Nat) (1 : Nat)])
                        (w60.alloc (Obj.cells #[Value.bool true, Value.slice q61 n62 n63] (130 : Nat))) fun (v64 : Value) (w65 : World) =>
                        ∃ (q66 : Option Addr),
                         ∃ (n67 : Nat),
                          ∃ (n68 : Nat),
                           v64 = Value.slice q66 n67 n68 ∧
                            Keeps (w60.alloc (Obj.cells #[Value.bool true, Value.slice q61 n62 n63] (130 : Nat))) w65 [w.heap.size] ∧
                             SX.Ptr p fun (a69 : Addr) =>
                              (∃ (v70 : Value), w65.cell? ((a69.add (0 : Nat)).add (0 : Nat)) = some v70) ∧
                               w65.frozen? ((a69.add (0 : Nat)).add (0 : Nat)) = false ∧
                                Apart ((a69.add (0 : Nat)).add (0 : Nat)) w.heap.size [(0 : Nat), (1 : Nat), (2 : Nat), (3 : Nat), (4 : Nat), (5 : Nat), (6 : Nat)] ∧
                                 (Known (w65.setCell ((a69.add (0 : Nat)).add (0 : Nat)) (Value.slice q66 n67 n68))
                                   [(w.heap.size,
                                     [((0 : Nat), Value.int IntKind.i64 k), ((1 : Nat), Value.string s), ((2 : Nat), Value.slice dq dn dc), ((3 : Nat), Value.int IntKind.i64 N),
                                      ((4 : Nat), Value.slice kq kn kc), ((5 : Nat), Value.int IntKind.i64 nm), ((6 : Nat), Value.int IntKind.u8 fi)])] →
                                  R (Ending.returned (Value.tuple #[])) (w65.setCell ((a69.add (0 : Nat)).add (0 : Nat)) (Value.slice q66 n67 n68))))
   else
    Known (w.alloc (Obj.cells #[Value.int IntKind.i64 k, Value.string s, Value.slice dq dn dc, Value.int IntKind.i64 N, Value.slice kq kn kc, Value.int IntKind.i64 nm, Value.int IntKind.u8 fi] (124 : Nat)))
      [(w.heap.size,
        [((0 : Nat), Value.int IntKind.i64 k), ((1 : Nat), Value.string s), ((2 : Nat), Value.slice dq dn dc), ((3 : Nat), Value.int IntKind.i64 N), ((4 : Nat), Value.slice kq kn kc),
         ((5 : Nat), Value.int IntKind.i64 nm), ((6 : Nat), Value.int IntKind.u8 fi)])] →
     R (Ending.returned (Value.tuple #[]))
      (w.alloc (Obj.cells #[Value.int IntKind.i64 k, Value.string s, Value.slice dq dn dc, Value.int IntKind.i64 N, Value.slice kq kn kc, Value.int IntKind.i64 nm, Value.int IntKind.u8 fi] (124 : Nat)))
theorem vcTryd145 (p : Option Addr) (k : Int) (s : ByteArray) (dq : Option Addr) (dn dc : Nat) (N : Int) (kq : Option Addr) (kn kc : Nat) (nm fi : Int) (w : World) (R : Ending → World → Prop) : SX.vcFn Tryd.prog [] Tryd.f145 [.v (.pointer p), .v (.agg #[.int .i64 k, .string s, .slice dq dn dc, .int .i64 N, .slice kq kn kc, .int .i64 nm, .int .u8 fi])] [] w R = VCTryd145 p k s dq dn dc N kq kn kc nm fi w R := by kernel_rfl
def VCTryd146 (p : Option Addr) (k : Int) (s : ByteArray) (dq : Option Addr) (dn dc : Nat) (N : Int) (kq : Option Addr) (kn kc : Nat) (nm fi : Int) (e : Int) (aq : Option Addr) (an ac : Nat) (z : Int) (nq : Option Addr) (nn nc : Nat) (lq : Option Addr) (ln lc : Nat) (re po : Bool) (w : World) (R : Ending → World → Prop) : Prop :=
bif k == (1 : Int) then
 SX.Ptr p fun (a0 : Addr) =>
  (∃ (v1 : Value),
    (((w.alloc (Obj.cells #[Value.int IntKind.i64 k, Value.string s, Value.slice dq dn dc, Value.int IntKind.i64 N, Value.slice kq kn kc, Value.int IntKind.i64 nm, Value.int IntKind.u8 fi] (124 : Nat))).alloc
          (Obj.cells #[Value.int IntKind.i64 e, Value.slice aq an ac, Value.int IntKind.i64 z, Value.slice nq nn nc, Value.slice lq ln lc, Value.bool re, Value.bool po] (126 : Nat))).alloc
        (Obj.cells #[Value.bool true, Value.slice none (0 : Nat) (0 : Nat)] (130 : Nat))).cell?
      ((a0.add (0 : Nat)).add (0 : Nat)) =
     some v1) ∧
   (((w.alloc (Obj.cells #[Value.int IntKind.i64 k, Value.string s, Value.slice dq dn dc, Value.int IntKind.i64 N, Value.slice kq kn kc, Value.int IntKind.i64 nm, Value.int IntKind.u8 fi] (124 : Nat))).alloc
          (Obj.cells #[Value.int IntKind.i64 e, Value.slice aq an ac, Value.int IntKind.i64 z, Value.slice nq nn nc, Value.slice lq ln lc, Value.bool re, Value.bool po] (126 : Nat))).alloc
        (Obj.cells #[Value.bool true, Value.slice none (0 : Nat) (0 : Nat)] (130 : Nat))).frozen?
      ((a0.add (0 : Nat)).add (0 : Nat)) =
     false ∧
    Apart ((a0.add (0 : Nat)).add (0 : Nat)) w.heap.size [(0 : Nat), (1 : Nat), (2 : Nat), (3 : Nat), (4 : Nat), (5 : Nat), (6 : Nat)] ∧
     Apart ((a0.add (0 : Nat)).add (0 : Nat))
       (w.alloc (Obj.cells #[Value.int IntKind.i64 k, Value.string s, Value.slice dq dn dc, Value.int IntKind.i64 N, Value.slice kq kn kc, Value.int IntKind.i64 nm, Value.int IntKind.u8 fi] (124 : Nat))).heap.size
       [(0 : Nat), (1 : Nat), (2 : Nat), (3 : Nat), (4 : Nat), (5 : Nat), (6 : Nat)] ∧
      (Known
        ((((w.alloc
               (Obj.cells #[Value.int IntKind.i64 k, Value.string s, Value.slice dq dn dc, Value.int IntKind.i64 N, Value.slice kq kn kc, Value.int IntKind.i64 nm, Value.int IntKind.u8 fi]
                (124 : Nat))).alloc
             (Obj.cells #[Value.int IntKind.i64 e, Value.slice aq an ac, Value.int IntKind.i64 z, Value.slice nq nn nc, Value.slice lq ln lc, Value.bool re, Value.bool po] (126 : Nat))).alloc
           (Obj.cells #[Value.bool true, Value.slice none (0 : Nat) (0 : Nat)] (130 : Nat))).setCell
         ((a0.add (0 : Nat)).add (0 : Nat))
         (Value.slice
          (some
           {
            block :=
             ((w.alloc
                  (Obj.cells #[Value.int IntKind.i64 k, Value.string s, Value.slice dq dn dc, Value.int IntKind.i64 N, Value.slice kq kn kc, Value.int IntKind.i64 nm, Value.int IntKind.u8 fi]
                   (124 : Nat))).alloc
                (Obj.cells #[Value.int IntKind.i64 e, Value.slice aq an ac, Value.int IntKind.i64 z, Value.slice nq nn nc, Value.slice lq ln lc, Value.bool re, Value.bool po] (126 : Nat))).heap.size,
            off := (0 : Nat) })
          (1 : Nat) (1 : Nat)))
        [(w.heap.size,
          [((0 : Nat), Value.int IntKind.i64 k), ((1 : Nat), Value.string s), ((2 : Nat), Value.slice dq dn dc), ((3 : Nat), Value.int IntKind.i64 N), ((4 : Nat), Value.slice kq kn kc),
           ((5 : Nat), Value.int IntKind.i64 nm), ((6 : Nat), Value.int IntKind.u8 fi)]),
         ((w.alloc
             (Obj.cells #[Value.int IntKind.i64 k, Value.string s, Value.slice dq dn dc, Value.int IntKind.i64 N, Value.slice kq kn kc, Value.int IntKind.i64 nm, Value.int IntKind.u8 fi]
              (124 : Nat))).heap.size,
          [((0 : Nat), Value.int IntKind.i64 e), ((1 : Nat), Value.slice aq an ac), ((2 : Nat), Value.int IntKind.i64 z), ((3 : Nat), Value.slice nq nn nc), ((4 : Nat), Value.slice lq ln lc),
           ((5 : Nat), Value.bool re), ((6 : Nat), Value.bool po)])] →
       R (Ending.returned (Value.tuple #[]))
        ((((w.alloc
               (Obj.cells #[Value.int IntKind.i64 k, Value.string s, Value.slice dq dn dc, Value.int IntKind.i64 N, Value.slice kq kn kc, Value.int IntKind.i64 nm, Value.int IntKind.u8 fi]
                (124 : Nat))).alloc
             (Obj.cells #[Value.int IntKind.i64 e, Value.slice aq an ac, Value.int IntKind.i64 z, Value.slice nq nn nc, Value.slice lq ln lc, Value.bool re, Value.bool po] (126 : Nat))).alloc
           (Obj.cells #[Value.bool true, Value.slice none (0 : Nat) (0 : Nat)] (130 : Nat))).setCell
         ((a0.add (0 : Nat)).add (0 : Nat))
         (Value.slice
          (some
           {
            block :=
             ((w.alloc
                  (Obj.cells #[Value.int IntKind.i64 k, Value.string s, Value.slice dq dn dc, Value.int IntKind.i64 N, Value.slice kq kn kc, Value.int IntKind.i64 nm, Value.int IntKind.u8 fi]
                   (124 : Nat))).alloc
                (Obj.cells #[Value.int IntKind.i64 e, Value.slice aq an ac, Value.int IntKind.i64 z, Value.slice nq nn nc, Value.slice lq ln lc, Value.bool re, Value.bool po] (126 : Nat))).heap.size,
            off := (0 : Nat) })
          (1 : Nat) (1 : Nat))))
else
 bif k == (2 : Int) then
  Known
    ((w.alloc (Obj.cells #[Value.int IntKind.i64 k, Value.string s, Value.slice dq dn dc, Value.int IntKind.i64 N, Value.slice kq kn kc, Value.int IntKind.i64 nm, Value.int IntKind.u8 fi] (124 : Nat))).alloc
     (Obj.cells #[Value.int IntKind.i64 e, Value.slice aq an ac, Value.int IntKind.i64 z, Value.slice nq nn nc, Value.slice lq ln lc, Value.bool re, Value.bool po] (126 : Nat)))
    [(w.heap.size,
      [((0 : Nat), Value.int IntKind.i64 k), ((1 : Nat), Value.string s), ((2 : Nat), Value.slice dq dn dc), ((3 : Nat), Value.int IntKind.i64 N), ((4 : Nat), Value.slice kq kn kc),
       ((5 : Nat), Value.int IntKind.i64 nm), ((6 : Nat), Value.int IntKind.u8 fi)]),
     ((w.alloc (Obj.cells #[Value.int IntKind.i64 k, Value.string s, Value.slice dq dn dc, Value.int IntKind.i64 N, Value.slice kq kn kc, Value.int IntKind.i64 nm, Value.int IntKind.u8 fi] (124 : Nat))).heap.size,
      [((0 : Nat), Value.int IntKind.i64 e), ((1 : Nat), Value.slice aq an ac), ((2 : Nat), Value.int IntKind.i64 z), ((3 : Nat), Value.slice nq nn nc), ((4 : Nat), Value.slice lq ln lc),
       ((5 : Nat), Value.bool re), ((6 : Nat), Value.bool po)])] →
   Rets Tryd.prog (139 : Nat) #[Value.slice lq ln lc]
    ((w.alloc (Obj.cells #[Value.int IntKind.i64 k, Value.string s, Value.slice dq dn dc, Value.int IntKind.i64 N, Value.slice kq kn kc, Value.int IntKind.i64 nm, Value.int IntKind.u8 fi] (124 : Nat))).alloc
     (Obj.cells #[Value.int IntKind.i64 e, Value.slice aq an ac, Value.int IntKind.i64 z, Value.slice nq nn nc, Value.slice lq ln lc, Value.bool re, Value.bool po] (126 : Nat)))
    fun (v2 : Value) (w3 : World) =>
    ∃ (q4 : Option Addr),
     ∃ (n5 : Nat),
      ∃ (n6 : Nat),
       v2 = Value.slice q4 n5 n6 ∧
        Keeps
          ((w.alloc
             (Obj.cells #[Value.int IntKind.i64 k, Value.string s, Value.slice dq dn dc, Value.int IntKind.i64 N, Value.slice kq kn kc, Value.int IntKind.i64 nm, Value.int IntKind.u8 fi] (124 : Nat))).alloc
           (Obj.cells #[Value.int IntKind.i64 e, Value.slice aq an ac, Value.int IntKind.i64 z, Value.slice nq nn nc, Value.slice lq ln lc, Value.bool re, Value.bool po] (126 : Nat)))
          w3
          [w.heap.size,
           (w.alloc
              (Obj.cells #[Value.int IntKind.i64 k, Value.string s, Value.slice dq dn dc, Value.int IntKind.i64 N, Value.slice kq kn kc, Value.int IntKind.i64 nm, Value.int IntKind.u8 fi]
               (124 : Nat))).heap.size] ∧
         SX.Ptr p fun (a7 : Addr) =>
          (∃ (v8 : Value), w3.cell? ((a7.add (1 : Nat)).add (0 : Nat)) = some v8) ∧
           w3.frozen? ((a7.add (1 : Nat)).add (0 : Nat)) = false ∧
            Apart ((a7.add (1 : Nat)).add (0 : Nat)) w.heap.size [(0 : Nat), (1 : Nat), (2 : Nat), (3 : Nat), (4 : Nat), (5 : Nat), (6 : Nat)] ∧
             Apart ((a7.add (1 : Nat)).add (0 : Nat))
               (w.alloc
                  (Obj.cells #[Value.int IntKind.i64 k, Value.string s, Value.slice dq dn dc, Value.int IntKind.i64 N, Value.slice kq kn kc, Value.int IntKind.i64 nm, Value.int IntKind.u8 fi]
                   (124 : Nat))).heap.size
               [(0 : Nat), (1 : Nat), (2 : Nat), (3 : Nat), (4 : Nat), (5 : Nat), (6 : Nat)] ∧
              SX.Ptr p fun (a9 : Addr) =>
               (∃ (v10 : Value), (w3.setCell ((a7.add (1 : Nat)).add (0 : Nat)) (Value.bool true)).cell? ((a9.add (4 : Nat)).add (0 : Nat)) = some v10) ∧
                (w3.setCell ((a7.add (1 : Nat)).add (0 : Nat)) (Value.bool true)).frozen? ((a9.add (4 : Nat)).add (0 : Nat)) = false ∧
                 Apart ((a9.add (4 : Nat)).add (0 : Nat)) w.heap.size [(0 : Nat), (1 : Nat), (2 : Nat), (3 : Nat), (4 : Nat), (5 : Nat), (6 : Nat)] ∧
                  Apart ((a9.add (4 : Nat)).add (0 : Nat))
                    (w.alloc
                       (Obj.cells #[Value.int IntKind.i64 k, Value.string s, Value.slice dq dn dc, Value.int IntKind.i64 N, Value.slice kq kn kc, Value.int IntKind.i64 nm, Value.int IntKind.u8 fi]
                        (124 : Nat))).heap.size
                    [(0 : Nat), (1 : Nat), (2 : Nat), (3 : Nat), (4 : Nat), (5 : Nat), (6 : Nat)] ∧
                   (Known ((w3.setCell ((a7.add (1 : Nat)).add (0 : Nat)) (Value.bool true)).setCell ((a9.add (4 : Nat)).add (0 : Nat)) (Value.slice q4 n5 n6))
                     [(w.heap.size,
                       [((0 : Nat), Value.int IntKind.i64 k), ((1 : Nat), Value.string s), ((2 : Nat), Value.slice dq dn dc), ((3 : Nat), Value.int IntKind.i64 N),
                        ((4 : Nat), Value.slice kq kn kc), ((5 : Nat), Value.int IntKind.i64 nm), ((6 : Nat), Value.int IntKind.u8 fi)]),
                      ((w.alloc
                          (Obj.cells
                           #[Value.int IntKind.i64 k, Value.string s, Value.slice dq dn dc, Value.int IntKind.i64 N, Value.slice kq kn kc, Value.int IntKind.i64 nm, Value.int IntKind.u8 fi]
                           (124 : Nat))).heap.size,
                       [((0 : Nat), Value.int IntKind.i64 e), ((1 : Nat), Value.slice aq an ac), ((2 : Nat), Value.int IntKind.i64 z), ((3 : Nat), Value.slice nq nn nc),
                        ((4 : Nat), Value.slice lq ln lc), ((5 : Nat), Value.bool re), ((6 : Nat), Value.bool po)])] →
                    Rets Tryd.prog (139 : Nat) #[Value.slice lq ln lc]
                     ((w3.setCell ((a7.add (1 : Nat)).add (0 : Nat)) (Value.bool true)).setCell ((a9.add (4 : Nat)).add (0 : Nat)) (Value.slice q4 n5 n6)) fun (v11 : Value) (w12 : World) =>
                     ∃ (q13 : Option Addr),
                      ∃ (n14 : Nat),
                       ∃ (n15 : Nat),
                        v11 = Value.slice q13 n14 n15 ∧
                         Keeps ((w3.setCell ((a7.add (1 : Nat)).add (0 : Nat)) (Value.bool true)).setCell ((a9.add (4 : Nat)).add (0 : Nat)) (Value.slice q4 n5 n6)) w12
                           [w.heap.size,
                            (w.alloc
                               (Obj.cells
                                #[Value.int IntKind.i64 k, Value.string s, Value.slice dq dn dc, Value.int IntKind.i64 N, Value.slice kq kn kc, Value.int IntKind.i64 nm,
                                 Value.int IntKind.u8 fi]
                                (124 : Nat))).heap.size] ∧
                          SX.Ptr p fun (a16 : Addr) =>
                           (∃ (v17 : Value), (w12.alloc (Obj.cells #[Value.bool true, Value.slice q13 n14 n15] (130 : Nat))).cell? ((a16.add (0 : Nat)).add (0 : Nat)) = some v17) ∧
                            (w12.alloc (Obj.cells #[Value.bool true, Value.slice q13 n14 n15] (130 : Nat))).frozen? ((a16.add (0 : Nat)).add (0 : Nat)) = false ∧
                             Apart ((a16.add (0 : Nat)).add (0 : Nat)) w.heap.size [(0 : Nat), (1 : Nat), (2 : Nat), (3 : Nat), (4 : Nat), (5 : Nat), (6 : Nat)] ∧
                              Apart ((a16.add (0 : Nat)).add (0 : Nat))
                                (w.alloc
                                   (Obj.cells
                                    #[Value.int IntKind.i64 k, Value.string s, Value.slice dq dn dc, Value.int IntKind.i64 N, Value.slice kq kn kc, Value.int IntKind.i64 nm,
                                     Value.int IntKind.u8 fi]
                                    (124 : Nat))).heap.size
                                [(0 : Nat), (1 : Nat), (2 : Nat), (3 : Nat), (4 : Nat), (5 : Nat), (6 : Nat)] ∧
                               (Known
                                 ((w12.alloc (Obj.cells #[Value.bool true, Value.slice q13 n14 n15] (130 : Nat))).setCell ((a16.add (0 : Nat)).add (0 : Nat))
                                  (Value.slice (some { block := w12.heap.size, off := (0 : Nat) }) (1 : Nat) (1 : Nat)))
                                 [(w.heap.size,
                                   [((0 : Nat), Value.int IntKind.i64 k), ((1 : Nat), Value.string s), ((2 : Nat), Value.slice dq dn dc), ((3 : Nat), Value.int IntKind.i64 N),
                                    ((4 : Nat), Value.slice kq kn kc), ((5 : Nat), Value.int IntKind.i64 nm), ((6 : Nat), Value.int IntKind.u8 fi)]),
                                  ((w.alloc
                                      (Obj.cells
                                       #[Value.int IntKind.i64 k, Value.string s, Value.slice dq dn dc, Value.int IntKind.i64 N, Value.slice kq kn kc, Value.int IntKind.i64 nm,
                                        Value.int IntKind.u8 fi]
                                       (124 : Nat))).heap.size,
                                   [((0 : Nat), Value.int IntKind.i64 e), ((1 : Nat), Value.slice aq an ac), ((2 : Nat), Value.int IntKind.i64 z), ((3 : Nat), Value.slice nq nn nc),
                                    ((4 : Nat), Value.slice lq ln lc), ((5 : Nat), Value.bool re), ((6 : Nat), Value.bool po)])] →
                                R (Ending.returned (Value.tuple #[]))
                                 ((w12.alloc (Obj.cells #[Value.bool true, Value.slice q13 n14 n15] (130 : Nat))).setCell ((a16.add (0 : Nat)).add (0 : Nat))
                                  (Value.slice (some { block := w12.heap.size, off := (0 : Nat) }) (1 : Nat) (1 : Nat)))))
 else
  bif k == (3 : Int) then
   SX.Ptr p fun (a18 : Addr) =>
    ∃ (q19 : Option Addr),
     ∃ (n20 : Nat),
      ∃ (n21 : Nat),
       ((w.alloc (Obj.cells #[Value.int IntKind.i64 k, Value.string s, Value.slice dq dn dc, Value.int IntKind.i64 N, Value.slice kq kn kc, Value.int IntKind.i64 nm, Value.int IntKind.u8 fi] (124 : Nat))).alloc
             (Obj.cells #[Value.int IntKind.i64 e, Value.slice aq an ac, Value.int IntKind.i64 z, Value.slice nq nn nc, Value.slice lq ln lc, Value.bool re, Value.bool po] (126 : Nat))).drew.cell?
          (a18.add (4 : Nat)) =
         some (Value.slice q19 n20 n21) ∧
        (Known
          ((w.alloc
              (Obj.cells #[Value.int IntKind.i64 k, Value.string s, Value.slice dq dn dc, Value.int IntKind.i64 N, Value.slice kq kn kc, Value.int IntKind.i64 nm, Value.int IntKind.u8 fi]
               (124 : Nat))).alloc
            (Obj.cells #[Value.int IntKind.i64 e, Value.slice aq an ac, Value.int IntKind.i64 z, Value.slice nq nn nc, Value.slice lq ln lc, Value.bool re, Value.bool po] (126 : Nat))).drew
          [(w.heap.size,
            [((0 : Nat), Value.int IntKind.i64 k), ((1 : Nat), Value.string s), ((2 : Nat), Value.slice dq dn dc), ((3 : Nat), Value.int IntKind.i64 N), ((4 : Nat), Value.slice kq kn kc),
             ((5 : Nat), Value.int IntKind.i64 nm), ((6 : Nat), Value.int IntKind.u8 fi)]),
           ((w.alloc
               (Obj.cells #[Value.int IntKind.i64 k, Value.string s, Value.slice dq dn dc, Value.int IntKind.i64 N, Value.slice kq kn kc, Value.int IntKind.i64 nm, Value.int IntKind.u8 fi]
                (124 : Nat))).heap.size,
            [((0 : Nat), Value.int IntKind.i64 e), ((1 : Nat), Value.slice aq an ac), ((2 : Nat), Value.int IntKind.i64 z), ((3 : Nat), Value.slice nq nn nc), ((4 : Nat), Value.slice lq ln lc),
             ((5 : Nat), Value.bool re), ((6 : Nat), Value.bool po)])] →
         Rets Tryd.prog (89 : Nat) #[Value.slice q19 n20 n21, Value.string s, Value.slice dq dn dc]
          ((w.alloc
              (Obj.cells #[Value.int IntKind.i64 k, Value.string s, Value.slice dq dn dc, Value.int IntKind.i64 N, Value.slice kq kn kc, Value.int IntKind.i64 nm, Value.int IntKind.u8 fi]
               (124 : Nat))).alloc
            (Obj.cells #[Value.int IntKind.i64 e, Value.slice aq an ac, Value.int IntKind.i64 z, Value.slice nq nn nc, Value.slice lq ln lc, Value.bool re, Value.bool po] (126 : Nat))).drew
          fun (v22 : Value) (w23 : World) =>
          ∃ (q24 : Option Addr),
           ∃ (n25 : Nat),
            ∃ (n26 : Nat),
             v22 = Value.slice q24 n25 n26 ∧
              Keeps
                ((w.alloc
                    (Obj.cells #[Value.int IntKind.i64 k, Value.string s, Value.slice dq dn dc, Value.int IntKind.i64 N, Value.slice kq kn kc, Value.int IntKind.i64 nm, Value.int IntKind.u8 fi]
                     (124 : Nat))).alloc
                  (Obj.cells #[Value.int IntKind.i64 e, Value.slice aq an ac, Value.int IntKind.i64 z, Value.slice nq nn nc, Value.slice lq ln lc, Value.bool re, Value.bool po] (126 : Nat))).drew
                w23
                [w.heap.size,
                 (w.alloc
                    (Obj.cells #[Value.int IntKind.i64 k, Value.string s, Value.slice dq dn dc, Value.int IntKind.i64 N, Value.slice kq kn kc, Value.int IntKind.i64 nm, Value.int IntKind.u8 fi]
                     (124 : Nat))).heap.size] ∧
               SX.Ptr p fun (a27 : Addr) =>
                (∃ (v28 : Value), w23.cell? ((a27.add (4 : Nat)).add (0 : Nat)) = some v28) ∧
                 w23.frozen? ((a27.add (4 : Nat)).add (0 : Nat)) = false ∧
                  Apart ((a27.add (4 : Nat)).add (0 : Nat)) w.heap.size [(0 : Nat), (1 : Nat), (2 : Nat), (3 : Nat), (4 : Nat), (5 : Nat), (6 : Nat)] ∧
                   Apart ((a27.add (4 : Nat)).add (0 : Nat))
                     (w.alloc
                        (Obj.cells
                         #[Value.int IntKind.i64 k, Value.string s, Value.slice dq dn dc, Value.int IntKind.i64 N, Value.slice kq kn kc, Value.int IntKind.i64 nm, Value.int IntKind.u8 fi]
                         (124 : Nat))).heap.size
                     [(0 : Nat), (1 : Nat), (2 : Nat), (3 : Nat), (4 : Nat), (5 : Nat), (6 : Nat)] ∧
                    (Known (w23.setCell ((a27.add (4 : Nat)).add (0 : Nat)) (Value.slice q24 n25 n26))
                      [(w.heap.size,
                        [((0 : Nat), Value.int IntKind.i64 k), ((1 : Nat), Value.string s), ((2 : Nat), Value.slice dq dn dc), ((3 : Nat), Value.int IntKind.i64 N),
                         ((4 : Nat), Value.slice kq kn kc), ((5 : Nat), Value.int IntKind.i64 nm), ((6 : Nat), Value.int IntKind.u8 fi)]),
                       ((w.alloc
                           (Obj.cells
                            #[Value.int IntKind.i64 k, Value.string s, Value.slice dq dn dc, Value.int IntKind.i64 N, Value.slice kq kn kc, Value.int IntKind.i64 nm, Value.int IntKind.u8 fi]
                            (124 : Nat))).heap.size,
                        [((0 : Nat), Value.int IntKind.i64 e), ((1 : Nat), Value.slice aq an ac), ((2 : Nat), Value.int IntKind.i64 z), ((3 : Nat), Value.slice nq nn nc),
                         ((4 : Nat), Value.slice lq ln lc), ((5 : Nat), Value.bool re), ((6 : Nat), Value.bool po)])] →
                     R (Ending.returned (Value.tuple #[])) (w23.setCell ((a27.add (4 : Nat)).add (0 : Nat)) (Value.slice q24 n25 n26))))
  else
   bif k == (4 : Int) then
    SX.Ptr p fun (a29 : Addr) =>
     (∃ (v30 : Value),
       ((w.alloc (Obj.cells #[Value.int IntKind.i64 k, Value.string s, Value.slice dq dn dc, Value.int IntKind.i64 N, Value.slice kq kn kc, Value.int IntKind.i64 nm, Value.int IntKind.u8 fi] (124 : Nat))).alloc
            (Obj.cells #[Value.int IntKind.i64 e, Value.slice aq an ac, Value.int IntKind.i64 z, Value.slice nq nn nc, Value.slice lq ln lc, Value.bool re, Value.bool po] (126 : Nat))).drew.cell?
         ((a29.add (3 : Nat)).add (0 : Nat)) =
        some v30) ∧
      ((w.alloc (Obj.cells #[Value.int IntKind.i64 k, Value.string s, Value.slice dq dn dc, Value.int IntKind.i64 N, Value.slice kq kn kc, Value.int IntKind.i64 nm, Value.int IntKind.u8 fi] (124 : Nat))).alloc
            (Obj.cells #[Value.int IntKind.i64 e, Value.slice aq an ac, Value.int IntKind.i64 z, Value.slice nq nn nc, Value.slice lq ln lc, Value.bool re, Value.bool po] (126 : Nat))).drew.frozen?
         ((a29.add (3 : Nat)).add (0 : Nat)) =
        false ∧
       Apart ((a29.add (3 : Nat)).add (0 : Nat)) w.heap.size [(0 : Nat), (1 : Nat), (2 : Nat), (3 : Nat), (4 : Nat), (5 : Nat), (6 : Nat)] ∧
        Apart ((a29.add (3 : Nat)).add (0 : Nat))
          (w.alloc
             (Obj.cells #[Value.int IntKind.i64 k, Value.string s, Value.slice dq dn dc, Value.int IntKind.i64 N, Value.slice kq kn kc, Value.int IntKind.i64 nm, Value.int IntKind.u8 fi]
              (124 : Nat))).heap.size
          [(0 : Nat), (1 : Nat), (2 : Nat), (3 : Nat), (4 : Nat), (5 : Nat), (6 : Nat)] ∧
         (((w.alloc
                   (Obj.cells #[Value.int IntKind.i64 k, Value.string s, Value.slice dq dn dc, Value.int IntKind.i64 N, Value.slice kq kn kc, Value.int IntKind.i64 nm, Value.int IntKind.u8 fi]
                    (124 : Nat))).alloc
                 (Obj.cells #[Value.int IntKind.i64 e, Value.slice aq an ac, Value.int IntKind.i64 z, Value.slice nq nn nc, Value.slice lq ln lc, Value.bool re, Value.bool po] (126 : Nat))).drew.setCell
              ((a29.add (3 : Nat)).add (0 : Nat)) (Value.bool true)).cell?
            {block := w.heap.size, off := (1 : Nat) } =
           some (Value.string s) ∧
          SX.Ptr p fun (a31 : Addr) =>
           (∃ (v32 : Value),
             (((w.alloc
                      (Obj.cells #[Value.int IntKind.i64 k, Value.string s, Value.slice dq dn dc, Value.int IntKind.i64 N, Value.slice kq kn kc, Value.int IntKind.i64 nm, Value.int IntKind.u8 fi]
                       (124 : Nat))).alloc
                    (Obj.cells #[Value.int IntKind.i64 e, Value.slice aq an ac, Value.int IntKind.i64 z, Value.slice nq nn nc, Value.slice lq ln lc, Value.bool re, Value.bool po]
                     (126 : Nat))).drew.setCell
                 ((a29.add (3 : Nat)).add (0 : Nat)) (Value.bool true)).cell?
               ((a31.add (5 : Nat)).add (0 : Nat)) =
              some v32) ∧
            (((w.alloc
                      (Obj.cells #[Value.int IntKind.i64 k, Value.string s, Value.slice dq dn dc, Value.int IntKind.i64 N, Value.slice kq kn kc, Value.int IntKind.i64 nm, Value.int IntKind.u8 fi]
                       (124 : Nat))).alloc
                    (Obj.cells #[Value.int IntKind.i64 e, Value.slice aq an ac, Value.int IntKind.i64 z, Value.slice nq nn nc, Value.slice lq ln lc, Value.bool re, Value.bool po]
                     (126 : Nat))).drew.setCell
                 ((a29.add (3 : Nat)).add (0 : Nat)) (Value.bool true)).frozen?
               ((a31.add (5 : Nat)).add (0 : Nat)) =
              false ∧
             Apart ((a31.add (5 : Nat)).add (0 : Nat)) w.heap.size [(0 : Nat), (1 : Nat), (2 : Nat), (3 : Nat), (4 : Nat), (5 : Nat), (6 : Nat)] ∧
              Apart ((a31.add (5 : Nat)).add (0 : Nat))
                (w.alloc
                   (Obj.cells #[Value.int IntKind.i64 k, Value.string s, Value.slice dq dn dc, Value.int IntKind.i64 N, Value.slice kq kn kc, Value.int IntKind.i64 nm, Value.int IntKind.u8 fi]
                    (124 : Nat))).heap.size
                [(0 : Nat), (1 : Nat), (2 : Nat), (3 : Nat), (4 : Nat), (5 : Nat), (6 : Nat)] ∧
               SX.Ptr p fun (a33 : Addr) =>
                (∃ (v34 : Value),
                  ((((w.alloc
                             (Obj.cells
                              #[Value.int IntKind.i64 k, Value.string s, Value.slice dq dn dc, Value.int IntKind.i64 N, Value.slice kq kn kc, Value.int IntKind.i64 nm,
                               Value.int IntKind.u8 fi]
                              (124 : Nat))).alloc
                           (Obj.cells #[Value.int IntKind.i64 e, Value.slice aq an ac, Value.int IntKind.i64 z, Value.slice nq nn nc, Value.slice lq ln lc, Value.bool re, Value.bool po]
                            (126 : Nat))).drew.setCell
                        ((a29.add (3 : Nat)).add (0 : Nat)) (Value.bool true)).setCell
                      ((a31.add (5 : Nat)).add (0 : Nat)) (Value.string s)).cell?
                    ((a33.add (6 : Nat)).add (0 : Nat)) =
                   some v34) ∧
                 ((((w.alloc
                             (Obj.cells
                              #[Value.int IntKind.i64 k, Value.string s, Value.slice dq dn dc, Value.int IntKind.i64 N, Value.slice kq kn kc, Value.int IntKind.i64 nm,
                               Value.int IntKind.u8 fi]
                              (124 : Nat))).alloc
                           (Obj.cells #[Value.int IntKind.i64 e, Value.slice aq an ac, Value.int IntKind.i64 z, Value.slice nq nn nc, Value.slice lq ln lc, Value.bool re, Value.bool po]
                            (126 : Nat))).drew.setCell
                        ((a29.add (3 : Nat)).add (0 : Nat)) (Value.bool true)).setCell
                      ((a31.add (5 : Nat)).add (0 : Nat)) (Value.string s)).frozen?
                    ((a33.add (6 : Nat)).add (0 : Nat)) =
                   false ∧
                  Apart ((a33.add (6 : Nat)).add (0 : Nat)) w.heap.size [(0 : Nat), (1 : Nat), (2 : Nat), (3 : Nat), (4 : Nat), (5 : Nat), (6 : Nat)] ∧
                   Apart ((a33.add (6 : Nat)).add (0 : Nat))
                     (w.alloc
                        (Obj.cells
                         #[Value.int IntKind.i64 k, Value.string s, Value.slice dq dn dc, Value.int IntKind.i64 N, Value.slice kq kn kc, Value.int IntKind.i64 nm, Value.int IntKind.u8 fi]
                         (124 : Nat))).heap.size
                     [(0 : Nat), (1 : Nat), (2 : Nat), (3 : Nat), (4 : Nat), (5 : Nat), (6 : Nat)] ∧
                    (Known
                      (((((w.alloc
                                (Obj.cells
                                 #[Value.int IntKind.i64 k, Value.string s, Value.slice dq dn dc, Value.int IntKind.i64 N, Value.slice kq kn kc, Value.int IntKind.i64 nm,
                                  Value.int IntKind.u8 fi]
                                 (124 : Nat))).alloc
                              (Obj.cells #[Value.int IntKind.i64 e, Value.slice aq an ac, Value.int IntKind.i64 z, Value.slice nq nn nc, Value.slice lq ln lc, Value.bool re, Value.bool po]
                               (126 : Nat))).drew.setCell
                           ((a29.add (3 : Nat)).add (0 : Nat)) (Value.bool true)).setCell
                         ((a31.add (5 : Nat)).add (0 : Nat)) (Value.string s)).setCell
                       ((a33.add (6 : Nat)).add (0 : Nat)) (Value.slice none (0 : Nat) (0 : Nat)))
                      [(w.heap.size,
                        [((0 : Nat), Value.int IntKind.i64 k), ((1 : Nat), Value.string s), ((2 : Nat), Value.slice dq dn dc), ((3 : Nat), Value.int IntKind.i64 N),
                         ((4 : Nat), Value.slice kq kn kc), ((5 : Nat), Value.int IntKind.i64 nm), ((6 : Nat), Value.int IntKind.u8 fi)]),
                       ((w.alloc
                           (Obj.cells
                            #[Value.int IntKind.i64 k, Value.string s, Value.slice dq dn dc, Value.int IntKind.i64 N, Value.slice kq kn kc, Value.int IntKind.i64 nm, Value.int IntKind.u8 fi]
                            (124 : Nat))).heap.size,
                        [((0 : Nat), Value.int IntKind.i64 e), ((1 : Nat), Value.slice aq an ac), ((2 : Nat), Value.int IntKind.i64 z), ((3 : Nat), Value.slice nq nn nc),
                         ((4 : Nat), Value.slice lq ln lc), ((5 : Nat), Value.bool re), ((6 : Nat), Value.bool po)])] →
                     R (Ending.returned (Value.tuple #[]))
                      (((((w.alloc
                                (Obj.cells
                                 #[Value.int IntKind.i64 k, Value.string s, Value.slice dq dn dc, Value.int IntKind.i64 N, Value.slice kq kn kc, Value.int IntKind.i64 nm,
                                  Value.int IntKind.u8 fi]
                                 (124 : Nat))).alloc
                              (Obj.cells #[Value.int IntKind.i64 e, Value.slice aq an ac, Value.int IntKind.i64 z, Value.slice nq nn nc, Value.slice lq ln lc, Value.bool re, Value.bool po]
                               (126 : Nat))).drew.setCell
                           ((a29.add (3 : Nat)).add (0 : Nat)) (Value.bool true)).setCell
                         ((a31.add (5 : Nat)).add (0 : Nat)) (Value.string s)).setCell
                       ((a33.add (6 : Nat)).add (0 : Nat)) (Value.slice none (0 : Nat) (0 : Nat))))
   else
    bif k == (5 : Int) then
     SX.Ptr p fun (a35 : Addr) =>
      ∃ (q36 : Option Addr),
       ∃ (n37 : Nat),
        ∃ (n38 : Nat),
         ((w.alloc
                 (Obj.cells #[Value.int IntKind.i64 k, Value.string s, Value.slice dq dn dc, Value.int IntKind.i64 N, Value.slice kq kn kc, Value.int IntKind.i64 nm, Value.int IntKind.u8 fi]
                  (124 : Nat))).alloc
               (Obj.cells #[Value.int IntKind.i64 e, Value.slice aq an ac, Value.int IntKind.i64 z, Value.slice nq nn nc, Value.slice lq ln lc, Value.bool re, Value.bool po] (126 : Nat))).drew.cell?
            (a35.add (6 : Nat)) =
           some (Value.slice q36 n37 n38) ∧
          Runs Tryd.prog (Builtin.append_ #[(27 : Nat), (27 : Nat)] (27 : Nat) #[Value.slice q36 n37 n38, Value.slice dq dn dc])
           ((w.alloc
               (Obj.cells #[Value.int IntKind.i64 k, Value.string s, Value.slice dq dn dc, Value.int IntKind.i64 N, Value.slice kq kn kc, Value.int IntKind.i64 nm, Value.int IntKind.u8 fi]
                (124 : Nat))).alloc
             (Obj.cells #[Value.int IntKind.i64 e, Value.slice aq an ac, Value.int IntKind.i64 z, Value.slice nq nn nc, Value.slice lq ln lc, Value.bool re, Value.bool po] (126 : Nat))).drew
           fun (v39 : Value) (w40 : World) =>
           ∃ (q41 : Option Addr),
            ∃ (n42 : Nat),
             ∃ (n43 : Nat),
              v39 = Value.slice q41 n42 n43 ∧
               Keeps
                 ((w.alloc
                     (Obj.cells #[Value.int IntKind.i64 k, Value.string s, Value.slice dq dn dc, Value.int IntKind.i64 N, Value.slice kq kn kc, Value.int IntKind.i64 nm, Value.int IntKind.u8 fi]
                      (124 : Nat))).alloc
                   (Obj.cells #[Value.int IntKind.i64 e, Value.slice aq an ac, Value.int IntKind.i64 z, Value.slice nq nn nc, Value.slice lq ln lc, Value.bool re, Value.bool po] (126 : Nat))).drew
                 w40
                 [w.heap.size,
                  (w.alloc
                     (Obj.cells #[Value.int IntKind.i64 k, Value.string s, Value.slice dq dn dc, Value.int IntKind.i64 N, Value.slice kq kn kc, Value.int IntKind.i64 nm, Value.int IntKind.u8 fi]
                      (124 : Nat))).heap.size] ∧
                SX.Ptr p fun (a44 : Addr) =>
                 (∃ (v45 : Value), w40.cell? ((a44.add (6 : Nat)).add (0 : Nat)) = some v45) ∧
                  w40.frozen? ((a44.add (6 : Nat)).add (0 : Nat)) = false ∧
                   Apart ((a44.add (6 : Nat)).add (0 : Nat)) w.heap.size [(0 : Nat), (1 : Nat), (2 : Nat), (3 : Nat), (4 : Nat), (5 : Nat), (6 : Nat)] ∧
                    Apart ((a44.add (6 : Nat)).add (0 : Nat))
                      (w.alloc
                         (Obj.cells
                          #[Value.int IntKind.i64 k, Value.string s, Value.slice dq dn dc, Value.int IntKind.i64 N, Value.slice kq kn kc, Value.int IntKind.i64 nm, Value.int IntKind.u8 fi]
                          (124 : Nat))).heap.size
                      [(0 : Nat), (1 : Nat), (2 : Nat), (3 : Nat), (4 : Nat), (5 : Nat), (6 : Nat)] ∧
                     (Known (w40.setCell ((a44.add (6 : Nat)).add (0 : Nat)) (Value.slice q41 n42 n43))
                       [(w.heap.size,
                         [((0 : Nat), Value.int IntKind.i64 k), ((1 : Nat), Value.string s), ((2 : Nat), Value.slice dq dn dc), ((3 : Nat), Value.int IntKind.i64 N),
                          ((4 : Nat), Value.slice kq kn kc), ((5 : Nat), Value.int IntKind.i64 nm), ((6 : Nat), Value.int IntKind.u8 fi)]),
                        ((w.alloc
                            (Obj.cells
                             #[Value.int IntKind.i64 k, Value.string s, Value.slice dq dn dc, Value.int IntKind.i64 N, Value.slice kq kn kc, Value.int IntKind.i64 nm, Value.int IntKind.u8 fi]
                             (124 : Nat))).heap.size,
                         [((0 : Nat), Value.int IntKind.i64 e), ((1 : Nat), Value.slice aq an ac), ((2 : Nat), Value.int IntKind.i64 z), ((3 : Nat), Value.slice nq nn nc),
                          ((4 : Nat), Value.slice lq ln lc), ((5 : Nat), Value.bool re), ((6 : Nat), Value.bool po)])] →
                      R (Ending.returned (Value.tuple #[])) (w40.setCell ((a44.add (6 : Nat)).add (0 : Nat)) (Value.slice q41 n42 n43)))
    else
     bif k == (6 : Int) then
      SX.Ptr p fun (a46 : Addr) =>
       ∃ (q47 : Option Addr),
        ∃ (n48 : Nat),
         ∃ (n49 : Nat),
          ((w.alloc
                  (Obj.cells #[Value.int IntKind.i64 k, Value.string s, Value.slice dq dn dc, Value.int IntKind.i64 N, Value.slice kq kn kc, Value.int IntKind.i64 nm, Value.int IntKind.u8 fi]
                   (124 : Nat))).alloc
                (Obj.cells #[Value.int IntKind.i64 e, Value.slice aq an ac, Value.int IntKind.i64 z, Value.slice nq nn nc, Value.slice lq ln lc, Value.bool re, Value.bool po] (126 : Nat))).drew.cell?
             (a46.add (4 : Nat)) =
            some (Value.slice q47 n48 n49) ∧
           SX.Ptr p fun (a50 : Addr) =>
            ∃ (s51 : ByteArray),
             ((w.alloc
                     (Obj.cells #[Value.int IntKind.i64 k, Value.string s, Value.slice dq dn dc, Value.int IntKind.i64 N, Value.slice kq kn kc, Value.int IntKind.i64 nm, Value.int IntKind.u8 fi]
                      (124 : Nat))).alloc
                   (Obj.cells #[Value.int IntKind.i64 e, Value.slice aq an ac, Value.int IntKind.i64 z, Value.slice nq nn nc, Value.slice lq ln lc, Value.bool re, Value.bool po]
                    (126 : Nat))).drew.cell?
                (a50.add (5 : Nat)) =
               some (Value.string s51) ∧
              SX.Ptr p fun (a52 : Addr) =>
               ∃ (q53 : Option Addr),
                ∃ (n54 : Nat),
                 ∃ (n55 : Nat),
                  ((w.alloc
                          (Obj.cells
                           #[Value.int IntKind.i64 k, Value.string s, Value.slice dq dn dc, Value.int IntKind.i64 N, Value.slice kq kn kc, Value.int IntKind.i64 nm, Value.int IntKind.u8 fi]
                           (124 : Nat))).alloc
                        (Obj.cells #[Value.int IntKind.i64 e, Value.slice aq an ac, Value.int IntKind.i64 z, Value.slice nq nn nc, Value.slice lq ln lc, Value.bool re, Value.bool po]
                         (126 : Nat))).drew.cell?
                     (a52.add (6 : Nat)) =
                    some (Value.slice q53 n54 n55) ∧
                   (Known
                     ((w.alloc
                         (Obj.cells
                          #[Value.int IntKind.i64 k, Value.string s, Value.slice dq dn dc, Value.int IntKind.i64 N, Value.slice kq kn kc, Value.int IntKind.i64 nm, Value.int IntKind.u8 fi]
                          (124 : Nat))).alloc
                       (Obj.cells #[Value.int IntKind.i64 e, Value.slice aq an ac, Value.int IntKind.i64 z, Value.slice nq nn nc, Value.slice lq ln lc, Value.bool re, Value.bool po]
                        (126 : Nat))).drew
                     [(w.heap.size,
                       [((0 : Nat), Value.int IntKind.i64 k), ((1 : Nat), Value.string s), ((2 : Nat), Value.slice dq dn dc), ((3 : Nat), Value.int IntKind.i64 N),
                        ((4 : Nat), Value.slice kq kn kc), ((5 : Nat), Value.int IntKind.i64 nm), ((6 : Nat), Value.int IntKind.u8 fi)]),
                      ((w.alloc
                          (Obj.cells
                           #[Value.int IntKind.i64 k, Value.string s, Value.slice dq dn dc, Value.int IntKind.i64 N, Value.slice kq kn kc, Value.int IntKind.i64 nm, Value.int IntKind.u8 fi]
                           (124 : Nat))).heap.size,
                       [((0 : Nat), Value.int IntKind.i64 e), ((1 : Nat), Value.slice aq an ac), ((2 : Nat), Value.int IntKind.i64 z), ((3 : Nat), Value.slice nq nn nc),
                        ((4 : Nat), Value.slice lq ln lc), ((5 : Nat), Value.bool re), ((6 : Nat), Value.bool po)])] →
                    Rets Tryd.prog (89 : Nat) #[Value.slice q47 n48 n49, Value.string s51, Value.slice q53 n54 n55]
                     ((w.alloc
                         (Obj.cells
                          #[Value.int IntKind.i64 k, Value.string s, Value.slice dq dn dc, Value.int IntKind.i64 N, Value.slice kq kn kc, Value.int IntKind.i64 nm, Value.int IntKind.u8 fi]
                          (124 : Nat))).alloc
                       (Obj.cells #[Value.int IntKind.i64 e, Value.slice aq an ac, Value.int IntKind.i64 z, Value.slice nq nn nc, Value.slice lq ln lc, Value.bool re, Value.bool po]
                        (126 : Nat))).drew
                     fun (v56 : Value) (w57 : World) =>
                     ∃ (q58 : Option Addr),
                      ∃ (n59 : Nat),
                       ∃ (n60 : Nat),
                        v56 = Value.slice q58 n59 n60 ∧
                         Keeps
                           ((w.alloc
                               (Obj.cells
                                #[Value.int IntKind.i64 k, Value.string s, Value.slice dq dn dc, Value.int IntKind.i64 N, Value.slice kq kn kc, Value.int IntKind.i64 nm,
                                 Value.int IntKind.u8 fi]
                                (124 : Nat))).alloc
                             (Obj.cells #[Value.int IntKind.i64 e, Value.slice aq an ac, Value.int IntKind.i64 z, Value.slice nq nn nc, Value.slice lq ln lc, Value.bool re, Value.bool po]
                              (126 : Nat))).drew
                           w57
                           [w.heap.size,
                            (w.alloc
                               (Obj.cells
                                #[Value.int IntKind.i64 k, Value.string s, Value.slice dq dn dc, Value.int IntKind.i64 N, Value.slice kq kn kc, Value.int IntKind.i64 nm,
                                 Value.int IntKind.u8 fi]
                                (124 : Nat))).heap.size] ∧
                          SX.Ptr p fun (a61 : Addr) =>
                           (∃ (v62 : Value), w57.cell? ((a61.add (4 : Nat)).add (0 : Nat)) = some v62) ∧
                            w57.frozen? ((a61.add (4 : Nat)).add (0 : Nat)) = false ∧
                             Apart ((a61.add (4 : Nat)).add (0 : Nat)) w.heap.size [(0 : Nat), (1 : Nat), (2 : Nat), (3 : Nat), (4 : Nat), (5 : Nat), (6 : Nat)] ∧
                              Apart ((a61.add (4 : Nat)).add (0 : Nat))
                                (w.alloc
                                   (Obj.cells
                                    #[Value.int IntKind.i64 k, Value.string s, Value.slice dq dn dc, Value.int IntKind.i64 N, Value.slice kq kn kc, Value.int IntKind.i64 nm,
                                     Value.int IntKind.u8 fi]
                                    (124 : Nat))).heap.size
                                [(0 : Nat), (1 : Nat), (2 : Nat), (3 : Nat), (4 : Nat), (5 : Nat), (6 : Nat)] ∧
                               SX.Ptr p fun (a63 : Addr) =>
                                (∃ (v64 : Value), (w57.setCell ((a61.add (4 : Nat)).add (0 : Nat)) (Value.slice q58 n59 n60)).cell? ((a63.add (3 : Nat)).add (0 : Nat)) = some v64) ∧
                                 (w57.setCell ((a61.add (4 : Nat)).add (0 : Nat)) (Value.slice q58 n59 n60)).frozen? ((a63.add (3 : Nat)).add (0 : Nat)) = false ∧
                                  Apart ((a63.add (3 : Nat)).add (0 : Nat)) w.heap.size [(0 : Nat), (1 : Nat), (2 : Nat), (3 : Nat), (4 : Nat), (5 : Nat), (6 : Nat)] ∧
                                   Apart ((a63.add (3 : Nat)).add (0 : Nat))
                                     (w.alloc
                                        (Obj.cells
                                         #[Value.int IntKind.i64 k, Value.string s, Value.slice dq dn dc, Value.int IntKind.i64 N, Value.slice kq kn kc, Value.int IntKind.i64 nm,
                                          Value.int IntKind.u8 fi]
                                         (124 : Nat))).heap.size
                                     [(0 : Nat), (1 : Nat), (2 : Nat), (3 : Nat), (4 : Nat), (5 : Nat), (6 : Nat)] ∧
                                    (Known ((w57.setCell ((a61.add (4 : Nat)).add (0 : Nat)) (Value.slice q58 n59 n60)).setCell ((a63.add (3 : Nat)).add (0 : Nat)) (Value.bool false))
                                      [(w.heap.size,
                                        [((0 : Nat), Value.int IntKind.i64 k), ((1 : Nat), Value.string s), ((2 : Nat), Value.slice dq dn dc), ((3 : Nat), Value.int IntKind.i64 N),
                                         ((4 : Nat), Value.slice kq kn kc), ((5 : Nat), Value.int IntKind.i64 nm), ((6 : Nat), Value.int IntKind.u8 fi)]),
                                       ((w.alloc
                                           (Obj.cells
                                            #[Value.int IntKind.i64 k, Value.string s, Value.slice dq dn dc, Value.int IntKind.i64 N, Value.slice kq kn kc,
                                             Value.int IntKind.i64 nm, Value.int IntKind.u8 fi]
                                            (124 : Nat))).heap.size,
                                        [((0 : Nat), Value.int IntKind.i64 e), ((1 : Nat), Value.slice aq an ac), ((2 : Nat), Value.int IntKind.i64 z),
                                         ((3 : Nat), Value.slice nq nn nc), ((4 : Nat), Value.slice lq ln lc), ((5 : Nat), Value.bool re), ((6 : Nat), Value.bool po)])] →
                                     R (Ending.returned (Value.tuple #[]))
                                      ((w57.setCell ((a61.add (4 : Nat)).add (0 : Nat)) (Value.slice q58 n59 n60)).setCell ((a63.add (3 : Nat)).add (0 : Nat)) (Value.bool false))))
     else
      bif k == (7 : Int) then
       SX.Ptr p fun (a65 : Addr) =>
        (∃ (v66 : Value),
          ((w.alloc
                (Obj.cells #[Value.int IntKind.i64 k, Value.string s, Value.slice dq dn dc, Value.int IntKind.i64 N, Value.slice kq kn kc, Value.int IntKind.i64 nm, Value.int IntKind.u8 fi]
                 (124 : Nat))).alloc
              (Obj.cells #[Value.int IntKind.i64 e, Value.slice aq an ac, Value.int IntKind.i64 z, Value.slice nq nn nc, Value.slice lq ln lc, Value.bool re, Value.bool po] (126 : Nat))).cell?
            ((a65.add (3 : Nat)).add (0 : Nat)) =
           some v66) ∧
         ((w.alloc
                (Obj.cells #[Value.int IntKind.i64 k, Value.string s, Value.slice dq dn dc, Value.int IntKind.i64 N, Value.slice kq kn kc, Value.int IntKind.i64 nm, Value.int IntKind.u8 fi]
                 (124 : Nat))).alloc
              (Obj.cells #[Value.int IntKind.i64 e, Value.slice aq an ac, Value.int IntKind.i64 z, Value.slice nq nn nc, Value.slice lq ln lc, Value.bool re, Value.bool po] (126 : Nat))).frozen?
            ((a65.add (3 : Nat)).add (0 : Nat)) =
           false ∧
          Apart ((a65.add (3 : Nat)).add (0 : Nat)) w.heap.size [(0 : Nat), (1 : Nat), (2 : Nat), (3 : Nat), (4 : Nat), (5 : Nat), (6 : Nat)] ∧
           Apart ((a65.add (3 : Nat)).add (0 : Nat))
             (w.alloc
                (Obj.cells #[Value.int IntKind.i64 k, Value.string s, Value.slice dq dn dc, Value.int IntKind.i64 N, Value.slice kq kn kc, Value.int IntKind.i64 nm, Value.int IntKind.u8 fi]
                 (124 : Nat))).heap.size
             [(0 : Nat), (1 : Nat), (2 : Nat), (3 : Nat), (4 : Nat), (5 : Nat), (6 : Nat)] ∧
            (Known
              (((w.alloc
                   (Obj.cells #[Value.int IntKind.i64 k, Value.string s, Value.slice dq dn dc, Value.int IntKind.i64 N, Value.slice kq kn kc, Value.int IntKind.i64 nm, Value.int IntKind.u8 fi]
                    (124 : Nat))).alloc
                 (Obj.cells #[Value.int IntKind.i64 e, Value.slice aq an ac, Value.int IntKind.i64 z, Value.slice nq nn nc, Value.slice lq ln lc, Value.bool re, Value.bool po] (126 : Nat))).setCell
               ((a65.add (3 : Nat)).add (0 : Nat)) (Value.bool false))
              [(w.heap.size,
                [((0 : Nat), Value.int IntKind.i64 k), ((1 : Nat), Value.string s), ((2 : Nat), Value.slice dq dn dc), ((3 : Nat), Value.int IntKind.i64 N), ((4 : Nat), Value.slice kq kn kc),
                 ((5 : Nat), Value.int IntKind.i64 nm), ((6 : Nat), Value.int IntKind.u8 fi)]),
               ((w.alloc
                   (Obj.cells #[Value.int IntKind.i64 k, Value.string s, Value.slice dq dn dc, Value.int IntKind.i64 N, Value.slice kq kn kc, Value.int IntKind.i64 nm, Value.int IntKind.u8 fi]
                    (124 : Nat))).heap.size,
                [((0 : Nat), Value.int IntKind.i64 e), ((1 : Nat), Value.slice aq an ac), ((2 : Nat), Value.int IntKind.i64 z), ((3 : Nat), Value.slice nq nn nc), ((4 : Nat), Value.slice lq ln lc),
                 ((5 : Nat), Value.bool re), ((6 : Nat), Value.bool po)])] →
             R (Ending.returned (Value.tuple #[]))
              (((w.alloc
                   (Obj.cells #[Value.int IntKind.i64 k, Value.string s, Value.slice dq dn dc, Value.int IntKind.i64 N, Value.slice kq kn kc, Value.int IntKind.i64 nm, Value.int IntKind.u8 fi]
                    (124 : Nat))).alloc
                 (Obj.cells #[Value.int IntKind.i64 e, Value.slice aq an ac, Value.int IntKind.i64 z, Value.slice nq nn nc, Value.slice lq ln lc, Value.bool re, Value.bool po] (126 : Nat))).setCell
               ((a65.add (3 : Nat)).add (0 : Nat)) (Value.bool false)))
      else
       bif k == (11 : Int) then
        SX.Ptr p fun (a67 : Addr) =>
         ∃ (q68 : Option Addr),
          ∃ (n69 : Nat),
           ∃ (n70 : Nat),
            ((w.alloc
                    (Obj.cells #[Value.int IntKind.i64 k, Value.string s, Value.slice dq dn dc, Value.int IntKind.i64 N, Value.slice kq kn kc, Value.int IntKind.i64 nm, Value.int IntKind.u8 fi]
                     (124 : Nat))).alloc
                  (Obj.cells #[Value.int IntKind.i64 e, Value.slice aq an ac, Value.int IntKind.i64 z, Value.slice nq nn nc, Value.slice lq ln lc, Value.bool re, Value.bool po] (126 : Nat))).drew.cell?
               (a67.add (4 : Nat)) =
              some (Value.slice q68 n69 n70) ∧
             (Known
               ((w.alloc
                   (Obj.cells #[Value.int IntKind.i64 k, Value.string s, Value.slice dq dn dc, Value.int IntKind.i64 N, Value.slice kq kn kc, Value.int IntKind.i64 nm, Value.int IntKind.u8 fi]
                    (124 : Nat))).alloc
                 (Obj.cells #[Value.int IntKind.i64 e, Value.slice aq an ac, Value.int IntKind.i64 z, Value.slice nq nn nc, Value.slice lq ln lc, Value.bool re, Value.bool po] (126 : Nat))).drew
               [(w.heap.size,
                 [((0 : Nat), Value.int IntKind.i64 k), ((1 : Nat), Value.string s), ((2 : Nat), Value.slice dq dn dc), ((3 : Nat), Value.int IntKind.i64 N), ((4 : Nat), Value.slice kq kn kc),
                  ((5 : Nat), Value.int IntKind.i64 nm), ((6 : Nat), Value.int IntKind.u8 fi)]),
                ((w.alloc
                    (Obj.cells #[Value.int IntKind.i64 k, Value.string s, Value.slice dq dn dc, Value.int IntKind.i64 N, Value.slice kq kn kc, Value.int IntKind.i64 nm, Value.int IntKind.u8 fi]
                     (124 : Nat))).heap.size,
                 [((0 : Nat), Value.int IntKind.i64 e), ((1 : Nat), Value.slice aq an ac), ((2 : Nat), Value.int IntKind.i64 z), ((3 : Nat), Value.slice nq nn nc), ((4 : Nat), Value.slice lq ln lc),
                  ((5 : Nat), Value.bool re), ((6 : Nat), Value.bool po)])] →
              Rets Tryd.prog (90 : Nat) #[Value.slice q68 n69 n70, Value.string s]
               ((w.alloc
                   (Obj.cells #[Value.int IntKind.i64 k, Value.string s, Value.slice dq dn dc, Value.int IntKind.i64 N, Value.slice kq kn kc, Value.int IntKind.i64 nm, Value.int IntKind.u8 fi]
                    (124 : Nat))).alloc
                 (Obj.cells #[Value.int IntKind.i64 e, Value.slice aq an ac, Value.int IntKind.i64 z, Value.slice nq nn nc, Value.slice lq ln lc, Value.bool re, Value.bool po] (126 : Nat))).drew
               fun (v71 : Value) (w72 : World) =>
               ∃ (q73 : Option Addr),
                ∃ (n74 : Nat),
                 ∃ (n75 : Nat),
                  v71 = Value.slice q73 n74 n75 ∧
                   Keeps
                     ((w.alloc
                         (Obj.cells
                          #[Value.int IntKind.i64 k, Value.string s, Value.slice dq dn dc, Value.int IntKind.i64 N, Value.slice kq kn kc, Value.int IntKind.i64 nm, Value.int IntKind.u8 fi]
                          (124 : Nat))).alloc
                       (Obj.cells #[Value.int IntKind.i64 e, Value.slice aq an ac, Value.int IntKind.i64 z, Value.slice nq nn nc, Value.slice lq ln lc, Value.bool re, Value.bool po]
                        (126 : Nat))).drew
                     w72
                     [w.heap.size,
                      (w.alloc
                         (Obj.cells
                          #[Value.int IntKind.i64 k, Value.string s, Value.slice dq dn dc, Value.int IntKind.i64 N, Value.slice kq kn kc, Value.int IntKind.i64 nm, Value.int IntKind.u8 fi]
                          (124 : Nat))).heap.size] ∧
                    SX.Ptr p fun (a76 : Addr) =>
                     (∃ (v77 : Value), w72.cell? ((a76.add (4 : Nat)).add (0 : Nat)) = some v77) ∧
                      w72.frozen? ((a76.add (4 : Nat)).add (0 : Nat)) = false ∧
                       Apart ((a76.add (4 : Nat)).add (0 : Nat)) w.heap.size [(0 : Nat), (1 : Nat), (2 : Nat), (3 : Nat), (4 : Nat), (5 : Nat), (6 : Nat)] ∧
                        Apart ((a76.add (4 : Nat)).add (0 : Nat))
                          (w.alloc
                             (Obj.cells
                              #[Value.int IntKind.i64 k, Value.string s, Value.slice dq dn dc, Value.int IntKind.i64 N, Value.slice kq kn kc, Value.int IntKind.i64 nm,
                               Value.int IntKind.u8 fi]
                              (124 : Nat))).heap.size
                          [(0 : Nat), (1 : Nat), (2 : Nat), (3 : Nat), (4 : Nat), (5 : Nat), (6 : Nat)] ∧
                         (Known (w72.setCell ((a76.add (4 : Nat)).add (0 : Nat)) (Value.slice q73 n74 n75))
                           [(w.heap.size,
                             [((0 : Nat), Value.int IntKind.i64 k), ((1 : Nat), Value.string s), ((2 : Nat), Value.slice dq dn dc), ((3 : Nat), Value.int IntKind.i64 N),
                              ((4 : Nat), Value.slice kq kn kc), ((5 : Nat), Value.int IntKind.i64 nm), ((6 : Nat), Value.int IntKind.u8 fi)]),
                            ((w.alloc
                                (Obj.cells
                                 #[Value.int IntKind.i64 k, Value.string s, Value.slice dq dn dc, Value.int IntKind.i64 N, Value.slice kq kn kc, Value.int IntKind.i64 nm,
                                  Value.int IntKind.u8 fi]
                                 (124 : Nat))).heap.size,
                             [((0 : Nat), Value.int IntKind.i64 e), ((1 : Nat), Value.slice aq an ac), ((2 : Nat), Value.int IntKind.i64 z), ((3 : Nat), Value.slice nq nn nc),
                              ((4 : Nat), Value.slice lq ln lc), ((5 : Nat), Value.bool re), ((6 : Nat), Value.bool po)])] →
                          R (Ending.returned (Value.tuple #[])) (w72.setCell ((a76.add (4 : Nat)).add (0 : Nat)) (Value.slice q73 n74 n75))))
       else
        bif k == (12 : Int) then
         bif k == (12 : Int) then
          SX.Ptr p fun (a78 : Addr) =>
           ∃ (q79 : Option Addr),
            ∃ (n80 : Nat),
             ∃ (n81 : Nat),
              ((w.alloc
                     (Obj.cells #[Value.int IntKind.i64 k, Value.string s, Value.slice dq dn dc, Value.int IntKind.i64 N, Value.slice kq kn kc, Value.int IntKind.i64 nm, Value.int IntKind.u8 fi]
                      (124 : Nat))).alloc
                   (Obj.cells #[Value.int IntKind.i64 e, Value.slice aq an ac, Value.int IntKind.i64 z, Value.slice nq nn nc, Value.slice lq ln lc, Value.bool re, Value.bool po] (126 : Nat))).cell?
                 (a78.add (4 : Nat)) =
                some (Value.slice q79 n80 n81) ∧
               (Known
                 ((w.alloc
                    (Obj.cells #[Value.int IntKind.i64 k, Value.string s, Value.slice dq dn dc, Value.int IntKind.i64 N, Value.slice kq kn kc, Value.int IntKind.i64 nm, Value.int IntKind.u8 fi]
                     (124 : Nat))).alloc
                  (Obj.cells #[Value.int IntKind.i64 e, Value.slice aq an ac, Value.int IntKind.i64 z, Value.slice nq nn nc, Value.slice lq ln lc, Value.bool re, Value.bool po] (126 : Nat)))
                 [(w.heap.size,
                   [((0 : Nat), Value.int IntKind.i64 k), ((1 : Nat), Value.string s), ((2 : Nat), Value.slice dq dn dc), ((3 : Nat), Value.int IntKind.i64 N), ((4 : Nat), Value.slice kq kn kc),
                    ((5 : Nat), Value.int IntKind.i64 nm), ((6 : Nat), Value.int IntKind.u8 fi)]),
                  ((w.alloc
                      (Obj.cells #[Value.int IntKind.i64 k, Value.string s, Value.slice dq dn dc, Value.int IntKind.i64 N, Value.slice kq kn kc, Value.int IntKind.i64 nm, Value.int IntKind.u8 fi]
                       (124 : Nat))).heap.size,
                   [((0 : Nat), Value.int IntKind.i64 e), ((1 : Nat), Value.slice aq an ac), ((2 : Nat), Value.int IntKind.i64 z), ((3 : Nat), Value.slice nq nn nc), ((4 : Nat), Value.slice lq ln lc),
                    ((5 : Nat), Value.bool re), ((6 : Nat), Value.bool po)])] →
                Rets Tryd.prog (139 : Nat) #[Value.slice q79 n80 n81]
                 ((w.alloc
                    (Obj.cells #[Value.int IntKind.i64 k, Value.string s, Value.slice dq dn dc, Value.int IntKind.i64 N, Value.slice kq kn kc, Value.int IntKind.i64 nm, Value.int IntKind.u8 fi]
                     (124 : Nat))).alloc
                  (Obj.cells #[Value.int IntKind.i64 e, Value.slice aq an ac, Value.int IntKind.i64 z, Value.slice nq nn nc, Value.slice lq ln lc, Value.bool re, Value.bool po] (126 : Nat)))
                 fun (v82 : Value) (w83 : World) =>
                 ∃ (q84 : Option Addr),
                  ∃ (n85 : Nat),
                   ∃ (n86 : Nat),
                    v82 = Value.slice q84 n85 n86 ∧
                     Keeps
                       ((w.alloc
                          (Obj.cells
                           #[Value.int IntKind.i64 k, Value.string s, Value.slice dq dn dc, Value.int IntKind.i64 N, Value.slice kq kn kc, Value.int IntKind.i64 nm, Value.int IntKind.u8 fi]
                           (124 : Nat))).alloc
                        (Obj.cells #[Value.int IntKind.i64 e, Value.slice aq an ac, Value.int IntKind.i64 z, Value.slice nq nn nc, Value.slice lq ln lc, Value.bool re, Value.bool po] (126 : Nat)))
                       w83
                       [w.heap.size,
                        (w.alloc
                           (Obj.cells
                            #[Value.int IntKind.i64 k, Value.string s, Value.slice dq dn dc, Value.int IntKind.i64 N, Value.slice kq kn kc, Value.int IntKind.i64 nm, Value.int IntKind.u8 fi]
                            (124 : Nat))).heap.size] ∧
                      SX.Ptr p fun (a87 : Addr) =>
                       (∃ (v88 : Value), (w83.alloc (Obj.cells #[Value.bool true, Value.slice q84 n85 n86] (130 : Nat))).cell? ((a87.add (0 : Nat)).add (0 : Nat)) = some v88) ∧
                        (w83.alloc (Obj.cells #[Value.bool true, Value.slice q84 n85 n86] (130 : Nat))).frozen? ((a87.add (0 : Nat)).add (0 : Nat)) = false ∧
                         Apart ((a87.add (0 : Nat)).add (0 : Nat)) w.heap.size [(0 : Nat), (1 : Nat), (2 : Nat), (3 : Nat), (4 : Nat), (5 : Nat), (6 : Nat)] ∧
                          Apart ((a87.add (0 : Nat)).add (0 : Nat))
                            (w.alloc
                               (Obj.cells
                                #[Value.int IntKind.i64 k, Value.string s, Value.slice dq dn dc, Value.int IntKind.i64 N, Value.slice kq kn kc, Value.int IntKind.i64 nm,
                                 Value.int IntKind.u8 fi]
                                (124 : Nat))).heap.size
                            [(0 : Nat), (1 : Nat), (2 : Nat), (3 : Nat), (4 : Nat), (5 : Nat), (6 : Nat)] ∧
                           (Known
                             ((w83.alloc (Obj.cells #[Value.bool true, Value.slice q84 n85 n86] (130 : Nat))).setCell ((a87.add (0 : Nat)).add (0 : Nat))
                              (Value.slice (some { block := w83.heap.size, off := (0 : Nat) }) (1 : Nat) (1 : Nat)))
                             [(w.heap.size,
                               [((0 : Nat), Value.int IntKind.i64 k), ((1 : Nat), Value.string s), ((2 : Nat), Value.slice dq dn dc), ((3 : Nat), Value.int IntKind.i64 N),
                                ((4 : Nat), Value.slice kq kn kc), ((5 : Nat), Value.int IntKind.i64 nm), ((6 : Nat), Value.int IntKind.u8 fi)]),
                              ((w.alloc
                                  (Obj.cells
                                   #[Value.int IntKind.i64 k, Value.string s, Value.slice dq dn dc, Value.int IntKind.i64 N, Value.slice kq kn kc, Value.int IntKind.i64 nm,
                                    Value.int IntKind.u8 fi]
                                   (124 : Nat))).heap.size,
                               [((0 : Nat), Value.int IntKind.i64 e), ((1 : Nat), Value.slice aq an ac), ((2 : Nat), Value.int IntKind.i64 z), ((3 : Nat), Value.slice nq nn nc),
                                ((4 : Nat), Value.slice lq ln lc), ((5 : Nat), Value.bool re), ((6 : Nat), Value.bool po)])] →
                            R (Ending.returned (Value.tuple #[]))
                             ((w83.alloc (Obj.cells #[Value.bool true, Value.slice q84 n85 n86] (130 : Nat))).setCell ((a87.add (0 : Nat)).add (0 : Nat))
                              (Value.slice (some { block := w83.heap.size, off := (0 : Nat) }) (1 : Nat) (1 : Nat)))))
         else
          Known
            ((w.alloc
               (Obj.cells #[Value.int IntKind.i64 k, Value.string s, Value.slice dq dn dc, Value.int IntKind.i64 N, Value.slice kq kn kc, Value.int IntKind.i64 nm, Value.int IntKind.u8 fi]
                (124 : Nat))).alloc
             (Obj.cells #[Value.int IntKind.i64 e, Value.slice aq an ac, Value.int IntKind.i64 z, Value.slice nq nn nc, Value.slice lq ln lc, Value.bool re, Value.bool po] (126 : Nat)))
            [(w.heap.size,
              [((0 : Nat), Value.int IntKind.i64 k), ((1 : Nat), Value.string s), ((2 : Nat), Value.slice dq dn dc), ((3 : Nat), Value.int IntKind.i64 N), ((4 : Nat), Value.slice kq kn kc),
               ((5 : Nat), Value.int IntKind.i64 nm), ((6 : Nat), Value.int IntKind.u8 fi)]),
             ((w.alloc
                 (Obj.cells #[Value.int IntKind.i64 k, Value.string s, Value.slice dq dn dc, Value.int IntKind.i64 N, Value.slice kq kn kc, Value.int IntKind.i64 nm, Value.int IntKind.u8 fi]
                  (124 : Nat))).heap.size,
              [((0 : Nat), Value.int IntKind.i64 e), ((1 : Nat), Value.slice aq an ac), ((2 : Nat), Value.int IntKind.i64 z), ((3 : Nat), Value.slice nq nn nc), ((4 : Nat), Value.slice lq ln lc),
               ((5 : Nat), Value.bool re), ((6 : Nat), Value.bool po)])] →
           R (Ending.returned (Value.tuple #[]))
            ((w.alloc
               (Obj.cells #[Value.int IntKind.i64 k, Value.string s, Value.slice dq dn dc, Value.int IntKind.i64 N, Value.slice kq kn kc, Value.int IntKind.i64 nm, Value.int IntKind.u8 fi]
                (124 : Nat))).alloc
             (Obj.cells #[Value.int IntKind.i64 e, Value.slice aq an ac, Value.int IntKind.i64 z, Value.slice nq nn nc, Value.slice lq ln lc, Value.bool re, Value.bool po] (126 : Nat)))
        else
         bif k == (13 : Int) then
          bif k == (13 : Int) then
           SX.Ptr p fun (a89 : Addr) =>
            ∃ (q90 : Option Addr),
             ∃ (n91 : Nat),
              ∃ (n92 : Nat),
               ((w.alloc
                      (Obj.cells #[Value.int IntKind.i64 k, Value.string s, Value.slice dq dn dc, Value.int IntKind.i64 N, Value.slice kq kn kc, Value.int IntKind.i64 nm, Value.int IntKind.u8 fi]
                       (124 : Nat))).alloc
                    (Obj.cells #[Value.int IntKind.i64 e, Value.slice aq an ac, Value.int IntKind.i64 z, Value.slice nq nn nc, Value.slice lq ln lc, Value.bool re, Value.bool po] (126 : Nat))).cell?
                  (a89.add (4 : Nat)) =
                 some (Value.slice q90 n91 n92) ∧
                (Known
                  ((w.alloc
                     (Obj.cells #[Value.int IntKind.i64 k, Value.string s, Value.slice dq dn dc, Value.int IntKind.i64 N, Value.slice kq kn kc, Value.int IntKind.i64 nm, Value.int IntKind.u8 fi]
                      (124 : Nat))).alloc
                   (Obj.cells #[Value.int IntKind.i64 e, Value.slice aq an ac, Value.int IntKind.i64 z, Value.slice nq nn nc, Value.slice lq ln lc, Value.bool re, Value.bool po] (126 : Nat)))
                  [(w.heap.size,
                    [((0 : Nat), Value.int IntKind.i64 k), ((1 : Nat), Value.string s), ((2 : Nat), Value.slice dq dn dc), ((3 : Nat), Value.int IntKind.i64 N), ((4 : Nat), Value.slice kq kn kc),
                     ((5 : Nat), Value.int IntKind.i64 nm), ((6 : Nat), Value.int IntKind.u8 fi)]),
                   ((w.alloc
                       (Obj.cells #[Value.int IntKind.i64 k, Value.string s, Value.slice dq dn dc, Value.int IntKind.i64 N, Value.slice kq kn kc, Value.int IntKind.i64 nm, Value.int IntKind.u8 fi]
                        (124 : Nat))).heap.size,
                    [((0 : Nat), Value.int IntKind.i64 e), ((1 : Nat), Value.slice aq an ac), ((2 : Nat), Value.int IntKind.i64 z), ((3 : Nat), Value.slice nq nn nc),
                     ((4 : Nat), Value.slice lq ln lc), ((5 : Nat), Value.bool re), ((6 : Nat), Value.bool po)])] →
                 Rets Tryd.prog (139 : Nat) #[Value.slice q90 n91 n92]
                  ((w.alloc
                     (Obj.cells #[Value.int IntKind.i64 k, Value.string s, Value.slice dq dn dc, Value.int IntKind.i64 N, Value.slice kq kn kc, Value.int IntKind.i64 nm, Value.int IntKind.u8 fi]
                      (124 : Nat))).alloc
                   (Obj.cells #[Value.int IntKind.i64 e, Value.slice aq an ac, Value.int IntKind.i64 z, Value.slice nq nn nc, Value.slice lq ln lc, Value.bool re, Value.bool po] (126 : Nat)))
                  fun (v93 : Value) (w94 : World) =>
                  ∃ (q95 : Option Addr),
                   ∃ (n96 : Nat),
                    ∃ (n97 : Nat),
                     v93 = Value.slice q95 n96 n97 ∧
                      Keeps
                        ((w.alloc
                           (Obj.cells
                            #[Value.int IntKind.i64 k, Value.string s, Value.slice dq dn dc, Value.int IntKind.i64 N, Value.slice kq kn kc, Value.int IntKind.i64 nm, Value.int IntKind.u8 fi]
                            (124 : Nat))).alloc
                         (Obj.cells #[Value.int IntKind.i64 e, Value.slice aq an ac, Value.int IntKind.i64 z, Value.slice nq nn nc, Value.slice lq ln lc, Value.bool re, Value.bool po]
                          (126 : Nat)))
                        w94
                        [w.heap.size,
                         (w.alloc
                            (Obj.cells
                             #[Value.int IntKind.i64 k, Value.string s, Value.slice dq dn dc, Value.int IntKind.i64 N, Value.slice kq kn kc, Value.int IntKind.i64 nm, Value.int IntKind.u8 fi]
                             (124 : Nat))).heap.size] ∧
                       SX.Ptr p fun (a98 : Addr) =>
                        (∃ (v99 : Value), (w94.alloc (Obj.cells #[Value.bool true, Value.slice q95 n96 n97] (130 : Nat))).cell? ((a98.add (0 : Nat)).add (0 : Nat)) = some v99) ∧
                         (w94.alloc (Obj.cells #[Value.bool true, Value.slice q95 n96 n97] (130 : Nat))).frozen? ((a98.add (0 : Nat)).add (0 : Nat)) = false ∧
                          Apart ((a98.add (0 : Nat)).add (0 : Nat)) w.heap.size [(0 : Nat), (1 : Nat), (2 : Nat), (3 : Nat), (4 : Nat), (5 : Nat), (6 : Nat)] ∧
                           Apart ((a98.add (0 : Nat)).add (0 : Nat))
                             (w.alloc
                                (Obj.cells
                                 #[Value.int IntKind.i64 k, Value.string s, Value.slice dq dn dc, Value.int IntKind.i64 N, Value.slice kq kn kc, Value.int IntKind.i64 nm,
                                  Value.int IntKind.u8 fi]
                                 (124 : Nat))).heap.size
                             [(0 : Nat), (1 : Nat), (2 : Nat), (3 : Nat), (4 : Nat), (5 : Nat), (6 : Nat)] ∧
                            (Known
                              ((w94.alloc (Obj.cells #[Value.bool true, Value.slice q95 n96 n97] (130 : Nat))).setCell ((a98.add (0 : Nat)).add (0 : Nat))
                               (Value.slice (some { block := w94.heap.size, off := (0 : Nat) }) (1 : Nat) (1 : Nat)))
                              [(w.heap.size,
                                [((0 : Nat), Value.int IntKind.i64 k), ((1 : Nat), Value.string s), ((2 : Nat), Value.slice dq dn dc), ((3 : Nat), Value.int IntKind.i64 N),
                                 ((4 : Nat), Value.slice kq kn kc), ((5 : Nat), Value.int IntKind.i64 nm), ((6 : Nat), Value.int IntKind.u8 fi)]),
                               ((w.alloc
                                   (Obj.cells
                                    #[Value.int IntKind.i64 k, Value.string s, Value.slice dq dn dc, Value.int IntKind.i64 N, Value.slice kq kn kc, Value.int IntKind.i64 nm,
                                     Value.int IntKind.u8 fi]
                                    (124 : Nat))).heap.size,
                                [((0 : Nat), Value.int IntKind.i64 e), ((1 : Nat), Value.slice aq an ac), ((2 : Nat), Value.int IntKind.i64 z), ((3 : Nat), Value.slice nq nn nc),
                                 ((4 : Nat), Value.slice lq ln lc), ((5 : Nat), Value.bool re), ((6 : Nat), Value.bool po)])] →
                             R (Ending.returned (Value.tuple #[]))
                              ((w94.alloc (Obj.cells #[Value.bool true, Value.slice q95 n96 n97] (130 : Nat))).setCell ((a98.add (0 : Nat)).add (0 : Nat))
                               (Value.slice (some { block := w94.heap.size, off := (0 : Nat) }) (1 : Nat) (1 : Nat)))))
          else
           Known
             ((w.alloc
                (Obj.cells #[Value.int IntKind.i64 k, Value.string s, Value.slice dq dn dc, Value.int IntKind.i64 N, Value.slice kq kn kc, Value.int IntKind.i64 nm, Value.int IntKind.u8 fi]
                 (124 : Nat))).alloc
              (Obj.cells #[Value.int IntKind.i64 e, Value.slice aq an ac, Value.int IntKind.i64 z, Value.slice nq nn nc, Value.slice lq ln lc, Value.bool re, Value.bool po] (126 : Nat)))
             [(w.heap.size,
               [((0 : Nat), Value.int IntKind.i64 k), ((1 : Nat), Value.string s), ((2 : Nat), Value.slice dq dn dc), ((3 : Nat), Value.int IntKind.i64 N), ((4 : Nat), Value.slice kq kn kc),
                ((5 : Nat), Value.int IntKind.i64 nm), ((6 : Nat), Value.int IntKind.u8 fi)]),
              ((w.alloc
                  (Obj.cells #[Value.int IntKind.i64 k, Value.string s, Value.slice dq dn dc, Value.int IntKind.i64 N, Value.slice kq kn kc, Value.int IntKind.i64 nm, Value.int IntKind.u8 fi]
                   (124 : Nat))).heap.size,
               [((0 : Nat), Value.int IntKind.i64 e), ((1 : Nat), Value.slice aq an ac), ((2 : Nat), Value.int IntKind.i64 z), ((3 : Nat), Value.slice nq nn nc), ((4 : Nat), Value.slice lq ln lc),
                ((5 : Nat), Value.bool re), ((6 : Nat), Value.bool po)])] →
            R (Ending.returned (Value.tuple #[]))
             ((w.alloc
                (Obj.cells #[Value.int IntKind.i64 k, Value.string s, Value.slice dq dn dc, Value.int IntKind.i64 N, Value.slice kq kn kc, Value.int IntKind.i64 nm, Value.int IntKind.u8 fi]
                 (124 : Nat))).alloc
              (Obj.cells #[Value.int IntKind.i64 e, Value.slice aq an ac, Value.int IntKind.i64 z, Value.slice nq nn nc, Value.slice lq ln lc, Value.bool re, Value.bool po] (126 : Nat)))
         else
          bif k == (14 : Int) then
           SX.Ptr p fun (a100 : Addr) =>
            ∃ (q101 : Option Addr),
             ∃ (n102 : Nat),
              ∃ (n103 : Nat),
               ((w.alloc
                      (Obj.cells #[Value.int IntKind.i64 k, Value.string s, Value.slice dq dn dc, Value.int IntKind.i64 N, Value.slice kq kn kc, Value.int IntKind.i64 nm, Value.int IntKind.u8 fi]
                       (124 : Nat))).alloc
                    (Obj.cells #[Value.int IntKind.i64 e, Value.slice aq an ac, Value.int IntKind.i64 z, Value.slice nq nn nc, Value.slice lq ln lc, Value.bool re, Value.bool po] (126 : Nat))).cell?
                  (a100.add (4 : Nat)) =
                 some (Value.slice q101 n102 n103) ∧
                (Known
                  ((w.alloc
                     (Obj.cells #[Value.int IntKind.i64 k, Value.string s, Value.slice dq dn dc, Value.int IntKind.i64 N, Value.slice kq kn kc, Value.int IntKind.i64 nm, Value.int IntKind.u8 fi]
                      (124 : Nat))).alloc
                   (Obj.cells #[Value.int IntKind.i64 e, Value.slice aq an ac, Value.int IntKind.i64 z, Value.slice nq nn nc, Value.slice lq ln lc, Value.bool re, Value.bool po] (126 : Nat)))
                  [(w.heap.size,
                    [((0 : Nat), Value.int IntKind.i64 k), ((1 : Nat), Value.string s), ((2 : Nat), Value.slice dq dn dc), ((3 : Nat), Value.int IntKind.i64 N), ((4 : Nat), Value.slice kq kn kc),
                     ((5 : Nat), Value.int IntKind.i64 nm), ((6 : Nat), Value.int IntKind.u8 fi)]),
                   ((w.alloc
                       (Obj.cells #[Value.int IntKind.i64 k, Value.string s, Value.slice dq dn dc, Value.int IntKind.i64 N, Value.slice kq kn kc, Value.int IntKind.i64 nm, Value.int IntKind.u8 fi]
                        (124 : Nat))).heap.size,
                    [((0 : Nat), Value.int IntKind.i64 e), ((1 : Nat), Value.slice aq an ac), ((2 : Nat), Value.int IntKind.i64 z), ((3 : Nat), Value.slice nq nn nc),
                     ((4 : Nat), Value.slice lq ln lc), ((5 : Nat), Value.bool re), ((6 : Nat), Value.bool po)])] →
                 Rets Tryd.prog (139 : Nat) #[Value.slice q101 n102 n103]
                  ((w.alloc
                     (Obj.cells #[Value.int IntKind.i64 k, Value.string s, Value.slice dq dn dc, Value.int IntKind.i64 N, Value.slice kq kn kc, Value.int IntKind.i64 nm, Value.int IntKind.u8 fi]
                      (124 : Nat))).alloc
                   (Obj.cells #[Value.int IntKind.i64 e, Value.slice aq an ac, Value.int IntKind.i64 z, Value.slice nq nn nc, Value.slice lq ln lc, Value.bool re, Value.bool po] (126 : Nat)))
                  fun (v104 : Value) (w105 : World) =>
                  ∃ (q106 : Option Addr),
                   ∃ (n107 : Nat),
                    ∃ (n108 : Nat),
                     v104 = Value.slice q106 n107 n108 ∧
                      Keeps
                        ((w.alloc
                           (Obj.cells
                            #[Value.int IntKind.i64 k, Value.string s, Value.slice dq dn dc, Value.int IntKind.i64 N, Value.slice kq kn kc, Value.int IntKind.i64 nm, Value.int IntKind.u8 fi]
                            (124 : Nat))).alloc
                         (Obj.cells #[Value.int IntKind.i64 e, Value.slice aq an ac, Value.int IntKind.i64 z, Value.slice nq nn nc, Value.slice lq ln lc, Value.bool re, Value.bool po]
                          (126 : Nat)))
                        w105
                        [w.heap.size,
                         (w.alloc
                            (Obj.cells
                             #[Value.int IntKind.i64 k, Value.string s, Value.slice dq dn dc, Value.int IntKind.i64 N, Value.slice kq kn kc, Value.int IntKind.i64 nm, Value.int IntKind.u8 fi]
                             (124 : Nat))).heap.size] ∧
                       SX.Ptr p fun (a109 : Addr) =>
                        (∃ (v110 : Value), (w105.alloc (Obj.cells #[Value.bool true, Value.slice q106 n107 n108] (130 : Nat))).cell? ((a109.add (0 : Nat)).add (0 : Nat)) = some v110) ∧
                         (w105.alloc (Obj.cells #[Value.bool true, Value.slice q106 n107 n108] (130 : Nat))).frozen? ((a109.add (0 : Nat)).add (0 : Nat)) = false ∧
                          Apart ((a109.add (0 : Nat)).add (0 : Nat)) w.heap.size [(0 : Nat), (1 : Nat), (2 : Nat), (3 : Nat), (4 : Nat), (5 : Nat), (6 : Nat)] ∧
                           Apart ((a109.add (0 : Nat)).add (0 : Nat))
                             (w.alloc
                                (Obj.cells
                                 #[Value.int IntKind.i64 k, Value.string s, Value.slice dq dn dc, Value.int IntKind.i64 N, Value.slice kq kn kc, Value.int IntKind.i64 nm,
                                  Value.int IntKind.u8 fi]
                                 (124 : Nat))).heap.size
                             [(0 : Nat), (1 : Nat), (2 : Nat), (3 : Nat), (4 : Nat), (5 : Nat), (6 : Nat)] ∧
                            (Known
                              ((w105.alloc (Obj.cells #[Value.bool true, Value.slice q106 n107 n108] (130 : Nat))).setCell ((a109.add (0 : Nat)).add (0 : Nat))
                               (Value.slice (some { block := w105.heap.size, off := (0 : Nat) }) (1 : Nat) (1 : Nat)))
                              [(w.heap.size,
                                [((0 : Nat), Value.int IntKind.i64 k), ((1 : Nat), Value.string s), ((2 : Nat), Value.slice dq dn dc), ((3 : Nat), Value.int IntKind.i64 N),
                                 ((4 : Nat), Value.slice kq kn kc), ((5 : Nat), Value.int IntKind.i64 nm), ((6 : Nat), Value.int IntKind.u8 fi)]),
                               ((w.alloc
                                   (Obj.cells
                                    #[Value.int IntKind.i64 k, Value.string s, Value.slice dq dn dc, Value.int IntKind.i64 N, Value.slice kq kn kc, Value.int IntKind.i64 nm,
                                     Value.int IntKind.u8 fi]
                                    (124 : Nat))).heap.size,
                                [((0 : Nat), Value.int IntKind.i64 e), ((1 : Nat), Value.slice aq an ac), ((2 : Nat), Value.int IntKind.i64 z), ((3 : Nat), Value.slice nq nn nc),
                                 ((4 : Nat), Value.slice lq ln lc), ((5 : Nat), Value.bool re), ((6 : Nat), Value.bool po)])] →
                             R (Ending.returned (Value.tuple #[]))
                              ((w105.alloc (Obj.cells #[Value.bool true, Value.slice q106 n107 n108] (130 : Nat))).setCell ((a109.add (0 : Nat)).add (0 : Nat))
                               (Value.slice (some { block := w105.heap.size, off := (0 : Nat) }) (1 : Nat) (1 : Nat)))))
          else
           Known
             ((w.alloc
                (Obj.cells #[Value.int IntKind.i64 k, Value.string s, Value.slice dq dn dc, Value.int IntKind.i64 N, Value.slice kq kn kc, Value.int IntKind.i64 nm, Value.int IntKind.u8 fi]
                 (124 : Nat))).alloc
              (Obj.cells #[Value.int IntKind.i64 e, Value.slice aq an ac, Value.int IntKind.i64 z, Value.slice nq nn nc, Value.slice lq ln lc, Value.bool re, Value.bool po] (126 : Nat)))
             [(w.heap.size,
               [((0 : Nat), Value.int IntKind.i64 k), ((1 : Nat), Value.string s), ((2 : Nat), Value.slice dq dn dc), ((3 : Nat), Value.int IntKind.i64 N), ((4 : Nat), Value.slice kq kn kc),
                ((5 : Nat), Value.int IntKind.i64 nm), ((6 : Nat), Value.int IntKind.u8 fi)]),
              ((w.alloc
                  (Obj.cells #[Value.int IntKind.i64 k, Value.string s, Value.slice dq dn dc, Value.int IntKind.i64 N, Value.slice kq kn kc, Value.int IntKind.i64 nm, Value.int IntKind.u8 fi]
                   (124 : Nat))).heap.size,
               [((0 : Nat), Value.int IntKind.i64 e), ((1 : Nat), Value.slice aq an ac), ((2 : Nat), Value.int IntKind.i64 z), ((3 : Nat), Value.slice nq nn nc), ((4 : Nat), Value.slice lq ln lc),
                ((5 : Nat), Value.bool re), ((6 : Nat), Value.bool po)])] →
            R (Ending.returned (Value.tuple #[]))
             ((w.alloc
                (Obj.cells #[Value.int IntKind.i64 k, Value.string s, Value.slice dq dn dc, Value.int IntKind.i64 N, Value.slice kq kn kc, Value.int IntKind.i64 nm, Value.int IntKind.u8 fi]
                 (124 : Nat))).alloc
              (Obj.cells #[Value.int IntKind.i64 e, Value.slice aq an ac, Value.int IntKind.i64 z, Value.slice nq nn nc, Value.slice lq ln lc, Value.bool re, Value.bool po] (126 : Nat)))
theorem vcTryd146 (p : Option Addr) (k : Int) (s : ByteArray) (dq : Option Addr) (dn dc : Nat) (N : Int) (kq : Option Addr) (kn kc : Nat) (nm fi : Int) (e : Int) (aq : Option Addr) (an ac : Nat) (z : Int) (nq : Option Addr) (nn nc : Nat) (lq : Option Addr) (ln lc : Nat) (re po : Bool) (w : World) (R : Ending → World → Prop) : SX.vcFn Tryd.prog [] Tryd.f146 [.v (.pointer p), .v (.agg #[.int .i64 k, .string s, .slice dq dn dc, .int .i64 N, .slice kq kn kc, .int .i64 nm, .int .u8 fi]), .v (.agg #[.int .i64 e, .slice aq an ac, .int .i64 z, .slice nq nn nc, .slice lq ln lc, .bool re, .bool po])] [] w R = VCTryd146 p k s dq dn dc N kq kn kc nm fi e aq an ac z nq nn nc lq ln lc re po w R := by kernel_rfl
def VCTryd94 (p : Option Addr) (k : Int) (s : ByteArray) (dq : Option Addr) (dn dc : Nat) (N : Int) (kq : Option Addr) (kn kc : Nat) (nm fi : Int) (e : Int) (aq : Option Addr) (an ac : Nat) (z : Int) (nq : Option Addr) (nn nc : Nat) (lq : Option Addr) (ln lc : Nat) (re po : Bool) (w : World) (R : Ending → World → Prop) : Prop :=
bif p.isNone then
 Known
   ((w.alloc (Obj.cells #[Value.int IntKind.i64 k, Value.string s, Value.slice dq dn dc, Value.int IntKind.i64 N, Value.slice kq kn kc, Value.int IntKind.i64 nm, Value.int IntKind.u8 fi] (124 : Nat))).alloc
    (Obj.cells #[Value.int IntKind.i64 e, Value.slice aq an ac, Value.int IntKind.i64 z, Value.slice nq nn nc, Value.slice lq ln lc, Value.bool re, Value.bool po] (126 : Nat)))
   [(w.heap.size,
     [((0 : Nat), Value.int IntKind.i64 k), ((1 : Nat), Value.string s), ((2 : Nat), Value.slice dq dn dc), ((3 : Nat), Value.int IntKind.i64 N), ((4 : Nat), Value.slice kq kn kc),
      ((5 : Nat), Value.int IntKind.i64 nm), ((6 : Nat), Value.int IntKind.u8 fi)]),
    ((w.alloc (Obj.cells #[Value.int IntKind.i64 k, Value.string s, Value.slice dq dn dc, Value.int IntKind.i64 N, Value.slice kq kn kc, Value.int IntKind.i64 nm, Value.int IntKind.u8 fi] (124 : Nat))).heap.size,
     [((0 : Nat), Value.int IntKind.i64 e), ((1 : Nat), Value.slice aq an ac), ((2 : Nat), Value.int IntKind.i64 z), ((3 : Nat), Value.slice nq nn nc), ((4 : Nat), Value.slice lq ln lc), ((5 : Nat), Value.bool re),
      ((6 : Nat), Value.bool po)])] →
  R (Ending.returned (Value.bool false))
   ((w.alloc (Obj.cells #[Value.int IntKind.i64 k, Value.string s, Value.slice dq dn dc, Value.int IntKind.i64 N, Value.slice kq kn kc, Value.int IntKind.i64 nm, Value.int IntKind.u8 fi] (124 : Nat))).alloc
    (Obj.cells #[Value.int IntKind.i64 e, Value.slice aq an ac, Value.int IntKind.i64 z, Value.slice nq nn nc, Value.slice lq ln lc, Value.bool re, Value.bool po] (126 : Nat)))
else
 Known
   ((w.alloc (Obj.cells #[Value.int IntKind.i64 k, Value.string s, Value.slice dq dn dc, Value.int IntKind.i64 N, Value.slice kq kn kc, Value.int IntKind.i64 nm, Value.int IntKind.u8 fi] (124 : Nat))).alloc
    (Obj.cells #[Value.int IntKind.i64 e, Value.slice aq an ac, Value.int IntKind.i64 z, Value.slice nq nn nc, Value.slice lq ln lc, Value.bool re, Value.bool po] (126 : Nat)))
   [(w.heap.size,
     [((0 : Nat), Value.int IntKind.i64 k), ((1 : Nat), Value.string s), ((2 : Nat), Value.slice dq dn dc), ((3 : Nat), Value.int IntKind.i64 N), ((4 : Nat), Value.slice kq kn kc),
      ((5 : Nat), Value.int IntKind.i64 nm), ((6 : Nat), Value.int IntKind.u8 fi)]),
    ((w.alloc (Obj.cells #[Value.int IntKind.i64 k, Value.string s, Value.slice dq dn dc, Value.int IntKind.i64 N, Value.slice kq kn kc, Value.int IntKind.i64 nm, Value.int IntKind.u8 fi] (124 : Nat))).heap.size,
     [((0 : Nat), Value.int IntKind.i64 e), ((1 : Nat), Value.slice aq an ac), ((2 : Nat), Value.int IntKind.i64 z), ((3 : Nat), Value.slice nq nn nc), ((4 : Nat), Value.slice lq ln lc), ((5 : Nat), Value.bool re),
      ((6 : Nat), Value.bool po)])] →
  Rets Tryd.prog (142 : Nat)
   #[Value.pointer p, Value.agg #[Value.int IntKind.i64 k, Value.string s, Value.slice dq dn dc, Value.int IntKind.i64 N, Value.slice kq kn kc, Value.int IntKind.i64 nm, Value.int IntKind.u8 fi],
    Value.agg #[Value.int IntKind.i64 e, Value.slice aq an ac, Value.int IntKind.i64 z, Value.slice nq nn nc, Value.slice lq ln lc, Value.bool re, Value.bool po]]
   ((w.alloc (Obj.cells #[Value.int IntKind.i64 k, Value.string s, Value.slice dq dn dc, Value.int IntKind.i64 N, Value.slice kq kn kc, Value.int IntKind.i64 nm, Value.int IntKind.u8 fi] (124 : Nat))).alloc
    (Obj.cells #[Value.int IntKind.i64 e, Value.slice aq an ac, Value.int IntKind.i64 z, Value.slice nq nn nc, Value.slice lq ln lc, Value.bool re, Value.bool po] (126 : Nat)))
   fun (v0 : Value) (w1 : World) =>
   ∃ (t2 : Bool),
    v0 = Value.bool t2 ∧
     Keeps
       ((w.alloc (Obj.cells #[Value.int IntKind.i64 k, Value.string s, Value.slice dq dn dc, Value.int IntKind.i64 N, Value.slice kq kn kc, Value.int IntKind.i64 nm, Value.int IntKind.u8 fi] (124 : Nat))).alloc
        (Obj.cells #[Value.int IntKind.i64 e, Value.slice aq an ac, Value.int IntKind.i64 z, Value.slice nq nn nc, Value.slice lq ln lc, Value.bool re, Value.bool po] (126 : Nat)))
       w1
       [w.heap.size,
        (w.alloc
           (Obj.cells #[Value.int IntKind.i64 k, Value.string s, Value.slice dq dn dc, Value.int IntKind.i64 N, Value.slice kq kn kc, Value.int IntKind.i64 nm, Value.int IntKind.u8 fi]
            (124 : Nat))).heap.size] ∧
      bif !t2 then
       Known w1
         [(w.heap.size,
           [((0 : Nat), Value.int IntKind.i64 k), ((1 : Nat), Value.string s), ((2 : Nat), Value.slice dq dn dc), ((3 : Nat), Value.int IntKind.i64 N), ((4 : Nat), Value.slice kq kn kc),
            ((5 : Nat), Value.int IntKind.i64 nm), ((6 : Nat), Value.int IntKind.u8 fi)]),
          ((w.alloc
              (Obj.cells #[Value.int IntKind.i64 k, Value.string s, Value.slice dq dn dc, Value.int IntKind.i64 N, Value.slice kq kn kc, Value.int IntKind.i64 nm, Value.int IntKind.u8 fi]
               (124 : Nat))).heap.size,
           [((0 : Nat), Value.int IntKind.i64 e), ((1 : Nat), Value.slice aq an ac), ((2 : Nat), Value.int IntKind.i64 z), ((3 : Nat), Value.slice nq nn nc), ((4 : Nat), Value.slice lq ln lc),
            ((5 : Nat), Value.bool re), ((6 : Nat), Value.bool po)])] →
        R (Ending.returned (Value.bool false)) w1
      else
       Known w1
         [(w.heap.size,
           [((0 : Nat), Value.int IntKind.i64 k), ((1 : Nat), Value.string s), ((2 : Nat), Value.slice dq dn dc), ((3 : Nat), Value.int IntKind.i64 N), ((4 : Nat), Value.slice kq kn kc),
            ((5 : Nat), Value.int IntKind.i64 nm), ((6 : Nat), Value.int IntKind.u8 fi)]),
          ((w.alloc
              (Obj.cells #[Value.int IntKind.i64 k, Value.string s, Value.slice dq dn dc, Value.int IntKind.i64 N, Value.slice kq kn kc, Value.int IntKind.i64 nm, Value.int IntKind.u8 fi]
               (124 : Nat))).heap.size,
           [((0 : Nat), Value.int IntKind.i64 e), ((1 : Nat), Value.slice aq an ac), ((2 : Nat), Value.int IntKind.i64 z), ((3 : Nat), Value.slice nq nn nc), ((4 : Nat), Value.slice lq ln lc),
            ((5 : Nat), Value.bool re), ((6 : Nat), Value.bool po)])] →
        Rets Tryd.prog (143 : Nat)
         #[Value.pointer p, Value.agg #[Value.int IntKind.i64 k, Value.string s, Value.slice dq dn dc, Value.int IntKind.i64 N, Value.slice kq kn kc, Value.int IntKind.i64 nm, Value.int IntKind.u8 fi],
          Value.agg #[Value.int IntKind.i64 e, Value.slice aq an ac, Value.int IntKind.i64 z, Value.slice nq nn nc, Value.slice lq ln lc, Value.bool re, Value.bool po]]
         w1 fun (v3 : Value) (w4 : World) =>
         ∃ (t5 : Bool),
          v3 = Value.bool t5 ∧
           Keeps w1 w4
             [w.heap.size,
              (w.alloc
                 (Obj.cells #[Value.int IntKind.i64 k, Value.string s, Value.slice dq dn dc, Value.int IntKind.i64 N, Value.slice kq kn kc, Value.int IntKind.i64 nm, Value.int IntKind.u8 fi]
                  (124 : Nat))).heap.size] ∧
            bif !t5 then
             Known w4
               [(w.heap.size,
                 [((0 : Nat), Value.int IntKind.i64 k), ((1 : Nat), Value.string s), ((2 : Nat), Value.slice dq dn dc), ((3 : Nat), Value.int IntKind.i64 N), ((4 : Nat), Value.slice kq kn kc),
                  ((5 : Nat), Value.int IntKind.i64 nm), ((6 : Nat), Value.int IntKind.u8 fi)]),
                ((w.alloc
                    (Obj.cells #[Value.int IntKind.i64 k, Value.string s, Value.slice dq dn dc, Value.int IntKind.i64 N, Value.slice kq kn kc, Value.int IntKind.i64 nm, Value.int IntKind.u8 fi]
                     (124 : Nat))).heap.size,
                 [((0 : Nat), Value.int IntKind.i64 e), ((1 : Nat), Value.slice aq an ac), ((2 : Nat), Value.int IntKind.i64 z), ((3 : Nat), Value.slice nq nn nc), ((4 : Nat), Value.slice lq ln lc),
                  ((5 : Nat), Value.bool re), ((6 : Nat), Value.bool po)])] →
              R (Ending.returned (Value.bool false)) w4
            else
             Known w4
               [(w.heap.size,
                 [((0 : Nat), Value.int IntKind.i64 k), ((1 : Nat), Value.string s), ((2 : Nat), Value.slice dq dn dc), ((3 : Nat), Value.int IntKind.i64 N), ((4 : Nat), Value.slice kq kn kc),
                  ((5 : Nat), Value.int IntKind.i64 nm), ((6 : Nat), Value.int IntKind.u8 fi)]),
                ((w.alloc
                    (Obj.cells #[Value.int IntKind.i64 k, Value.string s, Value.slice dq dn dc, Value.int IntKind.i64 N, Value.slice kq kn kc, Value.int IntKind.i64 nm, Value.int IntKind.u8 fi]
                     (124 : Nat))).heap.size,
                 [((0 : Nat), Value.int IntKind.i64 e), ((1 : Nat), Value.slice aq an ac), ((2 : Nat), Value.int IntKind.i64 z), ((3 : Nat), Value.slice nq nn nc), ((4 : Nat), Value.slice lq ln lc),
                  ((5 : Nat), Value.bool re), ((6 : Nat), Value.bool po)])] →
              Rets Tryd.prog (144 : Nat)
               #[Value.pointer p,
                Value.agg #[Value.int IntKind.i64 k, Value.string s, Value.slice dq dn dc, Value.int IntKind.i64 N, Value.slice kq kn kc, Value.int IntKind.i64 nm, Value.int IntKind.u8 fi],
                Value.agg #[Value.int IntKind.i64 e, Value.slice aq an ac, Value.int IntKind.i64 z, Value.slice nq nn nc, Value.slice lq ln lc, Value.bool re, Value.bool po]]
               w4 fun (v6 : Value) (w7 : World) =>
               ∃ (t8 : Bool),
                v6 = Value.bool t8 ∧
                 Keeps w4 w7
                   [w.heap.size,
                    (w.alloc
                       (Obj.cells #[Value.int IntKind.i64 k, Value.string s, Value.slice dq dn dc, Value.int IntKind.i64 N, Value.slice kq kn kc, Value.int IntKind.i64 nm, Value.int IntKind.u8 fi]
                        (124 : Nat))).heap.size] ∧
                  ∃ (I9 :
                   Int →
                    ByteArray →
                     Option Addr →
                      Nat → Nat → Int → Option Addr → Nat → Nat → Int → Int → Int → Option Addr → Nat → Nat → Int → Option Addr → Nat → Nat → Option Addr → Nat → Nat → Bool → Bool → World → Prop),
                   (∀ (i10 : Int) (s11 : ByteArray) (q12 : Option Addr) (n13 n14 : Nat) (i15 : Int) (q16 : Option Addr) (n17 n18 : Nat) (i19 i20 i21 : Int) (q22 : Option Addr) (n23 n24 : Nat)
                     (i25 : Int) (q26 : Option Addr) (n27 n28 : Nat) (q29 : Option Addr) (n30 n31 : Nat) (t32 t33 : Bool) (w34 : World),
                     I9 i10 s11 q12 n13 n14 i15 q16 n17 n18 i19 i20 i21 q22 n23 n24 i25 q26 n27 n28 q29 n30 n31 t32 t33 w34 →
                      Known w34
                        [(w.heap.size,
                          [((0 : Nat), Value.int IntKind.i64 i10), ((1 : Nat), Value.string s11), ((2 : Nat), Value.slice q12 n13 n14), ((3 : Nat), Value.int IntKind.i64 i15),
                           ((4 : Nat), Value.slice q16 n17 n18), ((5 : Nat), Value.int IntKind.i64 i19), ((6 : Nat), Value.int IntKind.u8 i20)]),
                         ((w.alloc
                             (Obj.cells
                              #[Value.int IntKind.i64 k, Value.string s, Value.slice dq dn dc, Value.int IntKind.i64 N, Value.slice kq kn kc, Value.int IntKind.i64 nm,
                               Value.int IntKind.u8 fi]
                              (124 : Nat))).heap.size,
                          [((0 : Nat), Value.int IntKind.i64 i21), ((1 : Nat), Value.slice q22 n23 n24), ((2 : Nat), Value.int IntKind.i64 i25), ((3 : Nat), Value.slice q26 n27 n28),
                           ((4 : Nat), Value.slice q29 n30 n31), ((5 : Nat), Value.bool t32), ((6 : Nat), Value.bool t33)])] →
                       SX.Ptr p fun (a35 : Addr) =>
                        (∃ (v36 : Value), w34.cell? ((a35.add (2 : Nat)).add (0 : Nat)) = some v36) ∧
                         w34.frozen? ((a35.add (2 : Nat)).add (0 : Nat)) = false ∧
                          Apart ((a35.add (2 : Nat)).add (0 : Nat)) w.heap.size [(0 : Nat), (1 : Nat), (2 : Nat), (3 : Nat), (4 : Nat), (5 : Nat), (6 : Nat)] ∧
                           Apart ((a35.add (2 : Nat)).add (0 : Nat))
                             (w.alloc
                                (Obj.cells
                                 #[Value.int IntKind.i64 k, Value.string s, Value.slice dq dn dc, Value.int IntKind.i64 N, Value.slice kq kn kc, Value.int IntKind.i64 nm,
                                  Value.int IntKind.u8 fi]
                                 (124 : Nat))).heap.size
                             [(0 : Nat), (1 : Nat), (2 : Nat), (3 : Nat), (4 : Nat), (5 : Nat), (6 : Nat)] ∧
                            ∃ (I37 :
                             Int →
                              ByteArray →
                               Option Addr →
                                Nat →
                                 Nat →
                                  Int →
                                   Option Addr →
                                    Nat → Nat → Int → Int → Int → Option Addr → Nat → Nat → Int → Option Addr → Nat → Nat → Option Addr → Nat → Nat → Bool → Bool → World → Prop),
                             (∀ (i38 : Int) (s39 : ByteArray) (q40 : Option Addr) (n41 n42 : Nat) (i43 : Int) (q44 : Option Addr) (n45 n46 : Nat) (i47 i48 i49 : Int) (q50 : Option Addr)
                               (n51 n52 : Nat) (i53 : Int) (q54 : Option Addr) (n55 n56 : Nat) (q57 : Option Addr) (n58 n59 : Nat) (t60 t61 : Bool) (w62 : World),
                               I37 i38 s39 q40 n41 n42 i43 q44 n45 n46 i47 i48 i49 q50 n51 n52 i53 q54 n55 n56 q57 n58 n59 t60 t61 w62 →
                                Known w62
                                  [(w.heap.size,
                                    [((0 : Nat), Value.int IntKind.i64 i38), ((1 : Nat), Value.string s39), ((2 : Nat), Value.slice q40 n41 n42),
                                     ((3 : Nat), Value.int IntKind.i64 i43), ((4 : Nat), Value.slice q44 n45 n46), ((5 : Nat), Value.int IntKind.i64 i47),
                                     ((6 : Nat), Value.int IntKind.u8 i48)]),
                                   ((w.alloc
                                       (Obj.cells
                                        #[Value.int IntKind.i64 k, Value.string s, Value.slice dq dn dc, Value.int IntKind.i64 N, Value.slice kq kn kc, Value.int IntKind.i64 nm,
                                         Value.int IntKind.u8 fi]
                                        (124 : Nat))).heap.size,
                                    [((0 : Nat), Value.int IntKind.i64 i49), ((1 : Nat), Value.slice q50 n51 n52), ((2 : Nat), Value.int IntKind.i64 i53),
                                     ((3 : Nat), Value.slice q54 n55 n56), ((4 : Nat), Value.slice q57 n58 n59), ((5 : Nat), Value.bool t60), ((6 : Nat), Value.bool t61)])] →
                                 Known w62
                                   [(w.heap.size,
                                     [((0 : Nat), Value.int IntKind.i64 i38), ((1 : Nat), Value.string s39), ((2 : Nat), Value.slice q40 n41 n42),
                                      ((3 : Nat), Value.int IntKind.i64 i43), ((4 : Nat), Value.slice q44 n45 n46), ((5 : Nat), Value.int IntKind.i64 i47),
                                      ((6 : Nat), Value.int IntKind.u8 i48)]),
                                    ((w.alloc
                                        (Obj.cells
                                         #[Value.int IntKind.i64 k, Value.string s, Value.slice dq dn dc, Value.int IntKind.i64 N, Value.slice kq kn kc, Value.int IntKind.i64 nm,
                                          Value.int IntKind.u8 fi]
                                         (124 : Nat))).heap.size,
                                     [((0 : Nat), Value.int IntKind.i64 i49), ((1 : Nat), Value.slice q50 n51 n52), ((2 : Nat), Value.int IntKind.i64 i53),
                                      ((3 : Nat), Value.slice q54 n55 n56), ((4 : Nat), Value.slice q57 n58 n59), ((5 : Nat), Value.bool t60), ((6 : Nat), Value.bool t61)])] →
                                  R (Ending.returned (Value.bool true)) w62) ∧
                              bif t8 then
                               SX.Ptr p fun (a63 : Addr) =>
                                (∃ (v64 : Value), (w34.setCell ((a35.add (2 : Nat)).add (0 : Nat)) (Value.bool t33)).cell? ((a63.add (1 : Nat)).add (0 : Nat)) = some v64) ∧
                                 (w34.setCell ((a35.add (2 : Nat)).add (0 : Nat)) (Value.bool t33)).frozen? ((a63.add (1 : Nat)).add (0 : Nat)) = false ∧
                                  Apart ((a63.add (1 : Nat)).add (0 : Nat)) w.heap.size [(0 : Nat), (1 : Nat), (2 : Nat), (3 : Nat), (4 : Nat), (5 : Nat), (6 : Nat)] ∧
                                   Apart ((a63.add (1 : Nat)).add (0 : Nat))
                                     (w.alloc
                                        (Obj.cells
                                         #[Value.int IntKind.i64 k, Value.string s, Value.slice dq dn dc, Value.int IntKind.i64 N, Value.slice kq kn kc, Value.int IntKind.i64 nm,
                                          Value.int IntKind.u8 fi]
                                         (124 : Nat))).heap.size
                                     [(0 : Nat), (1 : Nat), (2 : Nat), (3 : Nat), (4 : Nat), (5 : Nat), (6 : Nat)] ∧
                                    SX.Ptr p fun (a65 : Addr) =>
                                     (∃ (v66 : Value),
                                       ((w34.setCell ((a35.add (2 : Nat)).add (0 : Nat)) (Value.bool t33)).setCell ((a63.add (1 : Nat)).add (0 : Nat)) (Value.bool false)).cell?
                                         ((a65.add (3 : Nat)).add (0 : Nat)) =
                                        some v66) ∧
                                      ((w34.setCell ((a35.add (2 : Nat)).add (0 : Nat)) (Value.bool t33)).setCell ((a63.add (1 : Nat)).add (0 : Nat)) (Value.bool false)).frozen?
                                         ((a65.add (3 : Nat)).add (0 : Nat)) =
                                        false ∧
                                       Apart ((a65.add (3 : Nat)).add (0 : Nat)) w.heap.size [(0 : Nat), (1 : Nat), (2 : Nat), (3 : Nat), (4 : Nat), (5 : Nat), (6 : Nat)] ∧
                                        Apart ((a65.add (3 : Nat)).add (0 : Nat))
                                          (w.alloc
                                             (Obj.cells
                                              #[Value.int IntKind.i64 k, Value.string s, Value.slice dq dn dc, Value.int IntKind.i64 N, Value.slice kq kn kc,
                                               Value.int IntKind.i64 nm, Value.int IntKind.u8 fi]
                                              (124 : Nat))).heap.size
                                          [(0 : Nat), (1 : Nat), (2 : Nat), (3 : Nat), (4 : Nat), (5 : Nat), (6 : Nat)] ∧
                                         SX.Ptr p fun (a67 : Addr) =>
                                          (∃ (v68 : Value),
                                            (((w34.setCell ((a35.add (2 : Nat)).add (0 : Nat)) (Value.bool t33)).setCell ((a63.add (1 : Nat)).add (0 : Nat))
                                                  (Value.bool false)).setCell
                                                ((a65.add (3 : Nat)).add (0 : Nat)) (Value.bool false)).cell?
                                              ((a67.add (4 : Nat)).add (0 : Nat)) =
                                             some v68) ∧
                                           (((w34.setCell ((a35.add (2 : Nat)).add (0 : Nat)) (Value.bool t33)).setCell ((a63.add (1 : Nat)).add (0 : Nat))
                                                  (Value.bool false)).setCell
                                                ((a65.add (3 : Nat)).add (0 : Nat)) (Value.bool false)).frozen?
                                              ((a67.add (4 : Nat)).add (0 : Nat)) =
                                             false ∧
                                            Apart ((a67.add (4 : Nat)).add (0 : Nat)) w.heap.size
                                              [(0 : Nat), (1 : Nat), (2 : Nat), (3 : Nat), (4 : Nat), (5 : Nat), (6 : Nat)] ∧
                                             Apart ((a67.add (4 : Nat)).add (0 : Nat))
                                               (w.alloc
                                                  (Obj.cells
                                                   #[Value.int IntKind.i64 k, Value.string s, Value.slice dq dn dc, Value.int IntKind.i64 N, Value.slice kq kn kc,
                                                    Value.int IntKind.i64 nm, Value.int IntKind.u8 fi]
                                                   (124 : Nat))).heap.size
                                               [(0 : Nat), (1 : Nat), (2 : Nat), (3 : Nat), (4 : Nat), (5 : Nat), (6 : Nat)] ∧
                                              SX.Ptr p fun (a69 : Addr) =>
                                               (∃ (v70 : Value),
                                                 ((((w34.setCell ((a35.add (2 : Nat)).add (0 : Nat)) (Value.bool t33)).setCell ((a63.add (1 : Nat)).add (0 : Nat))
                                                        (Value.bool false)).setCell
                                                      ((a65.add (3 : Nat)).add (0 : Nat)) (Value.bool false)).setCell
                                                     ((a67.add (4 : Nat)).add (0 : Nat)) (Value.slice none (0 : Nat) (0 : Nat))).cell?
                                                   ((a69.add (6 : Nat)).add (0 : Nat)) =
                                                  some v70) ∧
                                                ((((w34.setCell ((a35.add (2 : Nat)).add (0 : Nat)) (Value.bool t33)).setCell ((a63.add (1 : Nat)).add (0 : Nat))
                                                        (Value.bool false)).setCell
                                                      ((a65.add (3 : Nat)).add (0 : Nat)) (Value.bool false)).setCell
                                                     ((a67.add (4 : Nat)).add (0 : Nat)) (Value.slice none (0 : Nat) (0 : Nat))).frozen?
                                                   ((a69.add (6 : Nat)).add (0 : Nat)) =
                                                  false ∧
                                                 Apart ((a69.add (6 : Nat)).add (0 : Nat)) w.heap.size
                                                   [(0 : Nat), (1 : Nat), (2 : Nat), (3 : Nat), (4 : Nat), (5 : Nat), (6 : Nat)] ∧
                                                  Apart ((a69.add (6 : Nat)).add (0 : Nat))
                                                    (w.alloc
                                                      (Obj.cells
                                                       #[Value.int IntKind.i64 k, Value.string s, Value.slice dq dn dc, Value.int IntKind.i64 N,
                                                        Value.slice kq kn kc, Value.int IntKind.i64 nm, Value.int IntKind.u8 fi]
                                                       (124 : Nat))).heap.size
                                                    [(0 : Nat), (1 : Nat), (2 : Nat), (3 : Nat), (4 : Nat), (5 : Nat), (6 : Nat)] ∧
                                                   I37 i10 s11 q12 n13 n14 i15 q16 n17 n18 i19 i20 i21 q22 n23 n24 i25 q26 n27 n28 q29 n30 n31 t32 t33
                                                    (((((w34.setCell ((a35.add (2 : Nat)).add (0 : Nat)) (Value.bool t33)).setCell ((a63.add (1 : Nat)).add (0 : Nat))
                                                         (Value.bool false)).setCell
                                                        ((a65.add (3 : Nat)).add (0 : Nat)) (Value.bool false)).setCell
                                                      ((a67.add (4 : Nat)).add (0 : Nat)) (Value.slice none (0 : Nat) (0 : Nat))).setCell
                                                     ((a69.add (6 : Nat)).add (0 : Nat)) (Value.slice none (0 : Nat) (0 : Nat)))
                              else
                               I37 i10 s11 q12 n13 n14 i15 q16 n17 n18 i19 i20 i21 q22 n23 n24 i25 q26 n27 n28 q29 n30 n31 t32 t33
                                (w34.setCell ((a35.add (2 : Nat)).add (0 : Nat)) (Value.bool t33))) ∧
                    bif re then
                     Known w7
                       [(w.heap.size,
                         [((0 : Nat), Value.int IntKind.i64 k), ((1 : Nat), Value.string s), ((2 : Nat), Value.slice dq dn dc), ((3 : Nat), Value.int IntKind.i64 N),
                          ((4 : Nat), Value.slice kq kn kc), ((5 : Nat), Value.int IntKind.i64 nm), ((6 : Nat), Value.int IntKind.u8 fi)]),
                        ((w.alloc
                            (Obj.cells
                             #[Value.int IntKind.i64 k, Value.string s, Value.slice dq dn dc, Value.int IntKind.i64 N, Value.slice kq kn kc, Value.int IntKind.i64 nm, Value.int IntKind.u8 fi]
                             (124 : Nat))).heap.size,
                         [((0 : Nat), Value.int IntKind.i64 e), ((1 : Nat), Value.slice aq an ac), ((2 : Nat), Value.int IntKind.i64 z), ((3 : Nat), Value.slice nq nn nc),
                          ((4 : Nat), Value.slice lq ln lc), ((5 : Nat), Value.bool re), ((6 : Nat), Value.bool po)])] →
                      Rets Tryd.prog (145 : Nat)
                       #[Value.pointer p,
                        Value.agg
                         #[Value.int IntKind.i64 k, Value.string s, Value.slice dq dn dc, Value.int IntKind.i64 N, Value.slice kq kn kc, Value.int IntKind.i64 nm, Value.int IntKind.u8 fi]]
                       w7 fun (v71 : Value) (w72 : World) =>
                       v71 = Value.tuple #[] ∧
                        Keeps w7 w72
                          [w.heap.size,
                           (w.alloc
                              (Obj.cells
                               #[Value.int IntKind.i64 k, Value.string s, Value.slice dq dn dc, Value.int IntKind.i64 N, Value.slice kq kn kc, Value.int IntKind.i64 nm,
                                Value.int IntKind.u8 fi]
                               (124 : Nat))).heap.size] ∧
                         I9 k s dq dn dc N kq kn kc nm fi e aq an ac z nq nn nc lq ln lc re po w72
                    else
                     bif e == (0 : Int) then
                      Known w7
                        [(w.heap.size,
                          [((0 : Nat), Value.int IntKind.i64 k), ((1 : Nat), Value.string s), ((2 : Nat), Value.slice dq dn dc), ((3 : Nat), Value.int IntKind.i64 N),
                           ((4 : Nat), Value.slice kq kn kc), ((5 : Nat), Value.int IntKind.i64 nm), ((6 : Nat), Value.int IntKind.u8 fi)]),
                         ((w.alloc
                             (Obj.cells
                              #[Value.int IntKind.i64 k, Value.string s, Value.slice dq dn dc, Value.int IntKind.i64 N, Value.slice kq kn kc, Value.int IntKind.i64 nm,
                               Value.int IntKind.u8 fi]
                              (124 : Nat))).heap.size,
                          [((0 : Nat), Value.int IntKind.i64 e), ((1 : Nat), Value.slice aq an ac), ((2 : Nat), Value.int IntKind.i64 z), ((3 : Nat), Value.slice nq nn nc),
                           ((4 : Nat), Value.slice lq ln lc), ((5 : Nat), Value.bool re), ((6 : Nat), Value.bool po)])] →
                       Rets Tryd.prog (146 : Nat)
                        #[Value.pointer p,
                         Value.agg
                          #[Value.int IntKind.i64 k, Value.string s, Value.slice dq dn dc, Value.int IntKind.i64 N, Value.slice kq kn kc, Value.int IntKind.i64 nm, Value.int IntKind.u8 fi],
                         Value.agg #[Value.int IntKind.i64 e, Value.slice aq an ac, Value.int IntKind.i64 z, Value.slice nq nn nc, Value.slice lq ln lc, Value.bool re, Value.bool po]]
                        w7 fun (v73 : Value) (w74 : World) =>
                        v73 = Value.tuple #[] ∧
                         Keeps w7 w74
                           [w.heap.size,
                            (w.alloc
                               (Obj.cells
                                #[Value.int IntKind.i64 k, Value.string s, Value.slice dq dn dc, Value.int IntKind.i64 N, Value.slice kq kn kc, Value.int IntKind.i64 nm,
                                 Value.int IntKind.u8 fi]
                                (124 : Nat))).heap.size] ∧
                          I9 k s dq dn dc N kq kn kc nm fi e aq an ac z nq nn nc lq ln lc re po w74
                     else
                      bif e == (7 : Int) then
                       bif k == (2 : Int) then
                        SX.Ptr p fun (a75 : Addr) =>
                         (∃ (v76 : Value), (w7.alloc (Obj.cells #[Value.bool false, Value.slice none (0 : Nat) (0 : Nat)] (130 : Nat))).cell? ((a75.add (0 : Nat)).add (0 : Nat)) = some v76) ∧
                          (w7.alloc (Obj.cells #[Value.bool false, Value.slice none (0 : Nat) (0 : Nat)] (130 : Nat))).frozen? ((a75.add (0 : Nat)).add (0 : Nat)) = false ∧
                           Apart ((a75.add (0 : Nat)).add (0 : Nat)) w.heap.size [(0 : Nat), (1 : Nat), (2 : Nat), (3 : Nat), (4 : Nat), (5 : Nat), (6 : Nat)] ∧
                            Apart ((a75.add (0 : Nat)).add (0 : Nat))
                              (w.alloc
                                 (Obj.cells
                                  #[Value.int IntKind.i64 k, Value.string s, Value.slice dq dn dc, Value.int IntKind.i64 N, Value.slice kq kn kc, Value.int IntKind.i64 nm,
                                   Value.int IntKind.u8 fi]
                                  (124 : Nat))).heap.size
                              [(0 : Nat), (1 : Nat), (2 : Nat), (3 : Nat), (4 : Nat), (5 : Nat), (6 : Nat)] ∧
                             I9 k s dq dn dc N kq kn kc nm fi e aq an ac z nq nn nc lq ln lc re po
                              ((w7.alloc (Obj.cells #[Value.bool false, Value.slice none (0 : Nat) (0 : Nat)] (130 : Nat))).setCell ((a75.add (0 : Nat)).add (0 : Nat))
                               (Value.slice (some { block := w7.heap.size, off := (0 : Nat) }) (1 : Nat) (1 : Nat)))
                       else I9 k s dq dn dc N kq kn kc nm fi e aq an ac z nq nn nc lq ln lc re po w7
                      else I9 k s dq dn dc N kq kn kc nm fi e aq an ac z nq nn nc lq ln lc re po w7
theorem vcTryd94 (p : Option Addr) (k : Int) (s : ByteArray) (dq : Option Addr) (dn dc : Nat) (N : Int) (kq : Option Addr) (kn kc : Nat) (nm fi : Int) (e : Int) (aq : Option Addr) (an ac : Nat) (z : Int) (nq : Option Addr) (nn nc : Nat) (lq : Option Addr) (ln lc : Nat) (re po : Bool) (w : World) (R : Ending → World → Prop) : SX.vcFn Tryd.prog [(1000013, ⟨[], [], [(0, 0, .int .i64), (0, 1, .str), (0, 2, .slice), (0, 3, .int .i64), (0, 4, .slice), (0, 5, .int .i64), (0, 6, .int .u8), (1, 0, .int .i64), (1, 1, .slice), (1, 2, .int .i64), (1, 3, .slice), (1, 4, .slice), (1, 5, .bool), (1, 6, .bool)]⟩), (1000010, ⟨[], [5, 7, 0], [(0, 0, .int .i64), (0, 1, .str), (0, 2, .slice), (0, 3, .int .i64), (0, 4, .slice), (0, 5, .int .i64), (0, 6, .int .u8), (1, 0, .int .i64), (1, 1, .slice), (1, 2, .int .i64), (1, 3, .slice), (1, 4, .slice), (1, 5, .bool), (1, 6, .bool)]⟩)] Tryd.f94 [.v (.pointer p), .v (.agg #[.int .i64 k, .string s, .slice dq dn dc, .int .i64 N, .slice kq kn kc, .int .i64 nm, .int .u8 fi]), .v (.agg #[.int .i64 e, .slice aq an ac, .int .i64 z, .slice nq nn nc, .slice lq ln lc, .bool re, .bool po])] [] w R = VCTryd94 p k s dq dn dc N kq kn kc nm fi e aq an ac z nq nn nc lq ln lc re po w R := by kernel_rfl
end Go.Proofs.YtbpknjldphckgaaDoor

namespace Go.Proofs.YtbpknjldphckgaaDoor
open Go Go.SX Go.Proofs Go.Lib
set_option maxRecDepth 100000
set_option linter.unusedVariables false
set_option linter.unusedSimpArgs false
def stC (x : Stx) : List Value := [.bool x.t, .slice x.q x.L.length x.c]
def stsC : List Stx → List Value
  | [] => []
  | b :: r => stC b ++ stsC r
theorem stsC_app (a b : List Stx) : stsC (a ++ b) = stsC a ++ stsC b := by
  induction a with
  | nil => simp [stsC]
  | cons x r ih => simp only [List.cons_append, stsC, ih, List.append_assoc]
theorem stsC_get : ∀ (l : List Stx) (i : Nat) (h : i < l.length) (k : Nat), k < 2 → (stsC l)[i * 2 + k]? = (stC l[i])[k]?
  | b :: r, 0, h, k, hk => by
    rw [stsC, List.getElem?_append_left (by simp [stC]; omega)]
    simp
  | b :: r, i + 1, h, k, hk => by
    have hl : (stC b).length = 2 := rfl
    rw [stsC, List.getElem?_append_right (by rw [hl]; omega), hl, show (i + 1) * 2 + k - 2 = i * 2 + k by omega]
    exact stsC_get r i (by simpa using h) k hk
theorem elem130 : elemOk Tryd.prog 130 2 = true := by kernel_rfl
theorem und183 : Tryd.prog.underlying 183 = some (.slice 130) := Tryd.underlying183
/-- States that lie in blocks of one's own: the row in some, the files in others. -/
def SOwn (w : World) (O : Nat → Prop) (v : Value) (M : List (Bool × List Fil)) : Prop := ∃ (l : List Stx) (own : Nat → Prop), l.map Stx.sta = M ∧ (∀ i, own i → O i) ∧ OwnRow w own 130 2 v l.length (stsC l) ∧ ∀ x ∈ l, FOwn w (fun i => O i ∧ ¬ own i) (.slice x.q x.L.length x.c) x.L
theorem SOwn.kp {S O O' : Nat → Prop} {w w' : World} {v : Value} {M : List (Bool × List Fil)} (h : SOwn w O v M) (k : Kp S w w') (hs : ∀ i, i < w.heap.size → O i → ¬ S i ∧ O' i) : SOwn w' O' v M := by
  obtain ⟨l, own, h1, ho, hr, h3⟩ := h
  refine ⟨l, fun i => own i ∧ i < w.heap.size, h1, fun i hi => (hs i hi.2 (ho i hi.1)).2, (hr.mono (own' := fun i => own i ∧ i < w.heap.size) fun i hi hl => ⟨hi, hl⟩).kp k fun g n cap _ hg => (hs g hg.2 (ho g hg.1)).1, fun x hx => (h3 x hx).kp k fun i hl hi => ⟨(hs i hl hi.1).1, (hs i hl hi.1).2, fun hh => hi.2 hh.1⟩⟩
theorem SOwn.mono {O O' : Nat → Prop} {w : World} {v : Value} {M : List (Bool × List Fil)} (h : SOwn w O v M) (hs : ∀ i, i < w.heap.size → O i → O' i) : SOwn w O' v M := h.kp (Kp.refl none_ w) fun i hl hi => ⟨id, hs i hl hi⟩
theorem SOwn.rd {w : World} {O : Nat → Prop} {v : Value} {M : List (Bool × List Fil)} (h : SOwn w O v M) : ∃ q c, v = .slice q M.length c ∧ SRd w q M.length M := by
  obtain ⟨l, own, rfl, _, h2, h3⟩ := h
  obtain ⟨q, c, rfl⟩ := h2.slice
  refine ⟨q, c, by simp, l, rfl, by simp, fun i hi => ?_⟩
  have at_ : ∀ k u, k < 2 → (stC l[i])[k]? = some u → ∃ a, q = some a ∧ w.cell? (a.add (i * 2 + k)) = some u := fun k u hk hu => h2.at (by rw [stsC_get l i hi k hk]; exact hu)
  obtain ⟨a, e, c0⟩ := at_ 0 _ (by omega) rfl
  have go : ∀ k u, k < 2 → (stC l[i])[k]? = some u → w.cell? ((a.add (i * 2)).add k) = some u := fun k u hk hu => by
    obtain ⟨a', e', c⟩ := at_ k u hk hu
    rw [e] at e'
    cases e'
    rw [add_add]
    exact c
  obtain ⟨q', c', ev, r⟩ := (h3 _ (List.getElem_mem hi)).rd
  cases ev
  exact ⟨a, e, go 0 _ (by omega) rfl, go 1 _ (by omega) rfl, r⟩
/-- One state, laid just before. -/
theorem SOwn.one {w : World} {N : Nat → Prop} (t : Bool) {v : Value} {L : List Fil} (hf : FOwn w N v L) : SOwn (w.alloc (.cells #[.bool t, v] 130)) (fun i => N i ∨ fresh w i) (.slice (some ⟨w.heap.size, 0, none⟩) 1 1) [(t, L)] := by
  obtain ⟨q, c, rfl, _⟩ := hf.rd
  have k : Kp none_ w (w.alloc (.cells #[.bool t, .slice q L.length c] 130)) := (Kp.refl none_ w).alloc1 _
  refine ⟨[⟨t, L, q, c⟩], fun i => i = w.heap.size, rfl, fun i hi => .inr (by show w.heap.size ≤ i; omega), ⟨rfl, .inr ⟨w.heap.size, 1, _, rfl, rfl, by rw [alloc_get, if_pos rfl], Nat.le_refl _, by simp [maxLen], rfl, rfl⟩⟩, fun x hx => ?_⟩
  rw [List.mem_singleton] at hx
  subst hx
  exact hf.kp k fun i hl hi => ⟨id, .inl hi, by omega⟩
/-- One more state. -/
theorem SOwn.push {w : World} {O : Nat → Prop} {v : Value} {M : List (Bool × List Fil)} (h : SOwn w O v M) {N : Nat → Prop} (t : Bool) {u : Value} {L : List Fil} (hf : FOwn w N u L) (hN : ∀ i, i < w.heap.size → O i → ¬ N i) (hM : M.length ≤ 1000000) {K : Value → World → Prop}
    (hK : ∀ q n c w', SOwn w' (fun i => O i ∨ N i ∨ fresh w i) (.slice q n c) (M ++ [(t, L)]) → Kp O w w' → Kp O (w.alloc (.cells #[.bool t, u] 130)) w' → K (.slice q n c) w') :
    Runs Tryd.prog (Builtin.append_ #[183, 183] 183 #[v, .slice (some ⟨w.heap.size, 0, none⟩) 1 1]) (w.alloc (.cells #[.bool t, u] 130)) K := by
  obtain ⟨l, own, rfl, ho, hr, h3⟩ := h
  obtain ⟨q, c, rfl, _⟩ := hf.rd
  have hl : l.length ≤ 1000000 := by simpa using hM
  refine append_new (own := fun i => own i ∧ i < w.heap.size) (xs := stsC l) #[.bool t, .slice q L.length c] und183 elem130 (by omega) (hr.mono fun i hi hl => ⟨hi, hl⟩) rfl (fun u hu => by simp at hu; rcases hu with rfl | rfl <;> simp [Value.oneCell']) (by omega) fun q' c' w' r k1 k2 => hK q' _ c' w' ⟨l ++ [⟨t, L, q, c⟩], fun i => (own i ∧ i < w.heap.size) ∨ fresh w i, by simp, ?_, ?_, fun x hx => ?_⟩ (k1.mono fun i _ hi => ho i hi.1) (k2.mono fun i _ hi => ho i hi.1)
  · rintro i (hi | hi)
    · exact .inl (ho i hi.1)
    · exact .inr (.inr hi)
  · rw [stsC_app, List.length_append]
    exact r
  · rcases List.mem_append.1 hx with hx | hx
    · refine (h3 x hx).kp k1 fun i hl hi => ⟨fun hh => hi.2 hh.1, .inl hi.1, fun hh => hh.elim (fun h => hi.2 h.1) fun h => ?_⟩
      have h : w.heap.size ≤ i := h
      omega
    · rw [List.mem_singleton] at hx
      subst hx
      refine hf.kp k1 fun i hl hi => ⟨fun hh => hN i hl (ho i hh.1) hi, .inr (.inl hi), fun hh => hh.elim (fun h => hN i hl (ho i h.1) hi) fun h => ?_⟩
      have h : w.heap.size ≤ i := h
      omega
/-- Bytes behind a row of bytes of one's own. -/
theorem bytes_app {w : World} {own : Nat → Prop} {v : Value} {l : List UInt8} {K : Value → World → Prop} (h : OwnRow w own 5 1 v l.length (strCells (ba l))) {q : Option Addr} {c : Nat} {new : List UInt8} (hb : BytesAt w q (ba new)) (hmax : l.length + new.length ≤ 137438953472)
    (hK : ∀ q' n' c' w', OwnRow w' (fun i => own i ∨ fresh w i) 5 1 (.slice q' n' c') (l ++ new).length (strCells (ba (l ++ new))) → Kp own w w' → K (.slice q' n' c') w') : Runs Tryd.prog (Builtin.append_ #[27, 27] 27 #[v, .slice q new.length c]) w K := by
  have hby := byte5
  obtain ⟨i, hi, hz, hsz, hby⟩ := hby
  by_cases h0 : new.length = 0
  · have : new = [] := List.eq_nil_of_length_eq_zero h0
    subst this
    rw [List.append_nil] at hK
    obtain ⟨q1, c1, rfl⟩ := h.slice
    refine ⟨_, w, ?_, hK q1 _ c1 _ (h.mono fun i hi _ => .inl hi) (Kp.refl _ _)⟩
    have hnc := h.lens
    rcases h.2 with ⟨e, e0⟩ | ⟨g, cap, cur, e, _, _, hnc, _⟩
    · have : l = [] := List.eq_nil_of_length_eq_zero e0
      subst this
      cases e
      cases q <;> simp [Builtin.append_, run_underlying und27, sizeOf, typeInfo, hi, Builtin.lenOf, Builtin.firstCells, loadCells, loadCellsFrom]
    · cases e
      cases q <;> simp [Builtin.append_, run_underlying und27, sizeOf, typeInfo, hi, Builtin.lenOf, Builtin.firstCells, loadCells, loadCellsFrom, hnc, storeCells]
  · obtain ⟨a, rfl, _⟩ := hb 0 (by rw [ba_size]; omega)
    refine append_own (own := own) (xs := strCells (ba l)) (news := strCells (ba new)) und27 (byteT_elem byte5) (by omega) h (by rw [strCells_length, ba_size, Nat.mul_one]) (fun j u hj => ?_) (fun u hu => ?_) (by omega) hmax fun v' w' r k => ?_
    · have hj' : j < (ba new).size := by have := (List.getElem?_eq_some_iff.1 hj).1; rwa [strCells_length] at this
      rw [strCells_get hj'] at hj
      cases hj
      obtain ⟨a', e', hc⟩ := hb j hj'
      cases e'
      exact hc
    · unfold strCells at hu
      obtain ⟨x, _, rfl⟩ := List.mem_map.1 hu
      rfl
    · obtain ⟨q', c', rfl⟩ := r.slice
      refine hK q' _ c' w' ?_ k
      rw [List.length_append, ← ba_app, strCells_app]
      exact r
def upd (D : Nat → Nat) (E F c : Nat) : Nat → Nat := fun i => if E ≤ i then (if i < F then c else 0) else D i
/-- A model in memory; D tells what each block is: 4 its struct, 1 of the states, 2 of the map, 3 of the stream's data. -/
structure MD (w : World) (D : Nat → Nat) (b : Nat) (p : MM) (cm cn cd : Value) : Prop where
  big : Big w b 185 [cm, .bool p.opn, .bool p.poisoned, .bool p.streaming, cn, .string (ba p.name), cd]
  db : D b = 4
  sm : SOwn w (fun i => D i = 1) cm p.may
  sn : FOwn w (fun i => D i = 2) cn p.now
  sd : OwnRow w (fun i => D i = 3) 5 1 cd p.data.length (strCells (ba p.data))
variable {w w5 : World} {D : Nat → Nat} {b : Nat} {p : MM} {cm cn cd : Value}
theorem MD.kp {S : Nat → Prop} (h : MD w D b p cm cn cd) (k : Kp S w w5) (hs : ∀ i, i < w.heap.size → D i ≠ 0 → ¬ S i) : MD w5 D b p cm cn cd :=
  ⟨h.big.kp k (hs b h.big.lt (by rw [h.db]; decide)), h.db, h.sm.kp k fun i hl hi => ⟨hs i hl (by rw [hi]; decide), hi⟩, h.sn.kp k fun i hl hi => ⟨hs i hl (by rw [hi]; decide), hi⟩,
    ((h.sd.mono (own' := fun i => D i = 3 ∧ i < w.heap.size) fun i hi hl => ⟨hi, hl⟩).kp k fun g n cap _ hg => hs g hg.2 (by rw [hg.1]; decide)).mono fun i hi _ => hi.1⟩
theorem MD.kp0 (h : MD w D b p cm cn cd) (k : Kp none_ w w5) : MD w5 D b p cm cn cd := h.kp k fun _ _ _ => id
theorem MD.rd (h : MD w D b p cm cn cd) : MRd w b p := by
  obtain ⟨q1, c1, e1, r1⟩ := h.sm.rd
  obtain ⟨q2, c2, e2, r2⟩ := h.sn.rd
  obtain ⟨q3, c3, e3⟩ := h.sd.slice
  subst e1 e2 e3
  have hl := h.sd.lens
  have cell : ∀ i v, ([.slice q1 p.may.length c1, .bool p.opn, .bool p.poisoned, .bool p.streaming, .slice q2 p.now.length c2, .string (ba p.name), .slice q3 p.data.length c3] : List Value)[i]? = some v → w.cell? ⟨b, i, none⟩ = some v := fun i v e => by rw [h.big.cell]; exact e
  refine ⟨⟨q1, _, c1, cell 0 _ rfl, r1⟩, cell 1 _ rfl, cell 2 _ rfl, cell 3 _ rfl, ⟨q2, _, c2, cell 4 _ rfl, r2⟩, cell 5 _ rfl, ⟨q3, _, c3, cell 6 _ rfl, fun i hi => ?_, rfl, hl.2, ?_⟩⟩
  · obtain ⟨a, e, c⟩ := h.sd.at (strCells_get hi)
    exact ⟨a, e, c⟩
  · rcases h.sd.2 with ⟨e, _⟩ | ⟨g, cap, cur, e, _, _, _, hm, _⟩
    · simp only [Value.slice.injEq] at e
      rw [e.2.2]; simp [maxLen]
    · cases e; exact hm
/-- What is asked where a cell is set. -/
theorem Big.slot {w : World} {g : Nat} {e : TypeId} {cs : List Value} (h : Big w g e cs) {i : Nat} (hi : i < cs.length) : (∃ v, w.cell? ⟨g, i, none⟩ = some v) ∧ w.frozen? ⟨g, i, none⟩ = false := ⟨⟨cs[i], by rw [h.cell]; exact List.getElem?_eq_getElem hi⟩, h.frz i⟩
theorem MD.flag (h : MD w D b p cm cn cd) (i : Nat) (v : Value) (p' : MM) (hb : ([cm, .bool p.opn, .bool p.poisoned, .bool p.streaming, cn, .string (ba p.name), cd] : List Value).set i v = [cm, .bool p'.opn, .bool p'.poisoned, .bool p'.streaming, cn, .string (ba p'.name), cd])
    (h1 : p'.may = p.may) (h2 : p'.now = p.now) (h3 : p'.data = p.data) : MD (w.setCell ⟨b, i, none⟩ v) D b p' cm cn cd ∧ Kp (fun i => D i ≠ 0) w (w.setCell ⟨b, i, none⟩ v) := by
  have k1 : Kp (one_ b) w (w.setCell ⟨b, i, none⟩ v) := Big.setKp i v rfl
  have hne : ∀ j c, c ≠ 4 → D j = c → ¬ one_ b j := fun j c hc e hb => by
    have hb : j = b := hb
    rw [hb, h.db] at e
    exact hc e.symm
  refine ⟨⟨?_, h.db, ?_, ?_, ?_⟩, k1.mono fun j _ hj => by have hj : j = b := hj; rw [hj, h.db]; decide⟩
  · have := h.big.set i v
    rw [hb] at this
    exact this
  · rw [h1]; exact h.sm.kp k1 fun j _ hj => ⟨hne j 1 (by decide) hj, hj⟩
  · rw [h2]; exact h.sn.kp k1 fun j _ hj => ⟨hne j 2 (by decide) hj, hj⟩
  · rw [h3]
    exact ((h.sd.mono (own' := fun i => D i = 3 ∧ i < w.heap.size) fun i hi hl => ⟨hi, hl⟩).kp k1 fun g n cap _ hg => hne g 3 (by decide) hg.1).mono fun i hi _ => hi.1
theorem upd_lt {D : Nat → Nat} {E F c i : Nat} (h : i < E) : upd D E F c i = D i := if_neg (by omega)
theorem upd_ge {D : Nat → Nat} {E F c i : Nat} (h : E ≤ i) (h2 : i < F) : upd D E F c i = c := by unfold upd; rw [if_pos h, if_pos h2]
theorem upd_nz {D : Nat → Nat} {E F c i : Nat} (h : upd D E F c i ≠ 0) : i < E ∧ D i ≠ 0 ∨ E ≤ i ∧ i < F := by
  by_cases hi : E ≤ i
  · by_cases hf : i < F
    · exact .inr ⟨hi, hf⟩
    · unfold upd at h
      rw [if_pos hi, if_neg hf] at h
      exact absurd rfl h
  · rw [upd_lt (by omega)] at h
    exact .inl ⟨by omega, h⟩
theorem MD.setMay {E : Nat} (h : MD w D b p cm cn cd) (hDE : ∀ i, D i ≠ 0 → i < E) (k : Kp (fun i => D i = 1) w w5) {N : Nat → Prop} {cm' : Value} {M' : List (Bool × List Fil)} (s : SOwn w5 N cm' M') (hN : ∀ i, N i → D i = 1 ∨ E ≤ i) :
    MD (w5.setCell ⟨b, 0, none⟩ cm') (upd D E w5.heap.size 1) b { p with may := M' } cm' cn cd ∧ Kp (fun i => D i ≠ 0) w (w5.setCell ⟨b, 0, none⟩ cm') := by
  have hbl := hDE b (by rw [h.db]; decide)
  have hb5 := h.big.kp k (fun e => by rw [h.db] at e; cases e)
  have k1 : Kp (one_ b) w5 (w5.setCell ⟨b, 0, none⟩ cm') := Big.setKp 0 cm' rfl
  have K : Kp (fun i => D i = 1 ∨ i = b) w (w5.setCell ⟨b, 0, none⟩ cm') := (k.mono fun i _ hi => .inl hi).then k1 fun i _ hi => .inr hi
  have hne : ∀ j c, c ≠ 4 → c ≠ 1 → D j = c → ¬ (D j = 1 ∨ j = b) := fun j c hc hc1 e hb => by
    rcases hb with hb | hb
    · omega
    · rw [hb, h.db] at e
      exact hc e.symm
  refine ⟨⟨hb5.set 0 cm', by rw [upd_lt hbl]; exact h.db, ?_, ?_, ?_⟩, K.mono fun j _ hj => by
    rcases hj with hj | hj
    · rw [hj]; decide
    · rw [hj, h.db]; decide⟩
  · refine s.kp k1 fun i hl hi => ?_
    have := hN i hi
    refine ⟨fun e => ?_, ?_⟩
    · have e : i = b := e
      subst e
      rw [h.db] at this
      omega
    · show upd D E w5.heap.size 1 i = 1
      by_cases hi2 : E ≤ i
      · exact upd_ge hi2 hl
      · rw [upd_lt (by omega)]; omega
  · exact h.sn.kp K fun j hl hj => ⟨hne j 2 (by decide) (by decide) hj, by show upd D E _ 1 j = 2; rw [upd_lt (hDE j (by rw [hj]; decide))]; exact hj⟩
  · refine ((h.sd.mono (own' := fun i => D i = 3 ∧ i < w.heap.size) fun i hi hl => ⟨hi, hl⟩).kp K fun g n cap _ hg => hne g 3 (by decide) (by decide) hg.1).mono fun i hi _ => ?_
    show upd D E _ 1 i = 3
    rw [upd_lt (hDE i (by rw [hi.1]; decide))]; exact hi.1
theorem MD.setNow {E : Nat} (h : MD w D b p cm cn cd) (hDE : ∀ i, D i ≠ 0 → i < E) (k : Kp none_ w w5) {N : Nat → Prop} {cn' : Value} {L' : List Fil} (s : FOwn w5 N cn' L') (hN : ∀ i, N i → E ≤ i) :
    MD (w5.setCell ⟨b, 4, none⟩ cn') (upd D E w5.heap.size 2) b { p with now := L' } cm cn' cd ∧ Kp (fun i => D i ≠ 0) w (w5.setCell ⟨b, 4, none⟩ cn') := by
  have hbl := hDE b (by rw [h.db]; decide)
  have hb5 := h.big.kp k id
  have k1 : Kp (one_ b) w5 (w5.setCell ⟨b, 4, none⟩ cn') := Big.setKp 4 cn' rfl
  have K : Kp (one_ b) w (w5.setCell ⟨b, 4, none⟩ cn') := k.wide.trans k1
  have hne : ∀ j c, c ≠ 4 → D j = c → ¬ one_ b j := fun j c hc e hb => by
    have hb : j = b := hb
    rw [hb, h.db] at e
    exact hc e.symm
  refine ⟨⟨hb5.set 4 cn', by rw [upd_lt hbl]; exact h.db, ?_, ?_, ?_⟩, K.mono fun j _ hj => by have hj : j = b := hj; rw [hj, h.db]; decide⟩
  · exact h.sm.kp K fun j hl hj => ⟨hne j 1 (by decide) hj, by show upd D E _ 2 j = 1; rw [upd_lt (hDE j (by rw [hj]; decide))]; exact hj⟩
  · refine s.kp k1 fun i hl hi => ?_
    have := hN i hi
    exact ⟨fun e => by have e : i = b := e; omega, upd_ge this hl⟩
  · refine ((h.sd.mono (own' := fun i => D i = 3 ∧ i < w.heap.size) fun i hi hl => ⟨hi, hl⟩).kp K fun g n cap _ hg => hne g 3 (by decide) hg.1).mono fun i hi _ => ?_
    show upd D E _ 2 i = 3
    rw [upd_lt (hDE i (by rw [hi.1]; decide))]; exact hi.1
theorem MD.setDat {E : Nat} (h : MD w D b p cm cn cd) (hDE : ∀ i, D i ≠ 0 → i < E) (k : Kp (fun i => D i = 3) w w5) {N : Nat → Prop} {cd' : Value} {d' : List UInt8} (s : OwnRow w5 N 5 1 cd' d'.length (strCells (ba d'))) (hN : ∀ i, N i → D i = 3 ∨ E ≤ i) :
    MD (w5.setCell ⟨b, 6, none⟩ cd') (upd D E w5.heap.size 3) b { p with data := d' } cm cn cd' ∧ Kp (fun i => D i ≠ 0) w (w5.setCell ⟨b, 6, none⟩ cd') := by
  have hbl := hDE b (by rw [h.db]; decide)
  have hb5 := h.big.kp k (fun e => by rw [h.db] at e; cases e)
  have k1 : Kp (one_ b) w5 (w5.setCell ⟨b, 6, none⟩ cd') := Big.setKp 6 cd' rfl
  have K : Kp (fun i => D i = 3 ∨ i = b) w (w5.setCell ⟨b, 6, none⟩ cd') := (k.mono fun i _ hi => .inl hi).then k1 fun i _ hi => .inr hi
  have hne : ∀ j c, c ≠ 4 → c ≠ 3 → D j = c → ¬ (D j = 3 ∨ j = b) := fun j c hc hc1 e hb => by
    rcases hb with hb | hb
    · omega
    · rw [hb, h.db] at e
      exact hc e.symm
  refine ⟨⟨hb5.set 6 cd', by rw [upd_lt hbl]; exact h.db, ?_, ?_, ?_⟩, K.mono fun j _ hj => by
    rcases hj with hj | hj
    · rw [hj]; decide
    · rw [hj, h.db]; decide⟩
  · exact h.sm.kp K fun j hl hj => ⟨hne j 1 (by decide) (by decide) hj, by show upd D E _ 3 j = 1; rw [upd_lt (hDE j (by rw [hj]; decide))]; exact hj⟩
  · exact h.sn.kp K fun j hl hj => ⟨hne j 2 (by decide) (by decide) hj, by show upd D E _ 3 j = 2; rw [upd_lt (hDE j (by rw [hj]; decide))]; exact hj⟩
  · refine (s.mono (own' := fun i => upd D E w5.heap.size 3 i = 3 ∧ i ≠ b) fun i hi hl => ?_).kp k1 (fun g n cap _ hg e => hg.2 e) |>.mono fun i hi _ => hi.1
    have := hN i hi
    refine ⟨?_, fun e => ?_⟩
    · by_cases hi2 : E ≤ i
      · exact upd_ge hi2 hl
      · rw [upd_lt (by omega)]; omega
    · subst e
      rw [h.db] at this
      omega
end Go.Proofs.YtbpknjldphckgaaDoor

namespace Go.Proofs.YtbpknjldphckgaaDoor
open Go Go.SX Go.Proofs Go.Lib
set_option maxRecDepth 100000
set_option linter.unusedVariables false
set_option linter.unusedSimpArgs false
variable {w w5 : World} {D : Nat → Nat} {b : Nat} {p : MM} {cm cn cd : Value}
theorem MD.cut (h : MD w D b p cm cn cd) : MD w (fun i => if i < w.heap.size then D i else 0) b p cm cn cd := by
  have e : ∀ i, i < w.heap.size → (if i < w.heap.size then D i else 0) = D i := fun i hi => if_pos hi
  refine ⟨h.big, by show (if _ then _ else _) = 4; rw [e b h.big.lt]; exact h.db, h.sm.mono fun i hl hi => ?_, h.sn.mono fun i hl hi => ?_, h.sd.mono fun i hi hl => ?_⟩
  · show (if _ then _ else _) = 1; rw [e i hl]; exact hi
  · show (if _ then _ else _) = 2; rw [e i hl]; exact hi
  · show (if _ then _ else _) = 3; rw [e i hl]; exact hi
/-- From a model to the next one. -/
def MStep (w : World) (D : Nat → Nat) (b : Nat) (w' : World) (p' : MM) : Prop :=
  ∃ (D' : Nat → Nat) (cm cn cd : Value), MD w' D' b p' cm cn cd ∧ (∀ i, D' i ≠ 0 → (D i ≠ 0 ∨ w.heap.size ≤ i) ∧ i < w'.heap.size) ∧ Kp (fun i => D i ≠ 0) w w'
theorem MStep.of {D' : Nat → Nat} {p' : MM} (h : MD w5 D' b p' cm cn cd) (hD : ∀ i, D' i ≠ 0 → D i ≠ 0 ∨ w.heap.size ≤ i) (k : Kp (fun i => D i ≠ 0) w w5) : MStep w D b w5 p' := by
  refine ⟨_, cm, cn, cd, h.cut, fun i hi => ?_, k⟩
  by_cases hl : i < w5.heap.size
  · rw [if_pos hl] at hi
    exact ⟨hD i hi, hl⟩
  · rw [if_neg hl] at hi
    exact absurd rfl hi
theorem MStep.trans {w1 w2 : World} {p2 : MM} {D1 : Nat → Nat} (hD : ∀ i, D1 i ≠ 0 → D i ≠ 0 ∨ w.heap.size ≤ i) (k : Kp (fun i => D i ≠ 0) w w1) (h : MStep w1 D1 b w2 p2) : MStep w D b w2 p2 := by
  obtain ⟨D', cm, cn, cd, h1, h2, h3⟩ := h
  have hz := k.size
  refine ⟨D', cm, cn, cd, h1, fun i hi => ⟨?_, (h2 i hi).2⟩, k.then h3 fun i hl hi => (hD i hi).elim id fun h => by omega⟩
  rcases (h2 i hi).1 with h | h
  · exact hD i h
  · exact .inr (by omega)
/-- One update behind what leaves all as it was. -/
theorem MStep.upd1 {p' : MM} {E F c : Nat} (h : MD w5 (upd D E F c) b p' cm cn cd) (hE : w.heap.size ≤ E) (k5 : Kp (fun i => D i ≠ 0) w w5) : MStep w D b w5 p' :=
  MStep.of h (fun i hi => (upd_nz hi).elim (fun h => .inl h.2) fun h => .inr (by omega)) k5
theorem slot0 {cs : List Value} {i g : Nat} {w0 : World} {js : List Nat} (h : Big w5 b 185 cs) (hi : i < cs.length) (hg : b ≠ g) : (∃ v, w5.cell? ⟨b, i, none⟩ = some v) ∧ w5.frozen? ⟨b, i, none⟩ = false ∧ Apart ⟨b, i, none⟩ g js := ⟨(Big.slot h hi).1, (Big.slot h hi).2, .inl hg⟩
theorem c145 (h : MD w D b p cm cn cd) (hD : ∀ i, D i ≠ 0 → i < w.heap.size) (ok : OkP p) (o : Ox) : Rets Tryd.prog 145 #[pt b, opV o] w fun v w' => v = .tuple #[] ∧ MStep w D b w' (refusedP p o.stp) := by
  refine ent [_, _] Tryd.func145 ((vcTryd145 _ _ _ _ _ _ _ _ _ _ _ _ w _).mpr ?_)
  unfold VCTryd145
  have hbl := h.big.lt
  obtain ⟨k0, z0⟩ := opKp w o
  rw [opEq]
  have hbg : b ≠ w.heap.size := by omega
  generalize w.alloc (.cells (opC o) 124) = W at *
  have h0 := h.kp0 k0
  have hdr := h.kp0 k0.drew
  obtain ⟨qm, cm', rfl, rm⟩ := h0.sm.rd
  have cellm : W.cell? ⟨b, 0, none⟩ = some (.slice qm p.may.length cm') := by rw [h0.big.cell]; rfl
  obtain ⟨qn, nn, cnn, en, rn⟩ := hdr.rd.now
  simp only [ptr_some, ad_add, Nat.zero_add, Nat.add_zero]
  have hlen := ok.len
  have kb : ∀ {w5 : World}, W.heap.size ≤ w5.heap.size → w.heap.size < w5.heap.size := fun h => by omega
  have nob : ¬ D w.heap.size = 1 := fun e => by have := hD w.heap.size (by rw [e]; decide); omega
  have nofresh : ∀ {w1 : World}, w.heap.size ≤ w1.heap.size → ∀ i, i < w1.heap.size → D i = 1 → ¬ (w1.heap.size ≤ i) := fun _ i hi _ => by omega
  -- a state more
  have more : o.k = 12 ∨ o.k = 13 ∨ o.k = 14 → ∀ {Q1 : Prop} {Q2 : World → Option Addr → Nat → Nat → Prop}, Q1 → Rets Tryd.prog 139 #[.slice qn nn cnn] W.drew fun v19 w20 => ∃ q21 n22 n23, v19 = .slice q21 n22 n23 ∧ Keeps W.drew w20 [w.heap.size] ∧ w20.cell? ⟨b, 0, none⟩ = some (.slice qm p.may.length cm') ∧ (w20.alloc (.cells #[.bool true, .slice q21 n22 n23] 130)).cell? ⟨b, 0, none⟩ = some (.slice qm p.may.length cm') ∧
      Runs Tryd.prog (Builtin.append_ #[183, 183] 183 #[.slice qm p.may.length cm', .slice (some ⟨w20.heap.size, 0, none⟩) 1 1]) (w20.alloc (.cells #[.bool true, .slice q21 n22 n23] 130)) fun v24 w25 => ∃ q26 n27 n28, v24 = .slice q26 n27 n28 ∧ Keeps (w20.alloc (.cells #[.bool true, .slice q21 n22 n23] 130)) w25 [w.heap.size] ∧
        (∃ v30, w25.cell? ⟨b, 0, none⟩ = some v30) ∧ w25.frozen? ⟨b, 0, none⟩ = false ∧ Apart ⟨b, 0, none⟩ w.heap.size [0, 1, 2, 3, 4, 5, 6] ∧ (Q2 w25 q26 n27 n28 → ∃ v, Ending.returned (.tuple #[]) = Ending.returned v ∧ v = .tuple #[] ∧ MStep w D b (w25.setCell ⟨b, 0, none⟩ (.slice q26 n27 n28)) (refusedP p o.stp)) := fun hk Q1 Q2 _ => by
    refine (c139 rn ok.now).mono ?_
    rintro v w2 ⟨F2, k2⟩
    obtain ⟨q2, c2, rfl, _⟩ := F2.rd
    have K2 : Kp none_ w w2 := k0.trans (Kp.of_drew k2)
    have h2 := h.kp0 K2
    have z2 := k2.size
    have z2' : W.heap.size ≤ w2.heap.size := z2
    have ka : Kp none_ w2 (w2.alloc (.cells #[.bool true, .slice q2 p.now.length c2] 130)) := (Kp.refl none_ w2).alloc1 _
    have cm2 : w2.cell? ⟨b, 0, none⟩ = some (.slice qm p.may.length cm') := by rw [h2.big.cell]; rfl
    refine ⟨_, _, _, rfl, k2.k0 z0, cm2, ka.cell0 cm2, h2.sm.push true F2 (fun i hl hi hN => ?_) hlen fun q3 n3 c3 w3 s3 k3 k3' => ⟨_, _, _, rfl, kso k3' nob (by rw [alloc_size]; omega), ?_⟩⟩
    · have hN : W.heap.size ≤ i := hN
      have := hD i (by rw [hi]; decide)
      omega
    have h3b := h2.big.kp k3 (fun e => by rw [h.db] at e; cases e)
    obtain ⟨g1, g2, g3⟩ := slot0 (w0 := w) (js := [0, 1, 2, 3, 4, 5, 6]) h3b (i := 0) (by simp) hbg
    refine ⟨g1, g2, g3, fun _ => ⟨_, rfl, rfl, ?_⟩⟩
    have ec : refusedP p o.stp = { p with may := p.may ++ [(true, p.now)] } := by
      unfold refusedP
      rw [if_neg (by show ¬ o.k = 1; omega), if_pos hk]
    rw [ec]
    -- the new set: of 1, or new
    have hK2 : ∀ i, (D i = 1 ∨ W.heap.size ≤ i ∨ fresh w2 i) → D i = 1 ∨ w.heap.size ≤ i := fun i hi => by
      rcases hi with hi | hi | hi
      · exact .inl hi
      · exact .inr (by omega)
      · have hi : w2.heap.size ≤ i := hi
        exact .inr (by omega)
    obtain ⟨m1, m2⟩ := MD.setMay h hD (K2.wide.trans k3) s3 hK2
    exact MStep.upd1 m1 (Nat.le_refl _) m2
  refine bif_eq (fun hk => ?_) (fun hk1 => bif_eq (fun hk => bif_eq (fun _ => ?_) (fun hh => absurd hk hh)) (fun hk12 => bif_eq (fun hk => bif_eq (fun _ => ?_) (fun hh => absurd hk hh)) (fun hk13 => bif_eq (fun hk => ?_) (fun hk14 => ?_))))
  · refine ⟨_, _, _, cellm, h0.sm.push true (FOwn.nil W (fun _ => False)) (fun _ _ _ h => h) hlen fun q3 n3 c3 w3 s3 k3 k3' => ⟨_, _, _, rfl, kso k3' nob (by rw [alloc_size]; omega), ?_⟩⟩
    have h3b := h0.big.kp k3 (fun e => by rw [h.db] at e; cases e)
    obtain ⟨g1, g2, g3⟩ := slot0 (w0 := w) (js := [0, 1, 2, 3, 4, 5, 6]) h3b (i := 0) (by simp) hbg
    refine ⟨g1, g2, g3, fun _ => ⟨_, rfl, rfl, ?_⟩⟩
    have ec : refusedP p o.stp = { p with may := p.may ++ [(true, [])] } := by
      unfold refusedP
      rw [if_pos hk]
    rw [ec]
    obtain ⟨m1, m2⟩ := MD.setMay h hD (k0.wide.trans k3) s3 (fun i hi => by
      rcases hi with hi | hi | hi
      · exact .inl hi
      · exact hi.elim
      · have hi : W.heap.size ≤ i := hi
        exact .inr (by omega))
    exact MStep.upd1 m1 (Nat.le_refl _) m2
  · exact ⟨_, _, _, by rw [hdr.big.cell]; rfl, _, _, _, en, more (.inl hk)⟩
  · exact ⟨_, _, _, by rw [hdr.big.cell]; rfl, _, _, _, en, more (.inr (.inl hk))⟩
  · exact ⟨_, _, _, by rw [hdr.big.cell]; rfl, _, _, _, en, more (.inr (.inr hk))⟩
  · refine fun _ => ⟨_, rfl, rfl, ?_⟩
    have ec : refusedP p o.stp = p := by
      unfold refusedP
      rw [if_neg hk1, if_neg (by show ¬ (o.k = 12 ∨ o.k = 13 ∨ o.k = 14); omega)]
    rw [ec]
    exact MStep.of h0 (fun i hi => .inl hi) k0.wide
end Go.Proofs.YtbpknjldphckgaaDoor

namespace Go.Proofs.YtbpknjldphckgaaDoor
open Go Go.SX Go.Proofs Go.Lib
set_option maxRecDepth 100000
set_option linter.unusedVariables false
set_option linter.unusedSimpArgs false
variable {w w5 : World} {D : Nat → Nat} {b : Nat} {p : MM} {cm cn cd : Value}
theorem slot4 {cs : List Value} {i g g' : Nat} {js js' : List Nat} (h : Big w5 b 185 cs) (hi : i < cs.length) (hg : b ≠ g) (hg' : b ≠ g') : (∃ v, w5.cell? ⟨b, i, none⟩ = some v) ∧ w5.frozen? ⟨b, i, none⟩ = false ∧ Apart ⟨b, i, none⟩ g js ∧ Apart ⟨b, i, none⟩ g' js' := ⟨(Big.slot h hi).1, (Big.slot h hi).2, .inl hg, .inl hg'⟩
theorem c146 (h : MD w D b p cm cn cd) (hD : ∀ i, D i ≠ 0 → i < w.heap.size) (ok : OkP p) (o : Ox) (a : Ax) (ho : OpAt w o) (hol : o.d.length ≤ 1000000) (ha : FIn w (fun i => D i = 0) a.lq a.L.length a.L) (hal : bigL a.L) :
    Rets Tryd.prog 146 #[pt b, opV o, anV a] w fun v w' => v = .tuple #[] ∧ MStep w D b w' (doneP p o.stp a.ans) := by
  refine ent [_, _, _] Tryd.func146 ((vcTryd146 _ _ _ _ _ _ _ _ _ _ _ _ _ _ _ _ _ _ _ _ _ _ _ _ _ w _).mpr ?_)
  unfold VCTryd146
  have hbl := h.big.lt
  obtain ⟨k0, z0⟩ := opKp w o
  have B0 : Big (w.alloc (.cells (opC o) 124)) w.heap.size 124 (opC o).toList := Big.new _ _ 124
  rw [opEq, anEq]
  have hbg : b ≠ w.heap.size := by omega
  generalize w.alloc (.cells (opC o) 124) = W0 at *
  obtain ⟨k1, z1⟩ := anKp W0 a
  have hbg' : b ≠ W0.heap.size := by have := k0.size; omega
  generalize W0.alloc (.cells (anC a) 126) = W at *
  have K := k0.trans k1
  have Kd := K.drew
  have zW : w.heap.size ≤ W.heap.size := K.size
  have h0 := h.kp0 K
  have hdr := h.kp0 Kd
  have hb : ∀ {w5 : World}, W.heap.size ≤ w5.heap.size → ∀ b ∈ [w.heap.size, W0.heap.size], b < w5.heap.size := fun {w5} k b hb => by
    simp only [List.mem_cons, List.not_mem_nil, or_false] at hb
    rcases hb with rfl | rfl <;> omega
  simp only [ptr_some, ad_add, Nat.zero_add, Nat.add_zero]
  obtain ⟨qn, nn, cnn, en, rn⟩ := hdr.rd.now
  obtain ⟨qd, nd, cdd, ed, rd⟩ := hdr.rd.dat
  have en0 : W.cell? ⟨b, 4, none⟩ = some (.slice qn nn cnn) := en
  have e1 : bytesL (ba o.s) = o.s := bytesL_ba _
  have es : p.now = p.now := rfl
  -- the cell of the map set anew
  have setN : ∀ {w5 : World} {v : Value} {L' : List Fil}, Kp none_ w w5 → FOwn w5 (fun i => w.heap.size ≤ i) v L' → MStep w D b (w5.setCell ⟨b, 4, none⟩ v) { p with now := L' } := fun k f => by
    obtain ⟨m1, m2⟩ := MD.setNow h hD k f (fun i hi => hi)
    exact MStep.upd1 m1 (Nat.le_refl _) m2
  -- the states: one, that of the map
  have oneS : ∀ {w5 : World} {v : Value} {L' : List Fil}, Kp none_ w w5 → FOwn w5 (fun i => w.heap.size ≤ i) v L' → MStep w D b ((w5.alloc (.cells #[.bool true, v] 130)).setCell ⟨b, 0, none⟩ (.slice (some ⟨w5.heap.size, 0, none⟩) 1 1)) { p with may := [(true, L')] } := fun {w5 v L'} k f => by
    have ka : Kp none_ w5 (w5.alloc (.cells #[.bool true, v] 130)) := (Kp.refl none_ _).alloc1 _
    obtain ⟨m1, m2⟩ := MD.setMay h hD (k.trans ka).wide (SOwn.one true f) (fun i hi => hi.elim .inr fun hf => .inr (by have hf : w5.heap.size ≤ i := hf; have := k.size; omega))
    exact MStep.upd1 m1 (Nat.le_refl _) m2
  have F : ∀ {w5 : World} {v : Value} {L : List Fil}, FOwn w5 (fun i => W.heap.size ≤ i) v L → FOwn w5 (fun i => w.heap.size ≤ i) v L := fun f => f.mono fun i _ hi => by
    have hi : W.heap.size ≤ i := hi
    omega
  have sync : (o.k = 12 ∨ o.k = 13 ∨ o.k = 14) → ∀ {Q1 : Prop} {Q2 : World → Option Addr → Nat → Nat → Prop}, Q1 → Rets Tryd.prog 139 #[.slice qn nn cnn] W fun v82 w83 => ∃ q84 n85 n86, v82 = .slice q84 n85 n86 ∧ Keeps W w83 [w.heap.size, W0.heap.size] ∧ (∃ v88, (w83.alloc (.cells #[.bool true, .slice q84 n85 n86] 130)).cell? ⟨b, 0, none⟩ = some v88) ∧ (w83.alloc (.cells #[.bool true, .slice q84 n85 n86] 130)).frozen? ⟨b, 0, none⟩ = false ∧ Apart ⟨b, 0, none⟩ w.heap.size [0, 1, 2, 3, 4, 5, 6] ∧ Apart ⟨b, 0, none⟩ W0.heap.size [0, 1, 2, 3, 4, 5, 6] ∧
      (Q2 w83 q84 n85 n86 → ∃ v, Ending.returned (.tuple #[]) = Ending.returned v ∧ v = .tuple #[] ∧ MStep w D b ((w83.alloc (.cells #[.bool true, .slice q84 n85 n86] 130)).setCell ⟨b, 0, none⟩ (.slice (some ⟨w83.heap.size, 0, none⟩) 1 1)) (doneP p o.stp a.ans)) := fun hk Q1 Q2 _ => by
    refine (c139 (w := W) (q := qn) (c := cnn) (n := nn) (L := p.now) (by obtain ⟨q', n', c', e', r'⟩ := h0.rd.now; rw [en0] at e'; cases e'; exact r') ok.now).mono ?_
    rintro v w2 ⟨f2, k2⟩
    obtain ⟨q2, c2, rfl, _⟩ := f2.rd
    have ka : Kp none_ w2 (w2.alloc (.cells #[.bool true, .slice q2 p.now.length c2] 130)) := (Kp.refl none_ _).alloc1 _
    obtain ⟨g1, g2, g3, g4⟩ := slot4 (js := [0, 1, 2, 3, 4, 5, 6]) (js' := [0, 1, 2, 3, 4, 5, 6]) ((h.big.kp (K.trans k2) id).kp ka id) (i := 0) (by simp) hbg hbg'
    refine ⟨_, _, _, rfl, k2.keeps fun b hbm => ⟨hb (Nat.le_refl _) b hbm, id⟩, g1, g2, g3, g4, fun _ => ⟨_, rfl, rfl, ?_⟩⟩
    have ec : doneP p o.stp a.ans = { p with may := [(true, p.now)] } := by
      unfold doneP
      rw [if_neg (by show ¬ o.k = 1; omega), if_neg (by show ¬ o.k = 2; omega), if_neg (by show ¬ o.k = 3; omega), if_neg (by show ¬ o.k = 4; omega), if_neg (by show ¬ o.k = 5; omega), if_neg (by show ¬ o.k = 6; omega), if_neg (by show ¬ o.k = 7; omega), if_neg (by show ¬ o.k = 11; omega), if_pos hk]
    rw [ec]
    exact oneS (K.trans k2) (F f2)
  refine bif_eq (fun hk => ?_) (fun hk1 => bif_eq (fun hk => ?_) (fun hk2 => bif_eq (fun hk => ?_) (fun hk3 => bif_eq (fun hk => ?_) (fun hk4 => bif_eq (fun hk => ?_) (fun hk5 => bif_eq (fun hk => ?_) (fun hk6 => bif_eq (fun hk => ?_) (fun hk7 => bif_eq (fun hk => ?_) (fun hk11 => bif_eq (fun hk => bif_eq (fun _ => ?_) (fun hh => absurd hk hh)) (fun hk12 => bif_eq (fun hk => bif_eq (fun _ => ?_) (fun hh => absurd hk hh)) (fun hk13 => bif_eq (fun hk => ?_) (fun hk14 => ?_)))))))))))
  · -- Create
    have ka : Kp none_ W (W.alloc (.cells #[.bool true, .slice none 0 0] 130)) := (Kp.refl none_ _).alloc1 _
    obtain ⟨g1, g2, g3, g4⟩ := slot4 (js := [0, 1, 2, 3, 4, 5, 6]) (js' := [0, 1, 2, 3, 4, 5, 6]) (h0.big.kp ka id) (i := 0) (by simp) hbg hbg'
    refine ⟨g1, g2, g3, g4, fun _ => ⟨_, rfl, rfl, ?_⟩⟩
    have ec : doneP p o.stp a.ans = { p with may := [(true, [])] } := by unfold doneP; rw [if_pos hk]
    rw [ec]
    exact oneS K ((FOwn.nil W (fun _ => False)).mono fun _ _ h => h.elim)
  · -- Open
    intro _
    refine (c139 (ha.kp0 K).rd hal).mono ?_
    rintro v w3 ⟨f3, k3⟩
    obtain ⟨q3, c3, rfl, _⟩ := f3.rd
    have K3 := K.trans k3
    have h3 := h.kp0 K3
    refine ⟨_, _, _, rfl, k3.keeps fun b hbm => ⟨hb (Nat.le_refl _) b hbm, id⟩, ?_⟩
    obtain ⟨g1, g2, g3, g4⟩ := slot4 (js := [0, 1, 2, 3, 4, 5, 6]) (js' := [0, 1, 2, 3, 4, 5, 6]) h3.big (i := 1) (by simp) hbg hbg'
    refine ⟨g1, g2, g3, g4, ?_⟩
    obtain ⟨m4, kk4⟩ := h3.flag 1 (.bool true) { p with opn := true } rfl rfl rfl rfl
    generalize w3.setCell ⟨b, 1, none⟩ (.bool true) = w4 at *
    have zz4 := kk4.size
    have f4 : FOwn w4 (fun i => w.heap.size ≤ i) (.slice q3 a.L.length c3) a.L := (F f3).kp kk4 fun i hl hi => ⟨fun hd => by have := hD i hd; omega, hi⟩
    obtain ⟨g1, g2, g3, g4⟩ := slot4 (js := [0, 1, 2, 3, 4, 5, 6]) (js' := [0, 1, 2, 3, 4, 5, 6]) m4.big (i := 4) (by simp) hbg hbg'
    refine ⟨g1, g2, g3, g4, ?_⟩
    obtain ⟨m5, kk5⟩ := MD.setNow m4 hD (Kp.refl none_ _) f4 (fun i hi => hi)
    have hz5 : (w4.setCell ⟨b, 4, none⟩ (.slice q3 a.L.length c3)).heap.size = w4.heap.size := by
      have := (Big.setKp (w := w4) (g := b) 4 (.slice q3 a.L.length c3) (S := fun _ => True) trivial).size
      exact Nat.le_antisymm (by simp [World.setCell]) this
    generalize w4.setCell ⟨b, 4, none⟩ (.slice q3 a.L.length c3) = w5 at *
    have zz5 := kk5.size
    have K5 : Kp (fun i => D i ≠ 0) w w5 := (K3.wide.trans kk4).trans kk5
    intro _
    refine (c139 (ha.kp K5 (Q' := fun _ => True) fun i hl hi => ⟨fun hn => hn hi, trivial⟩).rd hal).mono ?_
    rintro v w6 ⟨f6, k6⟩
    obtain ⟨q6, c6, rfl, _⟩ := f6.rd
    have zz3 := k3.size
    refine ⟨_, _, _, rfl, k6.keeps fun b hbm => ⟨hb (by omega) b hbm, id⟩, ?_⟩
    have ka : Kp none_ w6 (w6.alloc (.cells #[.bool true, .slice q6 a.L.length c6] 130)) := (Kp.refl none_ _).alloc1 _
    obtain ⟨g1, g2, g3, g4⟩ := slot4 (js := [0, 1, 2, 3, 4, 5, 6]) (js' := [0, 1, 2, 3, 4, 5, 6]) ((m5.big.kp k6 id).kp ka id) (i := 0) (by simp) hbg hbg'
    refine ⟨g1, g2, g3, g4, fun _ => ⟨_, rfl, rfl, ?_⟩⟩
    have ec : doneP p o.stp a.ans = { p with opn := true, now := a.L, may := [(true, a.L)] } := by unfold doneP; rw [if_neg hk1, if_pos hk]
    rw [ec]
    have hD5 : ∀ i, upd D w.heap.size w4.heap.size 2 i ≠ 0 → i < w5.heap.size := fun i hi => (upd_nz hi).elim (fun h => by omega) fun h => by omega
    obtain ⟨m7, kk7⟩ := MD.setMay m5 hD5 (k6.trans ka).wide (SOwn.one true f6) (fun i hi => hi.elim (fun h => .inr h) fun hf => .inr (by have hf : w6.heap.size ≤ i := hf; have := k6.size; omega))
    refine MStep.trans (D1 := upd D w.heap.size w4.heap.size 2) (fun i hi => (upd_nz hi).elim (fun h => .inl h.2) fun h => .inr h.1) K5 (MStep.upd1 m7 (Nat.le_refl _) kk7)
  · -- Put
    refine ⟨_, _, _, en, fun _ => (c89 rn ok.asc ok.now (ba o.s) ⟨ho.dat.kp0 Kd, rfl, ho.le⟩ (by omega)).mono ?_⟩
    rw [e1]
    rintro v w2 ⟨f2, k2⟩
    have k2' := Kp.of_drew k2
    obtain ⟨q2, c2, rfl, _⟩ := f2.rd
    obtain ⟨g1, g2, g3, g4⟩ := slot4 (js := [0, 1, 2, 3, 4, 5, 6]) (js' := [0, 1, 2, 3, 4, 5, 6]) (h.big.kp (K.trans k2') id) (i := 4) (by simp) hbg hbg'
    refine ⟨_, _, _, rfl, k2.keeps fun b hbm => ⟨hb (Nat.le_refl _) b hbm, id⟩, g1, g2, g3, g4, fun _ => ⟨_, rfl, rfl, ?_⟩⟩
    have ec : doneP p o.stp a.ans = { p with now := withK Prod.fst p.now o.s (o.s, o.d) } := by unfold doneP; rw [if_neg hk1, if_neg hk2, if_pos hk]
    rw [ec]
    exact setN (K.trans k2') (F f2)
  · -- Begin
    obtain ⟨g1, g2, g3, g4⟩ := slot4 (js := [0, 1, 2, 3, 4, 5, 6]) (js' := [0, 1, 2, 3, 4, 5, 6]) hdr.big (i := 3) (by simp) hbg hbg'
    refine ⟨g1, g2, g3, g4, ?_⟩
    have B2 : Big W.drew w.heap.size 124 (opC o).toList := B0.kp k1.drew id
    obtain ⟨m3, kk3⟩ := hdr.flag 3 (.bool true) { p with streaming := true } rfl rfl rfl rfl
    have B3 := B2.kp kk3 (fun hn => by have := hD _ hn; omega)
    generalize W.drew.setCell ⟨b, 3, none⟩ (.bool true) = w3 at *
    refine ⟨by rw [B3.cell]; rfl, ?_⟩
    obtain ⟨g1, g2, g3, g4⟩ := slot4 (js := [0, 1, 2, 3, 4, 5, 6]) (js' := [0, 1, 2, 3, 4, 5, 6]) m3.big (i := 5) (by simp) hbg hbg'
    refine ⟨g1, g2, g3, g4, ?_⟩
    obtain ⟨m4, kk4⟩ := m3.flag 5 (.string (ba o.s)) { p with streaming := true, name := o.s } rfl rfl rfl rfl
    generalize w3.setCell ⟨b, 5, none⟩ (.string (ba o.s)) = w4 at *
    obtain ⟨g1, g2, g3, g4⟩ := slot4 (js := [0, 1, 2, 3, 4, 5, 6]) (js' := [0, 1, 2, 3, 4, 5, 6]) m4.big (i := 6) (by simp) hbg hbg'
    refine ⟨g1, g2, g3, g4, fun _ => ⟨_, rfl, rfl, ?_⟩⟩
    have ec : doneP p o.stp a.ans = { p with streaming := true, name := o.s, data := [] } := by unfold doneP; rw [if_neg hk1, if_neg hk2, if_neg hk3, if_pos hk]
    rw [ec]
    have K4 : Kp (fun i => D i ≠ 0) w w4 := (Kd.wide.trans kk3).trans kk4
    obtain ⟨m5, kk5⟩ := MD.setDat m4 hD (Kp.refl _ _) (N := fun _ => False) (cd' := .slice none 0 0) (d' := []) (OwnRow.nil _ _ _ _) (fun _ h => h.elim)
    exact MStep.upd1 m5 (Nat.le_refl _) (K4.trans kk5)
  · -- Write
    have hdl := ok.dat
    refine ⟨_, _, _, ed, ?_⟩
    obtain ⟨q', c', ecd⟩ := hdr.sd.slice
    have hcd : cd = .slice qd nd cdd := by
      have := hdr.big.cell 6
      rw [ed] at this
      simpa using this.symm
    subst hcd
    refine bytes_app hdr.sd (ho.dat.kp0 Kd) (by omega) fun q2 n2 c2 w2 r2 k2 => ?_
    obtain ⟨g1, g2, g3, g4⟩ := slot4 (js := [0, 1, 2, 3, 4, 5, 6]) (js' := [0, 1, 2, 3, 4, 5, 6]) (hdr.big.kp k2 (fun e => by rw [h.db] at e; cases e)) (i := 6) (by simp) hbg hbg'
    refine ⟨_, _, _, rfl, k2.keeps fun b hbm => ⟨hb (Nat.le_refl _) b hbm, fun e => ?_⟩, g1, g2, g3, g4, fun _ => ⟨_, rfl, rfl, ?_⟩⟩
    · have := hD b (by rw [e]; decide)
      have := k0.size
      simp only [List.mem_cons, List.not_mem_nil, or_false] at hbm
      rcases hbm with rfl | rfl <;> omega
    have ec : doneP p o.stp a.ans = { p with data := p.data ++ o.d } := by unfold doneP; rw [if_neg hk1, if_neg hk2, if_neg hk3, if_neg hk4, if_pos hk]
    rw [ec]
    obtain ⟨m5, kk5⟩ := MD.setDat h hD (Kd.wide.trans k2) r2 (fun i hi => hi.imp id fun hf => by have hf : W.heap.size ≤ i := hf; omega)
    exact MStep.upd1 m5 (Nat.le_refl _) kk5
  · -- Finish
    have hdl := ok.dat
    have enm : W.drew.cell? ⟨b, 5, none⟩ = some (.string (ba p.name)) := hdr.rd.nam
    have hnd := rd.len
    refine ⟨_, _, _, en, _, enm, _, _, _, ed, fun _ => (c89 rn ok.asc ok.now (ba p.name) rd (by omega)).mono ?_⟩
    rw [bytesL_ba]
    rintro v w2 ⟨f2, k2⟩
    have k2' := Kp.of_drew k2
    obtain ⟨q2, c2, rfl, _⟩ := f2.rd
    obtain ⟨g1, g2, g3, g4⟩ := slot4 (js := [0, 1, 2, 3, 4, 5, 6]) (js' := [0, 1, 2, 3, 4, 5, 6]) (h.big.kp (K.trans k2') id) (i := 4) (by simp) hbg hbg'
    refine ⟨_, _, _, rfl, k2.keeps fun b hbm => ⟨hb (Nat.le_refl _) b hbm, id⟩, g1, g2, g3, g4, ?_⟩
    obtain ⟨m3, kk3⟩ := MD.setNow h hD (K.trans k2') (F f2) (fun i hi => hi)
    generalize hE : w2.setCell ⟨b, 4, none⟩ (.slice q2 (withK Prod.fst p.now p.name (p.name, p.data)).length c2) = w3 at *
    obtain ⟨g1, g2, g3, g4⟩ := slot4 (js := [0, 1, 2, 3, 4, 5, 6]) (js' := [0, 1, 2, 3, 4, 5, 6]) m3.big (i := 3) (by simp) hbg hbg'
    refine ⟨g1, g2, g3, g4, fun _ => ⟨_, rfl, rfl, ?_⟩⟩
    have ec : doneP p o.stp a.ans = { p with now := withK Prod.fst p.now p.name (p.name, p.data), streaming := false } := by unfold doneP; rw [if_neg hk1, if_neg hk2, if_neg hk3, if_neg hk4, if_neg hk5, if_pos hk]
    rw [ec]
    obtain ⟨m4, kk4⟩ := m3.flag 3 (.bool false) { p with now := withK Prod.fst p.now p.name (p.name, p.data), streaming := false } rfl rfl rfl rfl
    refine MStep.upd1 m4 (Nat.le_refl _) (kk3.then kk4 fun i hl hi => (upd_nz hi).elim (fun h => h.2) fun h => by omega)
  · -- Abort
    obtain ⟨g1, g2, g3, g4⟩ := slot4 (js := [0, 1, 2, 3, 4, 5, 6]) (js' := [0, 1, 2, 3, 4, 5, 6]) h0.big (i := 3) (by simp) hbg hbg'
    refine ⟨g1, g2, g3, g4, fun _ => ⟨_, rfl, rfl, ?_⟩⟩
    obtain ⟨m3, kk3⟩ := h0.flag 3 (.bool false) { p with streaming := false } rfl rfl rfl rfl
    have ec : doneP p o.stp a.ans = { p with streaming := false } := by unfold doneP; rw [if_neg hk1, if_neg hk2, if_neg hk3, if_neg hk4, if_neg hk5, if_neg hk6, if_pos hk]
    rw [ec]
    exact MStep.of m3 (fun i hi => .inl hi) (K.wide.trans kk3)
  · -- Delete
    refine ⟨_, _, _, en, fun _ => (c90 rn ok.asc ok.now (ba o.s)).mono ?_⟩
    rw [e1]
    rintro v w2 ⟨f2, k2⟩
    have k2' := Kp.of_drew k2
    obtain ⟨q2, c2, rfl, _⟩ := f2.rd
    obtain ⟨g1, g2, g3, g4⟩ := slot4 (js := [0, 1, 2, 3, 4, 5, 6]) (js' := [0, 1, 2, 3, 4, 5, 6]) (h.big.kp (K.trans k2') id) (i := 4) (by simp) hbg hbg'
    refine ⟨_, _, _, rfl, k2.keeps fun b hbm => ⟨hb (Nat.le_refl _) b hbm, id⟩, g1, g2, g3, g4, fun _ => ⟨_, rfl, rfl, ?_⟩⟩
    have ec : doneP p o.stp a.ans = { p with now := withoutK Prod.fst p.now o.s } := by unfold doneP; rw [if_neg hk1, if_neg hk2, if_neg hk3, if_neg hk4, if_neg hk5, if_neg hk6, if_neg hk7, if_pos hk]
    rw [ec]
    exact setN (K.trans k2') (F f2)
  · exact ⟨_, _, _, en0, sync (.inl hk)⟩
  · exact ⟨_, _, _, en0, sync (.inr (.inl hk))⟩
  · exact ⟨_, _, _, en0, sync (.inr (.inr hk))⟩
  · refine fun _ => ⟨_, rfl, rfl, ?_⟩
    have ec : doneP p o.stp a.ans = p := by unfold doneP; rw [if_neg hk1, if_neg hk2, if_neg hk3, if_neg hk4, if_neg hk5, if_neg hk6, if_neg hk7, if_neg hk11, if_neg (by show ¬ (o.k = 12 ∨ o.k = 13 ∨ o.k = 14); omega)]
    rw [ec]
    exact MStep.of h0 (fun i hi => .inl hi) K.wide
end Go.Proofs.YtbpknjldphckgaaDoor

namespace Go.Proofs.YtbpknjldphckgaaDoor
open Go Go.SX Go.Proofs Go.Lib
set_option maxRecDepth 100000
set_option linter.unusedVariables false
set_option linter.unusedSimpArgs false
variable {w w5 : World} {D : Nat → Nat} {b : Nat} {p : MM} {cm cn cd : Value}
theorem set_size (w : World) (x : Addr) (v : Value) : (w.setCell x v).heap.size = w.heap.size := by simp [World.setCell]
theorem c94 (hml : ML w) (h : MD w D b p cm cn cd) (hD : ∀ i, D i ≠ 0 → i < w.heap.size) (ok : OkP p) (o : Ox) (a : Ax) (ho : OpAt w o) (hol : o.d.length ≤ 1000000) (hos : o.s.length ≤ 1000000) (han : AnAt w a) (hn : a.n.length ≤ 1000000) (ha : FIn w (fun i => D i = 0) a.lq a.L.length a.L) (hal : bigL a.L) :
    Rets Tryd.prog 94 #[pt b, opV o, anV a] w fun v w' => v = .bool (mayM p o.stp a.ans) ∧ MStep w D b w' (if mayM p o.stp a.ans = true then stepP p o.stp a.ans else p) := by
  refine ent [_, _, _] Tryd.func94 ((vcTryd94 _ _ _ _ _ _ _ _ _ _ _ _ _ _ _ _ _ _ _ _ _ _ _ _ _ w _).mpr ?_)
  unfold VCTryd94
  refine bif_b (fun hn => by cases hn) (fun _ => ?_)
  have hbl := h.big.lt
  obtain ⟨k0, z0⟩ := opKp w o
  rw [opEq, anEq]
  have hbg : b ≠ w.heap.size := by omega
  generalize w.alloc (.cells (opC o) 124) = W0 at *
  obtain ⟨k1, z1⟩ := anKp W0 a
  have hbg' : b ≠ W0.heap.size := by have := k0.size; omega
  generalize W0.alloc (.cells (anC a) 126) = W at *
  have K := k0.trans k1
  have zW : w.heap.size ≤ W.heap.size := K.size
  have h0 := h.kp0 K
  have hb : ∀ {w5 : World}, W.heap.size ≤ w5.heap.size → ∀ b ∈ [w.heap.size, W0.heap.size], b < w5.heap.size := fun {w5} k b hb => by
    simp only [List.mem_cons, List.not_mem_nil, or_false] at hb
    rcases hb with rfl | rfl <;> omega
  have nob : ∀ b ∈ [w.heap.size, W0.heap.size], ¬ D b ≠ 0 := fun b hb hn => by
    have := hD b hn
    have := k0.size
    simp only [List.mem_cons, List.not_mem_nil, or_false] at hb
    rcases hb with rfl | rfl <;> omega
  simp only [ptr_some, ad_add, Nat.zero_add, Nat.add_zero]
  rw [← given_may]
  intro _
  refine (c142 (hml.kp0 K) h0.rd ok o a (han.kp0 K) hos hn).mono ?_
  rintro v w1 ⟨rfl, k2⟩
  have K2 := K.trans k2
  refine ⟨_, rfl, k2.keeps fun b hbm => ⟨hb (Nat.le_refl _) b hbm, id⟩, bif_not (fun hg _ => ⟨_, rfl, by rw [hg]; rfl, ?_⟩) (fun hg => ?_)⟩
  · rw [hg]
    exact MStep.of (h.kp0 K2) (fun i hi => .inl hi) K2.wide
  intro _
  refine (c143 (h.kp0 K2).rd o a).mono ?_
  rintro v w2 ⟨rfl, k3⟩
  have K3 := K2.trans k3
  refine ⟨_, rfl, k3.keeps fun b hbm => ⟨hb k2.size b hbm, id⟩, bif_not (fun hp _ => ⟨_, rfl, by rw [hg, hp]; rfl, ?_⟩) (fun hp => ?_)⟩
  · rw [hg, hp]
    exact MStep.of (h.kp0 K3) (fun i hi => .inl hi) K3.wide
  intro _
  refine (c144 (h.kp0 K3).rd o a).mono ?_
  rintro v w3 ⟨rfl, k4⟩
  have K4 := K3.trans k4
  have zz3 : W.heap.size ≤ w3.heap.size := Nat.le_trans k2.size (Nat.le_trans k3.size k4.size)
  refine ⟨_, rfl, k4.keeps fun b hbm => ⟨hb (Nat.le_trans k2.size k3.size) b hbm, id⟩, ?_⟩
  have h4 := h.kp0 K4
  have ek : ∀ {w' p'}, MStep w3 D b w' p' → MStep w D b w' p' := fun hh => MStep.trans (fun i hi => .inl hi) K4.wide hh
  have hD4 : ∀ i, D i ≠ 0 → i < w3.heap.size := fun i hi => by have := hD i hi; omega
  have ko : ∀ {w' p'}, MStep w3 D b w' p' → Keeps w3 w' [w.heap.size, W0.heap.size] := fun hh => by
    obtain ⟨_, _, _, _, _, _, k⟩ := hh
    exact k.keeps fun b hbm => ⟨hb zz3 b hbm, nob b hbm⟩
  refine ⟨fun _ _ _ _ _ _ _ _ _ _ _ _ _ _ _ _ _ _ _ _ _ _ _ t33 w34 => t33 = a.po ∧ MStep w D b w34 (midP p o.stp a.ans), ?_, ?_⟩
  · rintro _ _ _ _ _ _ _ _ _ _ _ _ _ _ _ _ _ _ _ _ _ _ _ _ w34 ⟨rfl, D1, cm1, cn1, cd1, m1, hD1, kk1⟩ _
    obtain ⟨g1, g2, g3, g4⟩ := slot4 (js := [0, 1, 2, 3, 4, 5, 6]) (js' := [0, 1, 2, 3, 4, 5, 6]) m1.big (i := 2) (by simp) hbg hbg'
    refine ⟨g1, g2, g3, g4, fun _ _ _ _ _ _ _ _ _ _ _ _ _ _ _ _ _ _ _ _ _ _ _ _ w62 => MStep w D b w62 (stepP p o.stp a.ans), ?_, ?_⟩
    · intro _ _ _ _ _ _ _ _ _ _ _ _ _ _ _ _ _ _ _ _ _ _ _ _ w62 hh _ _
      refine ⟨_, rfl, by rw [hg, hp]; rfl, ?_⟩
      rw [hg, hp]
      exact hh
    have e0 : stepP p o.stp a.ans = endP (midP p o.stp a.ans) a.ans (!openM p o.stp a.ans) := rfl
    rw [e0]
    generalize midP p o.stp a.ans = pm at *
    obtain ⟨m2, kk2⟩ := m1.flag 2 (.bool a.po) { pm with poisoned := a.po } rfl rfl rfl rfl
    have hD1' : ∀ i, D1 i ≠ 0 → i < w34.heap.size := fun i hi => (hD1 i hi).2
    refine bif_b (fun hsh => ?_) (fun hsh => ?_)
    · rw [hsh]
      have hs2 := set_size w34 ⟨b, 2, none⟩ (.bool a.po)
      generalize w34.setCell ⟨b, 2, none⟩ (.bool a.po) = w4 at *
      obtain ⟨g1, g2, g3, g4⟩ := slot4 (js := [0, 1, 2, 3, 4, 5, 6]) (js' := [0, 1, 2, 3, 4, 5, 6]) m2.big (i := 1) (by simp) hbg hbg'
      refine ⟨g1, g2, g3, g4, ?_⟩
      obtain ⟨m3, kk3⟩ := m2.flag 1 (.bool false) { pm with poisoned := a.po, opn := false } rfl rfl rfl rfl
      have hs3 := set_size w4 ⟨b, 1, none⟩ (.bool false)
      generalize w4.setCell ⟨b, 1, none⟩ (.bool false) = w5 at *
      obtain ⟨g1, g2, g3, g4⟩ := slot4 (js := [0, 1, 2, 3, 4, 5, 6]) (js' := [0, 1, 2, 3, 4, 5, 6]) m3.big (i := 3) (by simp) hbg hbg'
      refine ⟨g1, g2, g3, g4, ?_⟩
      obtain ⟨m4, kk4⟩ := m3.flag 3 (.bool false) { pm with poisoned := a.po, opn := false, streaming := false } rfl rfl rfl rfl
      have hs4 := set_size w5 ⟨b, 3, none⟩ (.bool false)
      generalize w5.setCell ⟨b, 3, none⟩ (.bool false) = w6 at *
      obtain ⟨g1, g2, g3, g4⟩ := slot4 (js := [0, 1, 2, 3, 4, 5, 6]) (js' := [0, 1, 2, 3, 4, 5, 6]) m4.big (i := 4) (by simp) hbg hbg'
      refine ⟨g1, g2, g3, g4, ?_⟩
      obtain ⟨m5, kk5⟩ := MD.setNow (E := w34.heap.size) m4 hD1' (Kp.refl none_ _) (FOwn.nil w6 (fun _ => False)) (fun i hi => hi.elim)
      have hs5 := set_size w6 ⟨b, 4, none⟩ (.slice none 0 0)
      generalize w6.setCell ⟨b, 4, none⟩ (.slice none 0 0) = w7 at *
      obtain ⟨g1, g2, g3, g4⟩ := slot4 (js := [0, 1, 2, 3, 4, 5, 6]) (js' := [0, 1, 2, 3, 4, 5, 6]) m5.big (i := 6) (by simp) hbg hbg'
      refine ⟨g1, g2, g3, g4, ?_⟩
      have hD5 : ∀ i, upd D1 w34.heap.size w6.heap.size 2 i ≠ 0 → i < w34.heap.size := fun i hi => (upd_nz hi).elim (fun h => h.1) fun h => by omega
      obtain ⟨m6, kk6⟩ := MD.setDat (E := w34.heap.size) m5 hD5 (Kp.refl _ _) (N := fun _ => False) (cd' := .slice none 0 0) (d' := []) (OwnRow.nil _ _ _ _) (fun _ h => h.elim)
      have kA : Kp (fun i => D1 i ≠ 0) w34 w7 := ((kk2.trans kk3).trans kk4).trans kk5
      have kB := kA.then kk6 fun i hl hi => (upd_nz hi).elim (fun h => h.2) fun h => by omega
      refine MStep.trans (D1 := D1) (fun i hi => (hD1 i hi).1) kk1 (MStep.of m6 (fun i hi => ?_) kB)
      rcases upd_nz hi with h | h
      · exact (upd_nz h.2).elim (fun h => .inl h.2) fun h => .inr h.1
      · exact .inr h.1
    · rw [hsh]
      exact MStep.trans (D1 := D1) (fun i hi => (hD1 i hi).1) kk1 (MStep.of m2 (fun i hi => .inl hi) kk2)
  · refine bif_b (fun hr => ?_) (fun hr => bif_eq (fun he => ?_) (fun he => bif_eq (fun he7 => bif_eq (fun hk => ?_) (fun hk => ⟨rfl, ?_⟩)) (fun he7 => ⟨rfl, ?_⟩)))
    · intro _
      refine (c145 h4 hD4 ok o).mono ?_
      rintro v w' ⟨rfl, ms⟩
      refine ⟨rfl, ko ms, rfl, ?_⟩
      have : midP p o.stp a.ans = refusedP p o.stp := by unfold midP; rw [if_pos hr]
      rw [this]
      exact ek ms
    · intro _
      have ho4 : OpAt w3 o := ho.kp0 K4
      refine (c146 h4 hD4 ok o a ho4 hol (ha.kp0 K4) hal).mono ?_
      rintro v w' ⟨rfl, ms⟩
      refine ⟨rfl, ko ms, rfl, ?_⟩
      have : midP p o.stp a.ans = doneP p o.stp a.ans := by unfold midP; rw [if_neg (by show ¬ a.re = true; rw [hr]; decide), if_pos he]
      rw [this]
      exact ek ms
    · have ka : Kp none_ w3 (w3.alloc (.cells #[.bool false, .slice none 0 0] 130)) := (Kp.refl none_ _).alloc1 _
      obtain ⟨g1, g2, g3, g4⟩ := slot4 (js := [0, 1, 2, 3, 4, 5, 6]) (js' := [0, 1, 2, 3, 4, 5, 6]) (h4.big.kp ka id) (i := 0) (by simp) hbg hbg'
      refine ⟨g1, g2, g3, g4, rfl, ?_⟩
      have : midP p o.stp a.ans = { p with may := [(false, [])] } := by unfold midP; rw [if_neg (by show ¬ a.re = true; rw [hr]; decide), if_neg he, if_pos ⟨he7, hk⟩]
      rw [this]
      refine ek ?_
      obtain ⟨m1, m2⟩ := MD.setMay h4 hD4 ka.wide (SOwn.one false ((FOwn.nil w3 (fun _ => False)))) (fun i hi => hi.elim (fun h => h.elim) fun hf => .inr hf)
      exact MStep.upd1 m1 (Nat.le_refl _) m2
    · have : midP p o.stp a.ans = p := by unfold midP; rw [if_neg (by show ¬ a.re = true; rw [hr]; decide), if_neg he, if_neg (fun hh => hk hh.2)]
      rw [this]
      exact MStep.of h4 (fun i hi => .inl hi) K4.wide
    · have : midP p o.stp a.ans = p := by unfold midP; rw [if_neg (by show ¬ a.re = true; rw [hr]; decide), if_neg he, if_neg (fun hh => he7 hh.1)]
      rw [this]
      exact MStep.of h4 (fun i hi => .inl hi) K4.wide
end Go.Proofs.YtbpknjldphckgaaDoor

namespace Go.Proofs.YtbpknjldphckgaaDoor
open Go Go.SX Go.Proofs
set_option maxRecDepth 100000
set_option linter.unusedVariables false
def VCTryd83 (w : World) (R : Ending → World → Prop) : Prop :=
Rets Tryd.prog (97 : Nat) #[] w fun (v0 : Value) (w1 : World) =>
 ∃ (q2 : Option Addr),
  v0 = Value.pointer q2 ∧
   Keeps w w1 [] ∧
    bif !q2.isNone then
     Rets Tryd.prog (94 : Nat)
      #[Value.pointer q2,
       Value.agg
        #[Value.int IntKind.i64 (2 : Int), Value.string { data := #[] }, Value.slice none (0 : Nat) (0 : Nat), Value.int IntKind.i64 (0 : Int), Value.slice none (0 : Nat) (0 : Nat),
         Value.int IntKind.i64 (0 : Int), Value.int IntKind.u8 (0 : Int)],
       Value.agg
        #[Value.int IntKind.i64 (7 : Int), Value.slice none (0 : Nat) (0 : Nat), Value.int IntKind.i64 (0 : Int), Value.slice none (0 : Nat) (0 : Nat), Value.slice none (0 : Nat) (0 : Nat), Value.bool false,
         Value.bool false]]
      w1 fun (v3 : Value) (w4 : World) =>
      ∃ (t5 : Bool),
       v3 = Value.bool t5 ∧
        Keeps w1 w4 [] ∧
         bif t5 then
          Rets Tryd.prog (94 : Nat)
           #[Value.pointer q2,
            Value.agg
             #[Value.int IntKind.i64 (2 : Int), Value.string { data := #[] }, Value.slice none (0 : Nat) (0 : Nat), Value.int IntKind.i64 (0 : Int), Value.slice none (0 : Nat) (0 : Nat),
              Value.int IntKind.i64 (0 : Int), Value.int IntKind.u8 (0 : Int)],
            Value.agg
             #[Value.int IntKind.i64 (0 : Int), Value.slice none (0 : Nat) (0 : Nat), Value.int IntKind.i64 (0 : Int), Value.slice none (0 : Nat) (0 : Nat), Value.slice none (0 : Nat) (0 : Nat),
              Value.bool false, Value.bool false]]
           w4 fun (v6 : Value) (w7 : World) =>
           ∃ (t8 : Bool),
            v6 = Value.bool t8 ∧
             Keeps w4 w7 [] ∧
              bif !t8 then
               Rets Tryd.prog (95 : Nat) #[Value.pointer q2, Value.agg #[Value.bool true, Value.slice none (0 : Nat) (0 : Nat)]] w7 fun (v9 : Value) (w10 : World) =>
                ∃ (t11 : Bool), v9 = Value.bool t11 ∧ Keeps w7 w10 [] ∧ R (Ending.returned (Value.bool !t11)) w10
              else R (Ending.returned (Value.bool false)) w7
         else R (Ending.returned (Value.bool false)) w4
    else R (Ending.returned (Value.bool false)) w1
theorem vcTryd83 (w : World) (R : Ending → World → Prop) : SX.vcFn Tryd.prog [] Tryd.f83 [] [] w R = VCTryd83  w R := by kernel_rfl
end Go.Proofs.YtbpknjldphckgaaDoor

namespace Go.Proofs.YtbpknjldphckgaaDoor
open Go Go.SX Go.Proofs Go.Lib
set_option maxRecDepth 100000
set_option linter.unusedVariables false
set_option linter.unusedSimpArgs false
variable {w w5 : World} {D : Nat → Nat} {b : Nat} {p : MM} {cm cn cd : Value}
/-- A model at its beginning. -/
def newD (E : Nat) : Nat → Nat := fun i => if i = E then 1 else if i = E + 1 then 4 else 0
theorem c97 (w : World) : Rets Tryd.prog 97 #[] w fun v w' => v = pt (w.heap.size + 1) ∧ (∃ cm cn cd, MD w' (newD w.heap.size) (w.heap.size + 1) newM cm cn cd) ∧ Kp none_ w w' ∧ w'.heap.size = w.heap.size + 2 := by
  refine ent [] Tryd.func97 ((vcTryd97 w _).mpr ?_)
  unfold VCTryd97
  intro _
  have k1 : Kp none_ w (w.alloc (.cells #[.bool false, .slice none 0 0] 130)) := (Kp.refl none_ w).alloc1 _
  have hs1 : (w.alloc (.cells #[.bool false, .slice none 0 0] 130)).heap.size = w.heap.size + 1 := alloc_size _ _
  have S1 := SOwn.one (w := w) false (FOwn.nil w (fun _ => False))
  generalize w.alloc (.cells #[.bool false, .slice none 0 0] 130) = w1 at *
  have k2 : Kp none_ w1 (w1.alloc (.cells #[.slice (some ⟨w.heap.size, 0, none⟩) 1 1, .bool false, .bool false, .bool false, .slice none 0 0, .string { data := #[] }, .slice none 0 0] 185)) := (Kp.refl none_ w1).alloc1 _
  have B2 : Big (w1.alloc (.cells #[.slice (some ⟨w.heap.size, 0, none⟩) 1 1, .bool false, .bool false, .bool false, .slice none 0 0, .string { data := #[] }, .slice none 0 0] 185)) w1.heap.size 185 [.slice (some ⟨w.heap.size, 0, none⟩) 1 1, .bool false, .bool false, .bool false, .slice none 0 0, .string { data := #[] }, .slice none 0 0] := Big.new _ _ 185
  have hs2 : (w1.alloc (.cells #[.slice (some ⟨w.heap.size, 0, none⟩) 1 1, .bool false, .bool false, .bool false, .slice none 0 0, .string { data := #[] }, .slice none 0 0] 185)).heap.size = w1.heap.size + 1 := alloc_size _ _
  generalize w1.alloc (.cells #[.slice (some ⟨w.heap.size, 0, none⟩) 1 1, .bool false, .bool false, .bool false, .slice none 0 0, .string { data := #[] }, .slice none 0 0] 185) = w2 at *
  refine ⟨_, rfl, by rw [hs1]; rfl, ⟨_, _, _, ⟨by rw [← hs1]; exact B2, ?_, ?_, ?_, ?_⟩⟩, k1.trans k2, by omega⟩
  · unfold newD; rw [if_neg (by omega), if_pos rfl]
  · refine S1.kp k2 fun i hl hi => ⟨id, ?_⟩
    show newD w.heap.size i = 1
    have : i = w.heap.size := by
      rcases hi with hi | hi
      · exact hi.elim
      · have hi : w.heap.size ≤ i := hi
        omega
    unfold newD; rw [if_pos this]
  · exact (FOwn.nil w2 (fun _ => False)).mono fun _ _ h => h.elim
  · exact OwnRow.nil _ _ _ _
theorem c101 (h : MRd w b p) (ok : OkP p) : Rets Tryd.prog 101 #[pt b] w fun v w' => ∃ q n c, v = .tuple #[.slice q n c, .bool p.opn] ∧ FRd w' q n (if p.opn = true then p.now else []) ∧ Kp none_ w w' := by
  refine ent [_] Tryd.func101 ((vcTryd101 _ w _).mpr ?_)
  unfold VCTryd101
  refine bif_b (fun hn => by cases hn) (fun _ => ?_)
  simp only [ptr_some, ad_add, Nat.zero_add]
  refine ⟨_, h.opn, bif_not (fun ho => ⟨_, rfl, none, 0, 0, by rw [ho], ?_, Kp.refl _ _⟩) (fun ho => ?_)⟩
  · rw [if_neg (by rw [ho]; decide)]
    exact ⟨[], rfl, rfl, fun i hi => by simp at hi, fun x hx => by cases hx⟩
  · obtain ⟨q, n, c, e, r⟩ := h.now
    refine ⟨_, _, _, e, (c139 r ok.now).mono ?_⟩
    rintro v w1 ⟨f, k1⟩
    obtain ⟨q1, c1, rfl, r1⟩ := f.rd
    exact ⟨_, _, _, rfl, k1.keeps0, _, rfl, _, _, _, by rw [ho], by rw [if_pos ho]; exact r1, k1⟩
def o2 : Ox := ⟨2, [], [], none, 0, 0, none, 0, 0, 0, 0⟩
def aE (e : Int) : Ax := ⟨e, [], none, 0, 0, [], none, 0, [], none, 0, false, false⟩
theorem bytes0 (w : World) : BytesAt w none (ba []) := fun i hi => absurd hi (by rw [ba_size]; simp)
theorem fin0 (w : World) (Q : Nat → Prop) : FIn w Q none 0 [] := FIn.nil w Q none
theorem anE (w : World) (e : Int) : AnAt w (aE e) := ⟨bytes0 w, ⟨Nat.le_refl _, by show 0 ≤ maxLen; exact Nat.zero_le _⟩, fun i hi => absurd hi (by show ¬ i < 0; omega), (fin0 w (fun _ => True)).rd⟩
theorem opE (w : World) : OpAt w o2 := ⟨bytes0 w, Nat.le_refl _, Nat.zero_le _⟩
theorem bigNil : bigL [] := ⟨by decide, fun x hx => by cases hx⟩
theorem okNew : OkP newM := ⟨trivial, bigNil, fun x hx => by
  have : x = (false, []) := by simpa [newM] using hx
  subst this
  exact bigNil, by decide, by decide, by decide⟩
theorem newD_lt {E i : Nat} (h : newD E i ≠ 0) : E ≤ i ∧ i < E + 2 := by
  unfold newD at h
  split at h
  · omega
  · split at h
    · omega
    · exact absurd rfl h
theorem c83 {w : World} (hml : ML w) (h00 : 0 < w.heap.size) : Rets Tryd.prog 83 #[] w fun v w' => v = .bool true ∧ Kp none_ w w' := by
  refine ent [] Tryd.func83 ((vcTryd83 w _).mpr ?_)
  unfold VCTryd83
  refine (c97 w).mono ?_
  rintro v w1 ⟨rfl, ⟨cm, cn, cd, m1⟩, k1, z1⟩
  refine ⟨_, rfl, k1.keeps0, bif_not (fun _ => ?_) (fun h => by cases h)⟩
  have hD1 : ∀ i, newD w.heap.size i ≠ 0 → i < w1.heap.size := fun i hi => by have := newD_lt hi; omega
  refine (c94 (hml.kp0 k1) m1 hD1 okNew o2 (aE 7) (opE _) (by decide) (by decide) (anE _ _) (by decide) (fin0 _ _) bigNil).mono ?_
  have e1 : mayM newM o2.stp (aE 7).ans = true := by decide
  have e2 : stepP newM o2.stp (aE 7).ans = newM := rfl
  rw [e1, if_pos rfl, e2]
  rintro v w2 ⟨rfl, D2, cm2, cn2, cd2, m2, hD2, k2⟩
  have K2 : Kp none_ w w2 := (k1.wide.then k2 fun i hl hi => by have := (newD_lt hi).1; omega : Kp none_ w w2)
  refine ⟨_, rfl, k2.keeps0, bif_b (fun _ => ?_) (fun h => by cases h)⟩
  have e3 : mayM newM o2.stp (aE 0).ans = false := by decide
  have hD2' : ∀ i, D2 i ≠ 0 → i < w2.heap.size := fun i hi => (hD2 i hi).2
  have hge : ∀ i, D2 i ≠ 0 → w.heap.size ≤ i := fun i hi => by
    rcases (hD2 i hi).1 with h | h
    · exact (newD_lt h).1
    · omega
  refine (c94 (hml.kp0 K2) m2 hD2' okNew o2 (aE 0) (opE _) (by decide) (by decide) (anE _ _) (by decide) (fin0 _ _) bigNil).mono ?_
  rw [e3, if_neg (by decide)]
  rintro v w3 ⟨rfl, D3, cm3, cn3, cd3, m3, hD3, k3⟩
  have K3 : Kp none_ w w3 := (K2.then k3 fun i hl hi => by have := hge i hi; omega : Kp none_ w w3)
  refine ⟨_, rfl, k3.keeps0, bif_not (fun _ => ?_) (fun h => by cases h)⟩
  refine (c95 m3.rd okNew ⟨true, [], none, 0⟩ (fin0 _ (fun _ => True)).rd).mono ?_
  rintro v w4 ⟨rfl, k4⟩
  have e4 : canM newM (true, []) = false := by decide
  exact ⟨_, rfl, k4.keeps0, _, rfl, by rw [show canM newM (Stx.sta ⟨true, [], none, 0⟩) = false from e4]; rfl, K3.trans k4⟩
end Go.Proofs.YtbpknjldphckgaaDoor

namespace Go.Proofs.YtbpknjldphckgaaDoor
open Go Go.SX Go.Proofs
set_option maxRecDepth 100000
set_option linter.unusedVariables false
def VCTryd149 (p0 : Int) (w : World) (R : Ending → World → Prop) : Prop :=
 bif decide (p0 ≥ (1 : Int)) then
 bif decide (p0 ≤ (6 : Int)) then
 R (Ending.returned (Value.bool true)) w else
 bif decide (p0 ≥ (11 : Int)) then
 R (Ending.returned (Value.bool (decide (p0 ≤ (14 : Int))))) w else
 R (Ending.returned (Value.bool false)) w else
 bif decide (p0 ≥ (11 : Int)) then
 R (Ending.returned (Value.bool (decide (p0 ≤ (14 : Int))))) w else
 R (Ending.returned (Value.bool false)) w
theorem vcTryd149 (p0 : Int) (w : World) (R : Ending → World → Prop) : SX.vcFn Tryd.prog [] Tryd.f149 [.v (.int .i64 p0)] [] w R =
 VCTryd149 p0 w  R := by kernel_rfl
def VCTryd180 (p0 : Option Addr) (n0 c0 : Nat) (p1 : ByteArray) (w : World) (R : Ending → World → Prop) : Prop :=
 ∃ (I0 : Int → Option Addr → Nat → Nat → World → Prop), ∃ (I1 : Int → Option Addr → Nat → Nat → World → Nat), I0 (0 : Int) none (0 : Nat) (0 : Nat) w ∧ ∀ (i2 : Int) (q3 : Option Addr) (n4 n5 : Nat) (w6 : World), I0 i2 q3 n4 n5 w6 → bif decide (i2 < (↑n0 : Int)) then
 ((0 : Int) ≤ i2 ∧ i2 < (↑n0 : Int)) ∧ SX.Ptr p0 fun (a7 : Addr) => ∃ (s8 : ByteArray), w6.cell? ((a7.add (i2.toNat * (2 : Nat))).add (0 : Nat)) = some (Value.string s8) ∧ Rets Tryd.prog (132 : Nat) #[Value.string p1, Value.string s8] w6 fun (v9 : Value) (w10 : World) => ∃ (t11 : Bool), v9 = Value.bool t11 ∧ Keeps w6 w10 [] ∧ bif t11 then
 ((0 : Int) ≤ i2 ∧ i2 < (↑n0 : Int)) ∧ SX.Ptr p0 fun (a12 : Addr) => ∃ (s13 : ByteArray), w10.cell? ((a12.add (i2.toNat * (2 : Nat))).add (0 : Nat)) = some (Value.string s13) ∧ Runs Tryd.prog (Builtin.append_ #[(46 : Nat), (46 : Nat)] (46 : Nat) #[Value.slice q3 n4 n5, Value.slice (some { block := w10.heap.size, off := (0 : Nat) }) (1 : Nat) (1 : Nat)]) (w10.alloc (Obj.cells #[Value.string s13] (9 : Nat))) fun (v14 : Value) (w15 : World) => ∃ (q16 : Option Addr), ∃ (n17 : Nat), ∃ (n18 : Nat), v14 = Value.slice q16 n17 n18 ∧ Keeps (w10.alloc (Obj.cells #[Value.string s13] (9 : Nat))) w15 [] ∧ Wr IntKind.i64 (i2 + (1 : Int)) fun (i19 : Int) => I0 i19 q16 n17 n18 w15 ∧ I1 i19 q16 n17 n18 w15 < I1 i2 q3 n4 n5 w6 else
 Wr IntKind.i64 (i2 + (1 : Int)) fun (i20 : Int) => I0 i20 q3 n4 n5 w10 ∧ I1 i20 q3 n4 n5 w10 < I1 i2 q3 n4 n5 w6 else
 R (Ending.returned (Value.slice q3 n4 n5)) w6
theorem vcTryd180 (p0 : Option Addr) (n0 c0 : Nat) (p1 : ByteArray) (w : World) (R : Ending → World → Prop) : SX.vcFn Tryd.prog [(3, ⟨[(6, .int .i64), (5, .slice)], [0, 1], []⟩)] Tryd.f180 [.v (.slice p0 n0 c0), .v (.string p1)] [] w R =
 VCTryd180 p0 n0 c0 p1 w  R := by kernel_rfl
def VCTryd181 (mq : Option Addr) (mn mc : Nat) (op pz st : Bool) (wq : Option Addr) (wn wc : Nat) (na da : ByteArray) (t : Bool) (w : World) (W1 : World) (KL : List (Nat × List (Nat × Value))) (R : Ending → World → Prop) : Prop :=
 ∃ (I0 : Int → World → Prop), ∃ (I1 : Int → World → Nat), I0 (0 : Int) W1 ∧ ∀ (i2 : Int) (w3 : World), I0 i2 w3 → Known w3 KL → bif decide (i2 < (↑mn : Int)) then
 ((0 : Int) ≤ i2 ∧ i2 < (↑mn : Int)) ∧ SX.Ptr mq fun (a4 : Addr) => ∃ (t5 : Bool), w3.cell? ((a4.add (i2.toNat * (2 : Nat))).add (0 : Nat)) = some (Value.bool t5) ∧ bif t5 == t then
 Known w3 KL → R (Ending.returned (Value.bool true)) w3 else
 Wr IntKind.i64 (i2 + (1 : Int)) fun (i6 : Int) => SameVals [Value.slice mq mn mc, Value.bool op, Value.bool pz, Value.bool st, Value.slice wq wn wc, Value.string na, Value.string da] [Value.slice mq mn mc, Value.bool op, Value.bool pz, Value.bool st, Value.slice wq wn wc, Value.string na, Value.string da] ∧ I0 i6 w3 ∧ I1 i6 w3 < I1 i2 w3 else
 Known w3 KL → R (Ending.returned (Value.bool false)) w3
theorem vcTryd181 (mq : Option Addr) (mn mc : Nat) (op pz st : Bool) (wq : Option Addr) (wn wc : Nat) (na da : ByteArray) (t : Bool) (w : World) (R : Ending → World → Prop) : SX.vcFn Tryd.prog [(2, ⟨[(5, .int .i64)], [1, 2], []⟩)] Tryd.f181 [.v (.agg #[.slice mq mn mc, .bool op, .bool pz, .bool st, .slice wq wn wc, .string na, .string da]), .v (.bool t)] [] w R =
 VCTryd181 mq mn mc op pz st wq wn wc na da t w (w.alloc (Obj.cells #[Value.slice mq mn mc, Value.bool op, Value.bool pz, Value.bool st, Value.slice wq wn wc, Value.string na, Value.string da] (136 : Nat))) [(w.heap.size, [((0 : Nat), Value.slice mq mn mc), ((1 : Nat), Value.bool op), ((2 : Nat), Value.bool pz), ((3 : Nat), Value.bool st), ((4 : Nat), Value.slice wq wn wc), ((5 : Nat), Value.string na), ((6 : Nat), Value.string da)])] R := by kernel_rfl
def VCTryd194 (mq : Option Addr) (mn mc : Nat) (op pz st : Bool) (wq : Option Addr) (wn wc : Nat) (na da : ByteArray) (t : ByteArray) (x : Int) (w : World) (W1 : World) (KL : List (Nat × List (Nat × Value))) (R : Ending → World → Prop) : Prop :=
 bif st then
 Known W1 KL → R (Ending.returned (Value.int IntKind.i64 (8 : Int))) W1 else
 bif pz then
 Known W1 KL → R (Ending.returned (Value.int IntKind.i64 (11 : Int))) W1 else
 Known W1 KL →
 Rets Tryd.prog (29 : Nat) #[Value.string t] W1 fun (v0 : Value) (w1 : World) => ∃ (t2 : Bool), v0 = Value.bool t2 ∧ Keeps W1 w1 [w.heap.size] ∧ bif !t2 then
 Known w1 KL → R (Ending.returned (Value.int IntKind.i64 (6 : Int))) w1 else
 bif decide (x > (65536 : Int)) then
 Known w1 KL → R (Ending.returned (Value.int IntKind.i64 (5 : Int))) w1 else
 Known w1 KL →
 Rets Tryd.prog (87 : Nat) #[Value.slice wq wn wc, Value.string t] w1 fun (v3 : Value) (w4 : World) => ∃ (i5 : Int), v3 = Value.int IntKind.i64 i5 ∧ Keeps w1 w4 [w.heap.size] ∧ bif decide (i5 < (0 : Int)) then
 bif decide ((↑wn : Int) ≥ (200 : Int)) then
 Known w4 KL → R (Ending.returned (Value.int IntKind.i64 (14 : Int))) w4 else
 Known w4 KL → R (Ending.returned (Value.int IntKind.i64 (0 : Int))) w4 else
 Known w4 KL → R (Ending.returned (Value.int IntKind.i64 (0 : Int))) w4
theorem vcTryd194 (mq : Option Addr) (mn mc : Nat) (op pz st : Bool) (wq : Option Addr) (wn wc : Nat) (na da : ByteArray) (t : ByteArray) (x : Int) (w : World) (R : Ending → World → Prop) : SX.vcFn Tryd.prog [] Tryd.f194 [.v (.agg #[.slice mq mn mc, .bool op, .bool pz, .bool st, .slice wq wn wc, .string na, .string da]), .v (.string t), .v (.int .i64 x)] [] w R =
 VCTryd194 mq mn mc op pz st wq wn wc na da t x w (w.alloc (Obj.cells #[Value.slice mq mn mc, Value.bool op, Value.bool pz, Value.bool st, Value.slice wq wn wc, Value.string na, Value.string da] (136 : Nat))) [(w.heap.size, [((0 : Nat), Value.slice mq mn mc), ((1 : Nat), Value.bool op), ((2 : Nat), Value.bool pz), ((3 : Nat), Value.bool st), ((4 : Nat), Value.slice wq wn wc), ((5 : Nat), Value.string na), ((6 : Nat), Value.string da)])] R := by kernel_rfl
def VCTryd102 (mq : Option Addr) (mn mc : Nat) (op pz st : Bool) (wq : Option Addr) (wn wc : Nat) (na da : ByteArray) (th : Bool) (sq : Option Addr) (sn sc : Nat) (w : World) (W1 : World) (W2 : World) (KL : List (Nat × List (Nat × Value))) (R : Ending → World → Prop) : Prop :=
 ∃ (I0 : Int → World → Prop), ∃ (I1 : Int → World → Nat), I0 (0 : Int) W2 ∧ ∀ (i2 : Int) (w3 : World), I0 i2 w3 → Known w3 KL → bif decide (i2 < (↑mn : Int)) then
 ((0 : Int) ≤ i2 ∧ i2 < (↑mn : Int)) ∧ SX.Ptr mq fun (a4 : Addr) => ∃ (t5 : Bool), w3.drew.cell? ((a4.add (i2.toNat * (2 : Nat))).add (0 : Nat)) = some (Value.bool t5) ∧ bif t5 == th then
 bif !th then
 Known w3.drew KL → R (Ending.returned (Value.bool true)) w3.drew else
 ((0 : Int) ≤ i2 ∧ i2 < (↑mn : Int)) ∧ SX.Ptr mq fun (a6 : Addr) => ∃ (q7 : Option Addr), ∃ (n8 : Nat), ∃ (n9 : Nat), w3.drew.cell? ((a6.add (i2.toNat * (2 : Nat))).add (1 : Nat)) = some (Value.slice q7 n8 n9) ∧ (Known w3.drew KL →
 Rets Tryd.prog (85 : Nat) #[Value.slice q7 n8 n9, Value.slice sq sn sc] w3.drew fun (v10 : Value) (w11 : World) => ∃ (t12 : Bool), v10 = Value.bool t12 ∧ Keeps w3.drew w11 [w.heap.size, W1.heap.size] ∧ bif t12 then
 Known w11 KL → R (Ending.returned (Value.bool true)) w11 else
 Wr IntKind.i64 (i2 + (1 : Int)) fun (i13 : Int) => SameVals [Value.slice mq mn mc, Value.bool op, Value.bool pz, Value.bool st, Value.slice wq wn wc, Value.string na, Value.string da, Value.bool th, Value.slice sq sn sc] [Value.slice mq mn mc, Value.bool op, Value.bool pz, Value.bool st, Value.slice wq wn wc, Value.string na, Value.string da, Value.bool th, Value.slice sq sn sc] ∧ I0 i13 w11 ∧ I1 i13 w11 < I1 i2 w3) else
 Wr IntKind.i64 (i2 + (1 : Int)) fun (i14 : Int) => SameVals [Value.slice mq mn mc, Value.bool op, Value.bool pz, Value.bool st, Value.slice wq wn wc, Value.string na, Value.string da, Value.bool th, Value.slice sq sn sc] [Value.slice mq mn mc, Value.bool op, Value.bool pz, Value.bool st, Value.slice wq wn wc, Value.string na, Value.string da, Value.bool th, Value.slice sq sn sc] ∧ I0 i14 w3.drew ∧ I1 i14 w3.drew < I1 i2 w3 else
 Known w3 KL → R (Ending.returned (Value.bool false)) w3
theorem vcTryd102 (mq : Option Addr) (mn mc : Nat) (op pz st : Bool) (wq : Option Addr) (wn wc : Nat) (na da : ByteArray) (th : Bool) (sq : Option Addr) (sn sc : Nat) (w : World) (R : Ending → World → Prop) : SX.vcFn Tryd.prog [(2, ⟨[(5, .int .i64)], [3, 2], []⟩)] Tryd.f102 [.v (.agg #[.slice mq mn mc, .bool op, .bool pz, .bool st, .slice wq wn wc, .string na, .string da]), .v (.agg #[.bool th, .slice sq sn sc])] [] w R =
 VCTryd102 mq mn mc op pz st wq wn wc na da th sq sn sc w (w.alloc (Obj.cells #[Value.slice mq mn mc, Value.bool op, Value.bool pz, Value.bool st, Value.slice wq wn wc, Value.string na, Value.string da] (136 : Nat))) ((w.alloc (Obj.cells #[Value.slice mq mn mc, Value.bool op, Value.bool pz, Value.bool st, Value.slice wq wn wc, Value.string na, Value.string da] (136 : Nat))).alloc (Obj.cells #[Value.bool th, Value.slice sq sn sc] (146 : Nat))) [(w.heap.size, [((0 : Nat), Value.slice mq mn mc), ((1 : Nat), Value.bool op), ((2 : Nat), Value.bool pz), ((3 : Nat), Value.bool st), ((4 : Nat), Value.slice wq wn wc), ((5 : Nat), Value.string na), ((6 : Nat), Value.string da)]), ((w.alloc (Obj.cells #[Value.slice mq mn mc, Value.bool op, Value.bool pz, Value.bool st, Value.slice wq wn wc, Value.string na, Value.string da] (136 : Nat))).heap.size, [((0 : Nat), Value.bool th), ((1 : Nat), Value.slice sq sn sc)])] R := by kernel_rfl
def VCTryd147 (e : Int) (aq : Option Addr) (an ac : Nat) (z : Int) (nq : Option Addr) (nn nc : Nat) (lq : Option Addr) (ln lc : Nat) (re po : Bool) (e2 : Int) (aq2 : Option Addr) (an2 ac2 : Nat) (z2 : Int) (nq2 : Option Addr) (nn2 nc2 : Nat) (lq2 : Option Addr) (ln2 lc2 : Nat) (re2 po2 : Bool) (w : World) (W1 : World) (W2 : World) (KL : List (Nat × List (Nat × Value))) (R : Ending → World → Prop) : Prop :=
 bif e == e2 then
 ∃ (s0 : ByteArray), s0.size = an ∧ BytesAt W2 aq s0 ∧ ∃ (s1 : ByteArray), s1.size = an2 ∧ BytesAt W2 aq2 s1 ∧ bif s0.toList == s1.toList then
 bif z == z2 then
 Known W2 KL →
 Rets Tryd.prog (179 : Nat) #[Value.slice nq nn nc, Value.slice nq2 nn2 nc2] W2 fun (v2 : Value) (w3 : World) => ∃ (t4 : Bool), v2 = Value.bool t4 ∧ Keeps W2 w3 [w.heap.size, W1.heap.size] ∧ bif t4 then
 Known w3 KL →
 Rets Tryd.prog (85 : Nat) #[Value.slice lq ln lc, Value.slice lq2 ln2 lc2] w3 fun (v5 : Value) (w6 : World) => ∃ (t7 : Bool), v5 = Value.bool t7 ∧ Keeps w3 w6 [w.heap.size, W1.heap.size] ∧ bif t7 then
 bif re == re2 then
 Known w6 KL → R (Ending.returned (Value.bool (po == po2))) w6 else
 Known w6 KL → R (Ending.returned (Value.bool false)) w6 else
 Known w6 KL → R (Ending.returned (Value.bool false)) w6 else
 Known w3 KL → R (Ending.returned (Value.bool false)) w3 else
 Known W2 KL → R (Ending.returned (Value.bool false)) W2 else
 Known W2 KL → R (Ending.returned (Value.bool false)) W2 else
 Known W2 KL → R (Ending.returned (Value.bool false)) W2
theorem vcTryd147 (e : Int) (aq : Option Addr) (an ac : Nat) (z : Int) (nq : Option Addr) (nn nc : Nat) (lq : Option Addr) (ln lc : Nat) (re po : Bool) (e2 : Int) (aq2 : Option Addr) (an2 ac2 : Nat) (z2 : Int) (nq2 : Option Addr) (nn2 nc2 : Nat) (lq2 : Option Addr) (ln2 lc2 : Nat) (re2 po2 : Bool) (w : World) (R : Ending → World → Prop) : SX.vcFn Tryd.prog [] Tryd.f147 [.v (.agg #[.int .i64 e, .slice aq an ac, .int .i64 z, .slice nq nn nc, .slice lq ln lc, .bool re, .bool po]), .v (.agg #[.int .i64 e2, .slice aq2 an2 ac2, .int .i64 z2, .slice nq2 nn2 nc2, .slice lq2 ln2 lc2, .bool re2, .bool po2])] [] w R =
 VCTryd147 e aq an ac z nq nn nc lq ln lc re po e2 aq2 an2 ac2 z2 nq2 nn2 nc2 lq2 ln2 lc2 re2 po2 w (w.alloc (Obj.cells #[Value.int IntKind.i64 e, Value.slice aq an ac, Value.int IntKind.i64 z, Value.slice nq nn nc, Value.slice lq ln lc, Value.bool re, Value.bool po] (138 : Nat))) ((w.alloc (Obj.cells #[Value.int IntKind.i64 e, Value.slice aq an ac, Value.int IntKind.i64 z, Value.slice nq nn nc, Value.slice lq ln lc, Value.bool re, Value.bool po] (138 : Nat))).alloc (Obj.cells #[Value.int IntKind.i64 e2, Value.slice aq2 an2 ac2, Value.int IntKind.i64 z2, Value.slice nq2 nn2 nc2, Value.slice lq2 ln2 lc2, Value.bool re2, Value.bool po2] (138 : Nat))) [(w.heap.size, [((0 : Nat), Value.int IntKind.i64 e), ((1 : Nat), Value.slice aq an ac), ((2 : Nat), Value.int IntKind.i64 z), ((3 : Nat), Value.slice nq nn nc), ((4 : Nat), Value.slice lq ln lc), ((5 : Nat), Value.bool re), ((6 : Nat), Value.bool po)]), ((w.alloc (Obj.cells #[Value.int IntKind.i64 e, Value.slice aq an ac, Value.int IntKind.i64 z, Value.slice nq nn nc, Value.slice lq ln lc, Value.bool re, Value.bool po] (138 : Nat))).heap.size, [((0 : Nat), Value.int IntKind.i64 e2), ((1 : Nat), Value.slice aq2 an2 ac2), ((2 : Nat), Value.int IntKind.i64 z2), ((3 : Nat), Value.slice nq2 nn2 nc2), ((4 : Nat), Value.slice lq2 ln2 lc2), ((5 : Nat), Value.bool re2), ((6 : Nat), Value.bool po2)])] R := by kernel_rfl
def VCTryd151 (mq : Option Addr) (mn mc : Nat) (op pz st : Bool) (wq : Option Addr) (wn wc : Nat) (na da : ByteArray) (k : Int) (s : ByteArray) (dq : Option Addr) (dn dc : Nat) (N : Int) (kq : Option Addr) (kn kc : Nat) (nm fi : Int) (e : Int) (aq : Option Addr) (an ac : Nat) (z : Int) (nq : Option Addr) (nn nc : Nat) (lq : Option Addr) (ln lc : Nat) (re po : Bool) (w : World) (W1 : World) (W2 : World) (W3 : World) (KL : List (Nat × List (Nat × Value))) (R : Ending → World → Prop) : Prop :=
 bif k == (2 : Int) then
 bif e == (0 : Int) then
 Known W3 KL → R (Ending.returned (Value.bool true)) W3 else
 bif k == (18 : Int) then
 Known W3 KL → R (Ending.returned (Value.bool false)) W3 else
 bif k == (14 : Int) then
 bif e != (8 : Int) then
 Known W3 KL → R (Ending.returned (Value.bool false)) W3 else
 Known W3 KL → R (Ending.returned (Value.bool op)) W3 else
 Known W3 KL → R (Ending.returned (Value.bool op)) W3 else
 bif k == (18 : Int) then
 Known W3 KL → R (Ending.returned (Value.bool false)) W3 else
 bif k == (14 : Int) then
 bif e != (8 : Int) then
 Known W3 KL → R (Ending.returned (Value.bool false)) W3 else
 Known W3 KL → R (Ending.returned (Value.bool op)) W3 else
 Known W3 KL → R (Ending.returned (Value.bool op)) W3
theorem vcTryd151 (mq : Option Addr) (mn mc : Nat) (op pz st : Bool) (wq : Option Addr) (wn wc : Nat) (na da : ByteArray) (k : Int) (s : ByteArray) (dq : Option Addr) (dn dc : Nat) (N : Int) (kq : Option Addr) (kn kc : Nat) (nm fi : Int) (e : Int) (aq : Option Addr) (an ac : Nat) (z : Int) (nq : Option Addr) (nn nc : Nat) (lq : Option Addr) (ln lc : Nat) (re po : Bool) (w : World) (R : Ending → World → Prop) : SX.vcFn Tryd.prog [] Tryd.f151 [.v (.agg #[.slice mq mn mc, .bool op, .bool pz, .bool st, .slice wq wn wc, .string na, .string da]), .v (.agg #[.int .i64 k, .string s, .slice dq dn dc, .int .i64 N, .slice kq kn kc, .int .i64 nm, .int .u8 fi]), .v (.agg #[.int .i64 e, .slice aq an ac, .int .i64 z, .slice nq nn nc, .slice lq ln lc, .bool re, .bool po])] [] w R =
 VCTryd151 mq mn mc op pz st wq wn wc na da k s dq dn dc N kq kn kc nm fi e aq an ac z nq nn nc lq ln lc re po w (w.alloc (Obj.cells #[Value.slice mq mn mc, Value.bool op, Value.bool pz, Value.bool st, Value.slice wq wn wc, Value.string na, Value.string da] (136 : Nat))) ((w.alloc (Obj.cells #[Value.slice mq mn mc, Value.bool op, Value.bool pz, Value.bool st, Value.slice wq wn wc, Value.string na, Value.string da] (136 : Nat))).alloc (Obj.cells #[Value.int IntKind.i64 k, Value.string s, Value.slice dq dn dc, Value.int IntKind.i64 N, Value.slice kq kn kc, Value.int IntKind.i64 nm, Value.int IntKind.u8 fi] (124 : Nat))) (((w.alloc (Obj.cells #[Value.slice mq mn mc, Value.bool op, Value.bool pz, Value.bool st, Value.slice wq wn wc, Value.string na, Value.string da] (136 : Nat))).alloc (Obj.cells #[Value.int IntKind.i64 k, Value.string s, Value.slice dq dn dc, Value.int IntKind.i64 N, Value.slice kq kn kc, Value.int IntKind.i64 nm, Value.int IntKind.u8 fi] (124 : Nat))).alloc (Obj.cells #[Value.int IntKind.i64 e, Value.slice aq an ac, Value.int IntKind.i64 z, Value.slice nq nn nc, Value.slice lq ln lc, Value.bool re, Value.bool po] (138 : Nat))) [(w.heap.size, [((0 : Nat), Value.slice mq mn mc), ((1 : Nat), Value.bool op), ((2 : Nat), Value.bool pz), ((3 : Nat), Value.bool st), ((4 : Nat), Value.slice wq wn wc), ((5 : Nat), Value.string na), ((6 : Nat), Value.string da)]), ((w.alloc (Obj.cells #[Value.slice mq mn mc, Value.bool op, Value.bool pz, Value.bool st, Value.slice wq wn wc, Value.string na, Value.string da] (136 : Nat))).heap.size, [((0 : Nat), Value.int IntKind.i64 k), ((1 : Nat), Value.string s), ((2 : Nat), Value.slice dq dn dc), ((3 : Nat), Value.int IntKind.i64 N), ((4 : Nat), Value.slice kq kn kc), ((5 : Nat), Value.int IntKind.i64 nm), ((6 : Nat), Value.int IntKind.u8 fi)]), (((w.alloc (Obj.cells #[Value.slice mq mn mc, Value.bool op, Value.bool pz, Value.bool st, Value.slice wq wn wc, Value.string na, Value.string da] (136 : Nat))).alloc (Obj.cells #[Value.int IntKind.i64 k, Value.string s, Value.slice dq dn dc, Value.int IntKind.i64 N, Value.slice kq kn kc, Value.int IntKind.i64 nm, Value.int IntKind.u8 fi] (124 : Nat))).heap.size, [((0 : Nat), Value.int IntKind.i64 e), ((1 : Nat), Value.slice aq an ac), ((2 : Nat), Value.int IntKind.i64 z), ((3 : Nat), Value.slice nq nn nc), ((4 : Nat), Value.slice lq ln lc), ((5 : Nat), Value.bool re), ((6 : Nat), Value.bool po)])] R := by kernel_rfl
def VCTryd182 (mq : Option Addr) (mn mc : Nat) (op pz st : Bool) (wq : Option Addr) (wn wc : Nat) (na da : ByteArray) (k : Int) (s : ByteArray) (dq : Option Addr) (dn dc : Nat) (N : Int) (kq : Option Addr) (kn kc : Nat) (nm fi : Int) (w : World) (W1 : World) (W2 : World) (KL : List (Nat × List (Nat × Value))) (R : Ending → World → Prop) : Prop :=
 bif k == (3 : Int) then
 Known W2 KL →
 Rets Tryd.prog (194 : Nat) #[Value.agg #[Value.slice mq mn mc, Value.bool op, Value.bool pz, Value.bool st, Value.slice wq wn wc, Value.string na, Value.string da], Value.string s, Value.int IntKind.i64 (↑dn : Int)] W2 fun (v0 : Value) (w1 : World) => ∃ (i2 : Int), v0 = Value.int IntKind.i64 i2 ∧ Keeps W2 w1 [w.heap.size, W1.heap.size] ∧ (Known w1 KL → R (Ending.returned (Value.int IntKind.i64 i2)) w1) else
 bif k == (4 : Int) then
 Known W2 KL →
 Rets Tryd.prog (194 : Nat) #[Value.agg #[Value.slice mq mn mc, Value.bool op, Value.bool pz, Value.bool st, Value.slice wq wn wc, Value.string na, Value.string da], Value.string s, Value.int IntKind.i64 (0 : Int)] W2 fun (v3 : Value) (w4 : World) => ∃ (i5 : Int), v3 = Value.int IntKind.i64 i5 ∧ Keeps W2 w4 [w.heap.size, W1.heap.size] ∧ (Known w4 KL → R (Ending.returned (Value.int IntKind.i64 i5)) w4) else
 bif k == (5 : Int) then
 bif k == (5 : Int) then
 bif !st then
 Known W2 KL → R (Ending.returned (Value.int IntKind.i64 (15 : Int))) W2 else
 bif k == (5 : Int) then
 Wr IntKind.i64 ((65536 : Int) - (↑da.size : Int)) fun (i6 : Int) => bif decide ((↑dn : Int) > i6) then
 Known W2 KL → R (Ending.returned (Value.int IntKind.i64 (5 : Int))) W2 else
 Known W2 KL → R (Ending.returned (Value.int IntKind.i64 (0 : Int))) W2 else
 Known W2 KL → R (Ending.returned (Value.int IntKind.i64 (0 : Int))) W2 else
 bif k == (10 : Int) then
 Known W2 KL → R (Ending.returned (Value.int IntKind.i64 (0 : Int))) W2 else
 bif decide (k > (10 : Int)) then
 bif st then
 Known W2 KL → R (Ending.returned (Value.int IntKind.i64 (8 : Int))) W2 else
 bif pz then
 Known W2 KL → R (Ending.returned (Value.int IntKind.i64 (11 : Int))) W2 else
 bif decide (k < (12 : Int)) then
 Known W2 KL →
 Rets Tryd.prog (87 : Nat) #[Value.slice wq wn wc, Value.string s] W2 fun (v7 : Value) (w8 : World) => ∃ (i9 : Int), v7 = Value.int IntKind.i64 i9 ∧ Keeps W2 w8 [w.heap.size, W1.heap.size] ∧ bif decide (i9 < (0 : Int)) then
 Known w8 KL → R (Ending.returned (Value.int IntKind.i64 (7 : Int))) w8 else
 Known w8 KL → R (Ending.returned (Value.int IntKind.i64 (0 : Int))) w8 else
 Known W2 KL → R (Ending.returned (Value.int IntKind.i64 (0 : Int))) W2 else
 bif decide (k < (12 : Int)) then
 Known W2 KL →
 Rets Tryd.prog (87 : Nat) #[Value.slice wq wn wc, Value.string s] W2 fun (v10 : Value) (w11 : World) => ∃ (i12 : Int), v10 = Value.int IntKind.i64 i12 ∧ Keeps W2 w11 [w.heap.size, W1.heap.size] ∧ bif decide (i12 < (0 : Int)) then
 Known w11 KL → R (Ending.returned (Value.int IntKind.i64 (7 : Int))) w11 else
 Known w11 KL → R (Ending.returned (Value.int IntKind.i64 (0 : Int))) w11 else
 Known W2 KL → R (Ending.returned (Value.int IntKind.i64 (0 : Int))) W2 else
 bif k == (6 : Int) then
 bif k == (6 : Int) then
 bif !st then
 Known W2 KL → R (Ending.returned (Value.int IntKind.i64 (15 : Int))) W2 else
 bif k == (5 : Int) then
 Wr IntKind.i64 ((65536 : Int) - (↑da.size : Int)) fun (i13 : Int) => bif decide ((↑dn : Int) > i13) then
 Known W2 KL → R (Ending.returned (Value.int IntKind.i64 (5 : Int))) W2 else
 Known W2 KL → R (Ending.returned (Value.int IntKind.i64 (0 : Int))) W2 else
 Known W2 KL → R (Ending.returned (Value.int IntKind.i64 (0 : Int))) W2 else
 bif k == (10 : Int) then
 Known W2 KL → R (Ending.returned (Value.int IntKind.i64 (0 : Int))) W2 else
 bif decide (k > (10 : Int)) then
 bif st then
 Known W2 KL → R (Ending.returned (Value.int IntKind.i64 (8 : Int))) W2 else
 bif pz then
 Known W2 KL → R (Ending.returned (Value.int IntKind.i64 (11 : Int))) W2 else
 bif decide (k < (12 : Int)) then
 Known W2 KL →
 Rets Tryd.prog (87 : Nat) #[Value.slice wq wn wc, Value.string s] W2 fun (v14 : Value) (w15 : World) => ∃ (i16 : Int), v14 = Value.int IntKind.i64 i16 ∧ Keeps W2 w15 [w.heap.size, W1.heap.size] ∧ bif decide (i16 < (0 : Int)) then
 Known w15 KL → R (Ending.returned (Value.int IntKind.i64 (7 : Int))) w15 else
 Known w15 KL → R (Ending.returned (Value.int IntKind.i64 (0 : Int))) w15 else
 Known W2 KL → R (Ending.returned (Value.int IntKind.i64 (0 : Int))) W2 else
 bif decide (k < (12 : Int)) then
 Known W2 KL →
 Rets Tryd.prog (87 : Nat) #[Value.slice wq wn wc, Value.string s] W2 fun (v17 : Value) (w18 : World) => ∃ (i19 : Int), v17 = Value.int IntKind.i64 i19 ∧ Keeps W2 w18 [w.heap.size, W1.heap.size] ∧ bif decide (i19 < (0 : Int)) then
 Known w18 KL → R (Ending.returned (Value.int IntKind.i64 (7 : Int))) w18 else
 Known w18 KL → R (Ending.returned (Value.int IntKind.i64 (0 : Int))) w18 else
 Known W2 KL → R (Ending.returned (Value.int IntKind.i64 (0 : Int))) W2 else
 bif k == (7 : Int) then
 bif !st then
 Known W2 KL → R (Ending.returned (Value.int IntKind.i64 (15 : Int))) W2 else
 bif k == (5 : Int) then
 Wr IntKind.i64 ((65536 : Int) - (↑da.size : Int)) fun (i20 : Int) => bif decide ((↑dn : Int) > i20) then
 Known W2 KL → R (Ending.returned (Value.int IntKind.i64 (5 : Int))) W2 else
 Known W2 KL → R (Ending.returned (Value.int IntKind.i64 (0 : Int))) W2 else
 Known W2 KL → R (Ending.returned (Value.int IntKind.i64 (0 : Int))) W2 else
 bif k == (10 : Int) then
 Known W2 KL → R (Ending.returned (Value.int IntKind.i64 (0 : Int))) W2 else
 bif decide (k > (10 : Int)) then
 bif st then
 Known W2 KL → R (Ending.returned (Value.int IntKind.i64 (8 : Int))) W2 else
 bif pz then
 Known W2 KL → R (Ending.returned (Value.int IntKind.i64 (11 : Int))) W2 else
 bif decide (k < (12 : Int)) then
 Known W2 KL →
 Rets Tryd.prog (87 : Nat) #[Value.slice wq wn wc, Value.string s] W2 fun (v21 : Value) (w22 : World) => ∃ (i23 : Int), v21 = Value.int IntKind.i64 i23 ∧ Keeps W2 w22 [w.heap.size, W1.heap.size] ∧ bif decide (i23 < (0 : Int)) then
 Known w22 KL → R (Ending.returned (Value.int IntKind.i64 (7 : Int))) w22 else
 Known w22 KL → R (Ending.returned (Value.int IntKind.i64 (0 : Int))) w22 else
 Known W2 KL → R (Ending.returned (Value.int IntKind.i64 (0 : Int))) W2 else
 bif decide (k < (12 : Int)) then
 Known W2 KL →
 Rets Tryd.prog (87 : Nat) #[Value.slice wq wn wc, Value.string s] W2 fun (v24 : Value) (w25 : World) => ∃ (i26 : Int), v24 = Value.int IntKind.i64 i26 ∧ Keeps W2 w25 [w.heap.size, W1.heap.size] ∧ bif decide (i26 < (0 : Int)) then
 Known w25 KL → R (Ending.returned (Value.int IntKind.i64 (7 : Int))) w25 else
 Known w25 KL → R (Ending.returned (Value.int IntKind.i64 (0 : Int))) w25 else
 Known W2 KL → R (Ending.returned (Value.int IntKind.i64 (0 : Int))) W2
theorem vcTryd182 (mq : Option Addr) (mn mc : Nat) (op pz st : Bool) (wq : Option Addr) (wn wc : Nat) (na da : ByteArray) (k : Int) (s : ByteArray) (dq : Option Addr) (dn dc : Nat) (N : Int) (kq : Option Addr) (kn kc : Nat) (nm fi : Int) (w : World) (R : Ending → World → Prop) : SX.vcFn Tryd.prog [] Tryd.f182 [.v (.agg #[.slice mq mn mc, .bool op, .bool pz, .bool st, .slice wq wn wc, .string na, .string da]), .v (.agg #[.int .i64 k, .string s, .slice dq dn dc, .int .i64 N, .slice kq kn kc, .int .i64 nm, .int .u8 fi])] [] w R =
 VCTryd182 mq mn mc op pz st wq wn wc na da k s dq dn dc N kq kn kc nm fi w (w.alloc (Obj.cells #[Value.slice mq mn mc, Value.bool op, Value.bool pz, Value.bool st, Value.slice wq wn wc, Value.string na, Value.string da] (136 : Nat))) ((w.alloc (Obj.cells #[Value.slice mq mn mc, Value.bool op, Value.bool pz, Value.bool st, Value.slice wq wn wc, Value.string na, Value.string da] (136 : Nat))).alloc (Obj.cells #[Value.int IntKind.i64 k, Value.string s, Value.slice dq dn dc, Value.int IntKind.i64 N, Value.slice kq kn kc, Value.int IntKind.i64 nm, Value.int IntKind.u8 fi] (124 : Nat))) [(w.heap.size, [((0 : Nat), Value.slice mq mn mc), ((1 : Nat), Value.bool op), ((2 : Nat), Value.bool pz), ((3 : Nat), Value.bool st), ((4 : Nat), Value.slice wq wn wc), ((5 : Nat), Value.string na), ((6 : Nat), Value.string da)]), ((w.alloc (Obj.cells #[Value.slice mq mn mc, Value.bool op, Value.bool pz, Value.bool st, Value.slice wq wn wc, Value.string na, Value.string da] (136 : Nat))).heap.size, [((0 : Nat), Value.int IntKind.i64 k), ((1 : Nat), Value.string s), ((2 : Nat), Value.slice dq dn dc), ((3 : Nat), Value.int IntKind.i64 N), ((4 : Nat), Value.slice kq kn kc), ((5 : Nat), Value.int IntKind.i64 nm), ((6 : Nat), Value.int IntKind.u8 fi)])] R := by kernel_rfl
def VCTryd150 (mq : Option Addr) (mn mc : Nat) (op pz st : Bool) (wq : Option Addr) (wn wc : Nat) (na da : ByteArray) (k : Int) (s : ByteArray) (dq : Option Addr) (dn dc : Nat) (N : Int) (kq : Option Addr) (kn kc : Nat) (nm fi : Int) (x : Int) (w : World) (W1 : World) (W2 : World) (KL : List (Nat × List (Nat × Value))) (R : Ending → World → Prop) : Prop :=
 bif decide (k < (1 : Int)) then
 Known W2 KL → R (Ending.returned (Value.bool (x == (1 : Int)))) W2 else
 bif decide (k > (18 : Int)) then
 Known W2 KL → R (Ending.returned (Value.bool (x == (1 : Int)))) W2 else
 bif decide (k > (15 : Int)) then
 Known W2 KL → R (Ending.returned (Value.bool (x == (0 : Int)))) W2 else
 bif k == (1 : Int) then
 bif x == (0 : Int) then
 Known W2 KL →
 Rets Tryd.prog (181 : Nat) #[Value.agg #[Value.slice mq mn mc, Value.bool op, Value.bool pz, Value.bool st, Value.slice wq wn wc, Value.string na, Value.string da], Value.bool false] W2 fun (v0 : Value) (w1 : World) => ∃ (t2 : Bool), v0 = Value.bool t2 ∧ Keeps W2 w1 [w.heap.size, W1.heap.size] ∧ bif t2 then
 Known w1 KL → R (Ending.returned (Value.bool true)) w1 else
 bif x == (16 : Int) then
 Known w1 KL →
 Rets Tryd.prog (181 : Nat) #[Value.agg #[Value.slice mq mn mc, Value.bool op, Value.bool pz, Value.bool st, Value.slice wq wn wc, Value.string na, Value.string da], Value.bool true] w1 fun (v3 : Value) (w4 : World) => ∃ (t5 : Bool), v3 = Value.bool t5 ∧ Keeps w1 w4 [w.heap.size, W1.heap.size] ∧ (Known w4 KL → R (Ending.returned (Value.bool t5)) w4) else
 Known w1 KL → R (Ending.returned (Value.bool false)) w1 else
 bif x == (16 : Int) then
 Known W2 KL →
 Rets Tryd.prog (181 : Nat) #[Value.agg #[Value.slice mq mn mc, Value.bool op, Value.bool pz, Value.bool st, Value.slice wq wn wc, Value.string na, Value.string da], Value.bool true] W2 fun (v6 : Value) (w7 : World) => ∃ (t8 : Bool), v6 = Value.bool t8 ∧ Keeps W2 w7 [w.heap.size, W1.heap.size] ∧ (Known w7 KL → R (Ending.returned (Value.bool t8)) w7) else
 Known W2 KL → R (Ending.returned (Value.bool false)) W2 else
 bif k == (2 : Int) then
 bif op then
 Known W2 KL → R (Ending.returned (Value.bool (x == (8 : Int)))) W2 else
 bif k == (2 : Int) then
 bif x == (0 : Int) then
 Known W2 KL →
 Rets Tryd.prog (181 : Nat) #[Value.agg #[Value.slice mq mn mc, Value.bool op, Value.bool pz, Value.bool st, Value.slice wq wn wc, Value.string na, Value.string da], Value.bool true] W2 fun (v9 : Value) (w10 : World) => ∃ (t11 : Bool), v9 = Value.bool t11 ∧ Keeps W2 w10 [w.heap.size, W1.heap.size] ∧ bif t11 then
 Known w10 KL → R (Ending.returned (Value.bool true)) w10 else
 bif x == (7 : Int) then
 Known w10 KL →
 Rets Tryd.prog (181 : Nat) #[Value.agg #[Value.slice mq mn mc, Value.bool op, Value.bool pz, Value.bool st, Value.slice wq wn wc, Value.string na, Value.string da], Value.bool false] w10 fun (v12 : Value) (w13 : World) => ∃ (t14 : Bool), v12 = Value.bool t14 ∧ Keeps w10 w13 [w.heap.size, W1.heap.size] ∧ (Known w13 KL → R (Ending.returned (Value.bool t14)) w13) else
 Known w10 KL → R (Ending.returned (Value.bool false)) w10 else
 bif x == (7 : Int) then
 Known W2 KL →
 Rets Tryd.prog (181 : Nat) #[Value.agg #[Value.slice mq mn mc, Value.bool op, Value.bool pz, Value.bool st, Value.slice wq wn wc, Value.string na, Value.string da], Value.bool false] W2 fun (v15 : Value) (w16 : World) => ∃ (t17 : Bool), v15 = Value.bool t17 ∧ Keeps W2 w16 [w.heap.size, W1.heap.size] ∧ (Known w16 KL → R (Ending.returned (Value.bool t17)) w16) else
 Known W2 KL → R (Ending.returned (Value.bool false)) W2 else
 bif k == (15 : Int) then
 bif x == (0 : Int) then
 Known W2 KL →
 Rets Tryd.prog (181 : Nat) #[Value.agg #[Value.slice mq mn mc, Value.bool op, Value.bool pz, Value.bool st, Value.slice wq wn wc, Value.string na, Value.string da], Value.bool true] W2 fun (v18 : Value) (w19 : World) => ∃ (t20 : Bool), v18 = Value.bool t20 ∧ Keeps W2 w19 [w.heap.size, W1.heap.size] ∧ bif t20 then
 Known w19 KL → R (Ending.returned (Value.bool true)) w19 else
 bif x == (7 : Int) then
 Known w19 KL →
 Rets Tryd.prog (181 : Nat) #[Value.agg #[Value.slice mq mn mc, Value.bool op, Value.bool pz, Value.bool st, Value.slice wq wn wc, Value.string na, Value.string da], Value.bool false] w19 fun (v21 : Value) (w22 : World) => ∃ (t23 : Bool), v21 = Value.bool t23 ∧ Keeps w19 w22 [w.heap.size, W1.heap.size] ∧ (Known w22 KL → R (Ending.returned (Value.bool t23)) w22) else
 Known w19 KL → R (Ending.returned (Value.bool false)) w19 else
 bif x == (7 : Int) then
 Known W2 KL →
 Rets Tryd.prog (181 : Nat) #[Value.agg #[Value.slice mq mn mc, Value.bool op, Value.bool pz, Value.bool st, Value.slice wq wn wc, Value.string na, Value.string da], Value.bool false] W2 fun (v24 : Value) (w25 : World) => ∃ (t26 : Bool), v24 = Value.bool t26 ∧ Keeps W2 w25 [w.heap.size, W1.heap.size] ∧ (Known w25 KL → R (Ending.returned (Value.bool t26)) w25) else
 Known W2 KL → R (Ending.returned (Value.bool false)) W2 else
 bif !op then
 Known W2 KL → R (Ending.returned (Value.bool (x == (12 : Int)))) W2 else
 Known W2 KL →
 Rets Tryd.prog (182 : Nat) #[Value.agg #[Value.slice mq mn mc, Value.bool op, Value.bool pz, Value.bool st, Value.slice wq wn wc, Value.string na, Value.string da], Value.agg #[Value.int IntKind.i64 k, Value.string s, Value.slice dq dn dc, Value.int IntKind.i64 N, Value.slice kq kn kc, Value.int IntKind.i64 nm, Value.int IntKind.u8 fi]] W2 fun (v27 : Value) (w28 : World) => ∃ (i29 : Int), v27 = Value.int IntKind.i64 i29 ∧ Keeps W2 w28 [w.heap.size, W1.heap.size] ∧ (Known w28 KL → R (Ending.returned (Value.bool (x == i29))) w28) else
 bif k == (2 : Int) then
 bif x == (0 : Int) then
 Known W2 KL →
 Rets Tryd.prog (181 : Nat) #[Value.agg #[Value.slice mq mn mc, Value.bool op, Value.bool pz, Value.bool st, Value.slice wq wn wc, Value.string na, Value.string da], Value.bool true] W2 fun (v30 : Value) (w31 : World) => ∃ (t32 : Bool), v30 = Value.bool t32 ∧ Keeps W2 w31 [w.heap.size, W1.heap.size] ∧ bif t32 then
 Known w31 KL → R (Ending.returned (Value.bool true)) w31 else
 bif x == (7 : Int) then
 Known w31 KL →
 Rets Tryd.prog (181 : Nat) #[Value.agg #[Value.slice mq mn mc, Value.bool op, Value.bool pz, Value.bool st, Value.slice wq wn wc, Value.string na, Value.string da], Value.bool false] w31 fun (v33 : Value) (w34 : World) => ∃ (t35 : Bool), v33 = Value.bool t35 ∧ Keeps w31 w34 [w.heap.size, W1.heap.size] ∧ (Known w34 KL → R (Ending.returned (Value.bool t35)) w34) else
 Known w31 KL → R (Ending.returned (Value.bool false)) w31 else
 bif x == (7 : Int) then
 Known W2 KL →
 Rets Tryd.prog (181 : Nat) #[Value.agg #[Value.slice mq mn mc, Value.bool op, Value.bool pz, Value.bool st, Value.slice wq wn wc, Value.string na, Value.string da], Value.bool false] W2 fun (v36 : Value) (w37 : World) => ∃ (t38 : Bool), v36 = Value.bool t38 ∧ Keeps W2 w37 [w.heap.size, W1.heap.size] ∧ (Known w37 KL → R (Ending.returned (Value.bool t38)) w37) else
 Known W2 KL → R (Ending.returned (Value.bool false)) W2 else
 bif k == (15 : Int) then
 bif x == (0 : Int) then
 Known W2 KL →
 Rets Tryd.prog (181 : Nat) #[Value.agg #[Value.slice mq mn mc, Value.bool op, Value.bool pz, Value.bool st, Value.slice wq wn wc, Value.string na, Value.string da], Value.bool true] W2 fun (v39 : Value) (w40 : World) => ∃ (t41 : Bool), v39 = Value.bool t41 ∧ Keeps W2 w40 [w.heap.size, W1.heap.size] ∧ bif t41 then
 Known w40 KL → R (Ending.returned (Value.bool true)) w40 else
 bif x == (7 : Int) then
 Known w40 KL →
 Rets Tryd.prog (181 : Nat) #[Value.agg #[Value.slice mq mn mc, Value.bool op, Value.bool pz, Value.bool st, Value.slice wq wn wc, Value.string na, Value.string da], Value.bool false] w40 fun (v42 : Value) (w43 : World) => ∃ (t44 : Bool), v42 = Value.bool t44 ∧ Keeps w40 w43 [w.heap.size, W1.heap.size] ∧ (Known w43 KL → R (Ending.returned (Value.bool t44)) w43) else
 Known w40 KL → R (Ending.returned (Value.bool false)) w40 else
 bif x == (7 : Int) then
 Known W2 KL →
 Rets Tryd.prog (181 : Nat) #[Value.agg #[Value.slice mq mn mc, Value.bool op, Value.bool pz, Value.bool st, Value.slice wq wn wc, Value.string na, Value.string da], Value.bool false] W2 fun (v45 : Value) (w46 : World) => ∃ (t47 : Bool), v45 = Value.bool t47 ∧ Keeps W2 w46 [w.heap.size, W1.heap.size] ∧ (Known w46 KL → R (Ending.returned (Value.bool t47)) w46) else
 Known W2 KL → R (Ending.returned (Value.bool false)) W2 else
 bif !op then
 Known W2 KL → R (Ending.returned (Value.bool (x == (12 : Int)))) W2 else
 Known W2 KL →
 Rets Tryd.prog (182 : Nat) #[Value.agg #[Value.slice mq mn mc, Value.bool op, Value.bool pz, Value.bool st, Value.slice wq wn wc, Value.string na, Value.string da], Value.agg #[Value.int IntKind.i64 k, Value.string s, Value.slice dq dn dc, Value.int IntKind.i64 N, Value.slice kq kn kc, Value.int IntKind.i64 nm, Value.int IntKind.u8 fi]] W2 fun (v48 : Value) (w49 : World) => ∃ (i50 : Int), v48 = Value.int IntKind.i64 i50 ∧ Keeps W2 w49 [w.heap.size, W1.heap.size] ∧ (Known w49 KL → R (Ending.returned (Value.bool (x == i50))) w49)
theorem vcTryd150 (mq : Option Addr) (mn mc : Nat) (op pz st : Bool) (wq : Option Addr) (wn wc : Nat) (na da : ByteArray) (k : Int) (s : ByteArray) (dq : Option Addr) (dn dc : Nat) (N : Int) (kq : Option Addr) (kn kc : Nat) (nm fi : Int) (x : Int) (w : World) (R : Ending → World → Prop) : SX.vcFn Tryd.prog [] Tryd.f150 [.v (.agg #[.slice mq mn mc, .bool op, .bool pz, .bool st, .slice wq wn wc, .string na, .string da]), .v (.agg #[.int .i64 k, .string s, .slice dq dn dc, .int .i64 N, .slice kq kn kc, .int .i64 nm, .int .u8 fi]), .v (.int .i64 x)] [] w R =
 VCTryd150 mq mn mc op pz st wq wn wc na da k s dq dn dc N kq kn kc nm fi x w (w.alloc (Obj.cells #[Value.slice mq mn mc, Value.bool op, Value.bool pz, Value.bool st, Value.slice wq wn wc, Value.string na, Value.string da] (136 : Nat))) ((w.alloc (Obj.cells #[Value.slice mq mn mc, Value.bool op, Value.bool pz, Value.bool st, Value.slice wq wn wc, Value.string na, Value.string da] (136 : Nat))).alloc (Obj.cells #[Value.int IntKind.i64 k, Value.string s, Value.slice dq dn dc, Value.int IntKind.i64 N, Value.slice kq kn kc, Value.int IntKind.i64 nm, Value.int IntKind.u8 fi] (124 : Nat))) [(w.heap.size, [((0 : Nat), Value.slice mq mn mc), ((1 : Nat), Value.bool op), ((2 : Nat), Value.bool pz), ((3 : Nat), Value.bool st), ((4 : Nat), Value.slice wq wn wc), ((5 : Nat), Value.string na), ((6 : Nat), Value.string da)]), ((w.alloc (Obj.cells #[Value.slice mq mn mc, Value.bool op, Value.bool pz, Value.bool st, Value.slice wq wn wc, Value.string na, Value.string da] (136 : Nat))).heap.size, [((0 : Nat), Value.int IntKind.i64 k), ((1 : Nat), Value.string s), ((2 : Nat), Value.slice dq dn dc), ((3 : Nat), Value.int IntKind.i64 N), ((4 : Nat), Value.slice kq kn kc), ((5 : Nat), Value.int IntKind.i64 nm), ((6 : Nat), Value.int IntKind.u8 fi)])] R := by kernel_rfl
end Go.Proofs.YtbpknjldphckgaaDoor

namespace Go.Proofs.YtbpknjldphckgaaDoor
open Go Go.SX Go.Proofs Go.Lib
set_option maxRecDepth 100000
set_option linter.unusedVariables false
set_option linter.unusedSimpArgs false
/-- The document's model, and where its rows lie. -/
structure Dx where
  m : MM
  mq : Option Addr
  mc : Nat
  wq : Option Addr
  wc : Nat
def dC (x : Dx) : Array Value := #[.slice x.mq x.m.may.length x.mc, .bool x.m.opn, .bool x.m.poisoned, .bool x.m.streaming, .slice x.wq x.m.now.length x.wc, .string (ba x.m.name), .string (ba x.m.data)]
def dV (x : Dx) : Value := .agg #[.slice x.mq x.m.may.length x.mc, .bool x.m.opn, .bool x.m.poisoned, .bool x.m.streaming, .slice x.wq x.m.now.length x.wc, .string (ba x.m.name), .string (ba x.m.data)]
structure DRd (w : World) (x : Dx) : Prop where
  may : SRd w x.mq x.m.may.length x.m.may
  now : FRd w x.wq x.m.now.length x.m.now
  len : x.m.may.length ≤ 1000000 ∧ x.m.now.length ≤ 1000000 ∧ (∀ y ∈ x.m.may, y.2.length ≤ 1000000) ∧ x.m.data.length ≤ 1000000
theorem DRd.kp0 {w w' : World} {x : Dx} (h : DRd w x) (k : Kp none_ w w') : DRd w' x := ⟨h.may.kp0 k, h.now.kp0 k, h.len⟩
theorem laidK (w : World) (cs : Array Value) (e : TypeId) : Kp none_ w (w.alloc (.cells cs e)) ∧ (w.alloc (.cells cs e)).heap.size = w.heap.size + 1 := ⟨(Kp.refl none_ w).alloc1 _, alloc_size _ _⟩
theorem c149 (k : Int) (w : World) : Rets Tryd.prog 149 #[.int .i64 k] w fun v w' => v = .bool (callsM k) ∧ Kp none_ w w' := by
  refine ent [_] Tryd.func149 ((vcTryd149 _ w _).mpr ?_)
  unfold VCTryd149
  have L : ∀ {t : Bool}, t = callsM k → ∃ v, Ending.returned (.bool t) = Ending.returned v ∧ v = .bool (callsM k) ∧ Kp none_ w w := fun e => ⟨_, rfl, by rw [e], Kp.refl _ _⟩
  refine bif_dec (fun h1 => bif_dec (fun h2 => L ?_) (fun h2 => bif_dec (fun h3 => L ?_) (fun h3 => L ?_))) (fun h1 => bif_dec (fun h3 => L ?_) (fun h3 => L ?_))
  all_goals
    unfold callsM
    symm
    first | exact decide_eq_true (by omega) | exact decide_eq_false (by omega) | (rw [decide_eq_decide]; omega)
theorem c181 {w : World} (x : Dx) (h : DRd w x) (t : Bool) : Rets Tryd.prog 181 #[dV x, .bool t] w fun v w' => v = .bool (someM x.m t) ∧ Kp none_ w w' := by
  refine ent [_, _] Tryd.func181 ((vcTryd181 x.mq x.m.may.length x.mc x.m.opn x.m.poisoned x.m.streaming x.wq x.m.now.length x.wc (ba x.m.name) (ba x.m.data) t w _).mpr ?_)
  obtain ⟨ka, za⟩ := laidK w (dC x) 136
  unfold dC at ka za
  generalize w.alloc _ = W at *
  unfold VCTryd181
  obtain ⟨l, hm, hn, r⟩ := h.may
  have hl := h.len.1
  rw [hn] at hl ⊢
  refine ⟨fun i w' => ∃ j : Nat, i = j ∧ j ≤ l.length ∧ w' = W ∧ ∀ y (hk : y < l.length), y < j → ((l[y]).t == t) = false, fun i _ => (l.length - i).toNat, ⟨0, rfl, by omega, rfl, fun y hk h => by omega⟩, ?_⟩
  rintro i w3 ⟨j, rfl, hj, rfl, hnn⟩ _
  refine bif_dec (fun hi => ?_) (fun hi _ => ⟨_, rfl, ?_, ka⟩)
  · have hjl : j < l.length := by omega
    refine ⟨⟨by omega, hi⟩, st_at (r.kp0 ka) hjl fun a _ mx => ⟨_, mx.c0, bif_b (fun hh _ => ⟨_, rfl, ?_, ka⟩) (fun hh => wr64 (by omega) ⟨rfl, ⟨j + 1, by omega, by omega, rfl, fun y hk hyj => ?_⟩, by first | omega | (dsimp only; omega)⟩)⟩⟩
    · unfold someM
      rw [← hm, List.any_map]
      congr 1
      symm
      rw [List.any_eq_true]
      exact ⟨_, List.getElem_mem hjl, hh⟩
    · by_cases e : y = j
      · subst e; exact hh
      · exact hnn y hk (by omega)
  · unfold someM
    rw [← hm, List.any_map]
    congr 1
    symm
    rw [List.any_eq_false]
    intro y hy
    obtain ⟨k, hk, e⟩ := List.getElem_of_mem hy
    rw [← e]
    have := hnn k hk (by omega)
    simpa using this
theorem find_neg {L : List Fil} {s : List UInt8} : idxO (findK Prod.fst L s) < 0 ↔ hasF L s = false := by
  have h1 := idxO_nonneg (findK Prod.fst L s)
  rw [findK_has] at h1
  show _ ↔ has Prod.fst L s = false
  rw [← h1, decide_eq_false_iff_not]
  omega
theorem c194 {w : World} (x : Dx) (h : DRd w x) (s : ByteArray) (z : Int) : Rets Tryd.prog 194 #[dV x, .string s, .int .i64 z] w fun v w' => v = .int .i64 (putEr x.m (bytesL s) z) ∧ Kp none_ w w' := by
  refine ent [_, _, _] Tryd.func194 ((vcTryd194 x.mq x.m.may.length x.mc x.m.opn x.m.poisoned x.m.streaming x.wq x.m.now.length x.wc (ba x.m.name) (ba x.m.data) s z w _).mpr ?_)
  obtain ⟨ka, za⟩ := laidK w (dC x) 136
  unfold dC at ka za
  generalize w.alloc _ = W at *
  unfold VCTryd194 putEr
  refine bif_b (fun hs _ => ⟨_, rfl, by rw [if_pos hs], ka⟩) (fun hs => ?_)
  rw [if_neg (by rw [hs]; decide)]
  refine bif_b (fun hp _ => ⟨_, rfl, by rw [if_pos hp], ka⟩) (fun hp => ?_)
  rw [if_neg (by rw [hp]; decide)]
  intro _
  refine (c29 s W).mono ?_
  rintro v w1 ⟨rfl, k1⟩
  refine ⟨_, rfl, k1.keeps (fun b hb => ⟨by simp at hb; omega, id⟩), bif_not (fun hn _ => ⟨_, rfl, by rw [if_pos hn], ka.trans k1⟩) (fun hn => ?_)⟩
  rw [if_neg (by rw [hn]; decide)]
  refine bif_dec (fun hz _ => ⟨_, rfl, by rw [if_pos hz], ka.trans k1⟩) (fun hz => ?_)
  rw [if_neg hz]
  intro _
  refine (c87 ((h.now.kp0 ka).kp0 k1) h.len.2.1 s).mono ?_
  rintro v w2 ⟨rfl, e⟩
  obtain rfl := e.symm
  refine ⟨_, rfl, (Kp.refl none_ _).keeps (fun b hb => ⟨by have := k1.size; simp at hb; omega, id⟩), bif_dec (fun hf => bif_dec (fun hl _ => ⟨_, rfl, by rw [if_pos ⟨find_neg.1 hf, by omega⟩], ka.trans k1⟩) (fun hl _ => ⟨_, rfl, by rw [if_neg (fun hh => by omega)], ka.trans k1⟩)) (fun hf _ => ⟨_, rfl, by rw [if_neg (fun hh => hf (find_neg.2 hh.1))], ka.trans k1⟩)⟩
theorem c182 {w : World} (x : Dx) (h : DRd w x) (o : Ox) : Rets Tryd.prog 182 #[dV x, opV o] w fun v w' => v = .int .i64 (insE x.m o.stp) ∧ Kp none_ w w' := by
  refine ent [_, _] Tryd.func182 ((vcTryd182 x.mq x.m.may.length x.mc x.m.opn x.m.poisoned x.m.streaming x.wq x.m.now.length x.wc (ba x.m.name) (ba x.m.data) o.k (ba o.s) o.dq o.d.length o.dc o.N o.kq o.kn o.kc o.nm o.fi w _).mpr ?_)
  obtain ⟨ka, za⟩ := laidK w (dC x) 136
  unfold dC at ka za
  generalize w.alloc _ = W1 at *
  obtain ⟨kb, zb⟩ := laidK W1 (opC o) 124
  unfold opC at kb zb
  generalize W1.alloc _ = W2 at *
  have kk := ka.trans kb
  unfold VCTryd182
  have ds : (ba x.m.data).size = x.m.data.length := ba_size _
  have kp2 : ∀ {w1 : World}, Kp none_ W2 w1 → Keeps W2 w1 [w.heap.size, W1.heap.size] := fun k => k.keeps fun b hb => ⟨by simp at hb; omega, id⟩
  have L : ∀ {z : Int} {w1 : World} {P : Prop}, Kp none_ W2 w1 → z = insE x.m o.stp → P → ∃ v, Ending.returned (.int .i64 z) = Ending.returned v ∧ v = .int .i64 (insE x.m o.stp) ∧ Kp none_ w w1 := fun k e _ => ⟨_, rfl, by rw [e], kk.trans k⟩
  have P : ∀ {z : Int} {A : Prop} {B : World → Prop}, putEr x.m o.s z = insE x.m o.stp → A → Rets Tryd.prog 194 #[dV x, .string (ba o.s), .int .i64 z] W2 fun v0 w1 => ∃ i2 : Int, v0 = .int .i64 i2 ∧ Keeps W2 w1 [w.heap.size, W1.heap.size] ∧ (B w1 → ∃ v, Ending.returned (.int .i64 i2) = Ending.returned v ∧ v = .int .i64 (insE x.m o.stp) ∧ Kp none_ w w1) := fun {z A B} e _ => by
    refine (c194 x (h.kp0 kk) (ba o.s) z).mono ?_
    rintro v w1 ⟨rfl, k1⟩
    exact ⟨_, rfl, kp2 k1, L k1 (by rw [bytesL_ba]; exact e)⟩
  have F : ∀ {A : Prop} {B C : World → Prop}, (insE x.m o.stp = if hasF x.m.now o.s = false then 7 else 0) → A → Rets Tryd.prog 87 #[.slice x.wq x.m.now.length x.wc, .string (ba o.s)] W2 fun v7 w8 => ∃ i9 : Int, v7 = .int .i64 i9 ∧ Keeps W2 w8 [w.heap.size, W1.heap.size] ∧ bif decide (i9 < 0) then (B w8 → ∃ v, Ending.returned (.int .i64 7) = Ending.returned v ∧ v = .int .i64 (insE x.m o.stp) ∧ Kp none_ w w8) else (C w8 → ∃ v, Ending.returned (.int .i64 0) = Ending.returned v ∧ v = .int .i64 (insE x.m o.stp) ∧ Kp none_ w w8) := fun {A B C} e _ => by
    refine (c87 (h.now.kp0 kk) h.len.2.1 (ba o.s)).mono ?_
    rintro v w1 ⟨rfl, e1⟩
    obtain rfl := e1.symm
    rw [bytesL_ba]
    exact ⟨_, rfl, kp2 (Kp.refl _ _), bif_dec (fun hf => L (Kp.refl _ _) (by rw [e, if_pos (find_neg.1 hf)])) (fun hf => L (Kp.refl _ _) (by rw [e, if_neg (fun hh => hf (find_neg.2 hh))]))⟩
  have hk : o.stp.kind = o.k := rfl
  have dl := h.len.2.2.2
  repeat' with_reducible first | refine bif_eq (fun _ => ?_) (fun _ => ?_) | refine bif_dec (fun _ => ?_) (fun _ => ?_) | refine bif_not (fun _ => ?_) (fun _ => ?_) | refine bif_b (fun _ => ?_) (fun _ => ?_) | refine wr64 (by omega) ?_
  all_goals first
    | (exfalso; omega)
    | exact P (by unfold insE; simp only [hk]; first | (rw [if_pos (by assumption)]) | (rw [if_neg (by omega), if_pos (by assumption)]))
    | exact F (by unfold insE; simp only [hk]; rw [if_neg (by omega), if_neg (by omega), if_neg (by omega), if_neg (by omega), if_neg (by simp [*]), if_neg (by simp [*])]; simp [show o.k < 12 by omega])
    | exact L (Kp.refl _ _) (by unfold insE; simp [*] <;> omega)
end Go.Proofs.YtbpknjldphckgaaDoor

namespace Go.Proofs.YtbpknjldphckgaaDoor
open Go Go.SX Go.Proofs
set_option maxRecDepth 100000
set_option linter.unusedVariables false
def VCTryd179 (p0 : Option Addr) (n0 c0 : Nat) (p1 : Option Addr) (n1 c1 : Nat) (w : World) (R : Ending → World → Prop) : Prop :=
 bif (↑n0 : Int) != (↑n1 : Int) then
 R (Ending.returned (Value.bool false)) w else
 ∃ (I0 : Int → World → Prop), ∃ (I1 : Int → World → Nat), I0 (0 : Int) w ∧ ∀ (i2 : Int) (w3 : World), I0 i2 w3 → bif decide (i2 < (↑n0 : Int)) then
 ((0 : Int) ≤ i2 ∧ i2 < (↑n0 : Int)) ∧ SX.Ptr p0 fun (a4 : Addr) => ∃ (s5 : ByteArray), w3.drew.cell? (a4.add (i2.toNat * (1 : Nat))) = some (Value.string s5) ∧ ((0 : Int) ≤ i2 ∧ i2 < (↑n1 : Int)) ∧ SX.Ptr p1 fun (a6 : Addr) => ∃ (s7 : ByteArray), w3.drew.cell? (a6.add (i2.toNat * (1 : Nat))) = some (Value.string s7) ∧ bif !s5.toList == s7.toList then
 R (Ending.returned (Value.bool false)) w3.drew else
 Wr IntKind.i64 (i2 + (1 : Int)) fun (i8 : Int) => I0 i8 w3.drew ∧ I1 i8 w3.drew < I1 i2 w3 else
 R (Ending.returned (Value.bool true)) w3
theorem vcTryd179 (p0 : Option Addr) (n0 c0 : Nat) (p1 : Option Addr) (n1 c1 : Nat) (w : World) (R : Ending → World → Prop) : SX.vcFn Tryd.prog [(4, ⟨[(5, .int .i64)], [1, 0], []⟩)] Tryd.f179 [.v (.slice p0 n0 c0), .v (.slice p1 n1 c1)] [] w R =
 VCTryd179 p0 n0 c0 p1 n1 c1 w  R := by kernel_rfl
end Go.Proofs.YtbpknjldphckgaaDoor

namespace Go.Proofs.YtbpknjldphckgaaDoor
open Go Go.SX Go.Proofs Go.Lib
set_option maxRecDepth 100000
set_option linter.unusedVariables false
set_option linter.unusedSimpArgs false
theorem c150 {w : World} (x : Dx) (h : DRd w x) (o : Ox) (e : Int) : Rets Tryd.prog 150 #[dV x, opV o, .int .i64 e] w fun v w' => v = .bool (toldM x.m o.stp e) ∧ Kp none_ w w' := by
  refine ent [_, _, _] Tryd.func150 ((vcTryd150 x.mq x.m.may.length x.mc x.m.opn x.m.poisoned x.m.streaming x.wq x.m.now.length x.wc (ba x.m.name) (ba x.m.data) o.k (ba o.s) o.dq o.d.length o.dc o.N o.kq o.kn o.kc o.nm o.fi e w _).mpr ?_)
  obtain ⟨ka, za⟩ := laidK w (dC x) 136
  unfold dC at ka za
  generalize w.alloc _ = W1 at *
  obtain ⟨kb, zb⟩ := laidK W1 (opC o) 124
  unfold opC at kb zb
  generalize W1.alloc _ = W2 at *
  have kk := ka.trans kb
  unfold VCTryd150
  have k0 : Kp none_ W2 W2 := Kp.refl _ _
  have kp2 : ∀ {W w1 : World}, Kp none_ W2 W → Kp none_ W w1 → Keeps W w1 [w.heap.size, W1.heap.size] := fun k k1 => k1.keeps fun b hb => ⟨by have := k.size; simp at hb; omega, id⟩
  have L : ∀ {z : Bool} {w1 : World} {P : Prop}, Kp none_ W2 w1 → z = toldM x.m o.stp e → P → ∃ v, Ending.returned (.bool z) = Ending.returned v ∧ v = .bool (toldM x.m o.stp e) ∧ Kp none_ w w1 := fun k e _ => ⟨_, rfl, by rw [e], kk.trans k⟩
  have S : ∀ {W : World} {t : Bool} {K : Bool → World → Prop} {A : Prop}, Kp none_ W2 W → (∀ w', Kp none_ W2 w' → K (someM x.m t) w') → A → Rets Tryd.prog 181 #[.agg #[.slice x.mq x.m.may.length x.mc, .bool x.m.opn, .bool x.m.poisoned, .bool x.m.streaming, .slice x.wq x.m.now.length x.wc, .string (ba x.m.name), .string (ba x.m.data)], .bool t] W fun v w1 => ∃ t2 : Bool, v = .bool t2 ∧ Keeps W w1 [w.heap.size, W1.heap.size] ∧ K t2 w1 := fun {W t K A} k f _ => by
    refine (c181 x ((h.kp0 kk).kp0 k) t).mono ?_
    rintro v w1 ⟨rfl, k1⟩
    exact ⟨_, rfl, kp2 k k1, f w1 (k.trans k1)⟩
  have I : ∀ {K : Int → World → Prop} {A : Prop}, (∀ w', Kp none_ W2 w' → K (insE x.m o.stp) w') → A → Rets Tryd.prog 182 #[.agg #[.slice x.mq x.m.may.length x.mc, .bool x.m.opn, .bool x.m.poisoned, .bool x.m.streaming, .slice x.wq x.m.now.length x.wc, .string (ba x.m.name), .string (ba x.m.data)], .agg #[.int .i64 o.k, .string (ba o.s), .slice o.dq o.d.length o.dc, .int .i64 o.N, .slice o.kq o.kn o.kc, .int .i64 o.nm, .int .u8 o.fi]] W2 fun v w1 => ∃ i2 : Int, v = .int .i64 i2 ∧ Keeps W2 w1 [w.heap.size, W1.heap.size] ∧ K i2 w1 := fun {K A} f _ => by
    refine (c182 x (h.kp0 kk) o).mono ?_
    rintro v w1 ⟨rfl, k1⟩
    exact ⟨_, rfl, kp2 k0 k1, f w1 k1⟩
  have hk : o.stp.kind = o.k := rfl
  repeat' first
    | with_reducible first | refine bif_eq (fun _ => ?_) (fun _ => ?_) | refine bif_dec (fun _ => ?_) (fun _ => ?_) | refine bif_not (fun _ => ?_) (fun _ => ?_) | refine bif_b (fun _ => ?_) (fun _ => ?_)
    | with_reducible refine S (by assumption) (fun _ _ => ?_)
    | with_reducible refine I (fun _ _ => ?_)
  all_goals first
    | (exfalso; omega)
    | exact L (by assumption) (by unfold toldM; simp [*] <;> omega)
theorem c151 {w : World} (x : Dx) (o : Ox) (a : Ax) : Rets Tryd.prog 151 #[dV x, opV o, anV a] w fun v w' => v = .bool (openM x.m o.stp a.ans) ∧ Kp none_ w w' := by
  refine ent [_, _, _] Tryd.func151 ((vcTryd151 x.mq x.m.may.length x.mc x.m.opn x.m.poisoned x.m.streaming x.wq x.m.now.length x.wc (ba x.m.name) (ba x.m.data) o.k (ba o.s) o.dq o.d.length o.dc o.N o.kq o.kn o.kc o.nm o.fi a.e a.aq a.d.length a.ac a.z a.nq a.n.length a.nc a.lq a.L.length a.lc a.re a.po w _).mpr ?_)
  obtain ⟨ka, za⟩ := laidK w (dC x) 136
  unfold dC at ka za
  generalize w.alloc _ = W1 at *
  obtain ⟨kb, zb⟩ := laidK W1 (opC o) 124
  unfold opC at kb zb
  generalize W1.alloc _ = W2 at *
  obtain ⟨kc, zc⟩ := laidK W2 (anC a) 138
  unfold anC at kc zc
  generalize W2.alloc _ = W3 at *
  have kk := (ka.trans kb).trans kc
  unfold VCTryd151
  have L : ∀ {z : Bool} {P : Prop}, z = openM x.m o.stp a.ans → P → ∃ v, Ending.returned (.bool z) = Ending.returned v ∧ v = .bool (openM x.m o.stp a.ans) ∧ Kp none_ w W3 := fun e _ => ⟨_, rfl, by rw [e], kk⟩
  repeat' with_reducible first | refine bif_eq (fun _ => ?_) (fun _ => ?_) | refine bif_ne (fun _ => ?_) (fun _ => ?_)
  all_goals first
    | (exfalso; omega)
    | exact L (by unfold openM; simp [*] <;> omega)
theorem c179 {w : World} {q r : Option Addr} {c d : Nat} {l m : List (List UInt8)} (hq : StrsAt w q l) (hr : StrsAt w r m) (hl : l.length ≤ 1000000) : Rets Tryd.prog 179 #[.slice q l.length c, .slice r m.length d] w fun v w' => v = .bool (l == m) ∧ Kp none_ w w' := by
  refine ent [_, _] Tryd.func179 ((vcTryd179 _ _ _ _ _ _ w _).mpr ?_)
  unfold VCTryd179
  refine bif_ne (fun hne => ⟨_, rfl, ?_, Kp.refl _ _⟩) (fun he => ?_)
  · congr 1
    symm
    rw [beq_eq_false_iff_ne]
    intro e
    exact hne (by rw [e])
  have he : l.length = m.length := by omega
  refine ⟨fun i w' => ∃ j : Nat, i = j ∧ j ≤ l.length ∧ Kp none_ w w' ∧ ∀ y (hk : y < l.length), y < j → l[y] = m[y]'(by omega), fun i _ => (l.length - i).toNat, ⟨0, rfl, by omega, Kp.refl _ _, fun y hk h => by omega⟩, ?_⟩
  rintro i w3 ⟨j, rfl, hj, k3, hn⟩
  have k3d : Kp none_ w w3.drew := k3.drew
  refine bif_dec (fun hi => ?_) (fun hi => ⟨_, rfl, ?_, k3⟩)
  · have hjl : j < l.length := by omega
    refine ⟨⟨by omega, hi⟩, str_at (hq.kp0 k3d) hjl fun a _ m1 => ⟨_, m1, ⟨by omega, by omega⟩, str_at (hr.kp0 k3d) (by omega) fun b _ m2 => ⟨_, m2, ?_⟩⟩⟩
    rw [beq_str, bytesL_ba, bytesL_ba]
    refine bif_not (fun hh => ⟨_, rfl, ?_, k3d⟩) (fun hh => wr64 (by omega) ⟨⟨j + 1, by omega, by omega, k3d, fun y hk hyj => ?_⟩, by first | omega | (dsimp only; omega)⟩)
    · congr 1
      symm
      rw [beq_eq_false_iff_ne]
      intro e
      subst e
      simp at hh
    · by_cases e : y = j
      · subst e; simpa using hh
      · exact hn y hk (by omega)
  · congr 1
    symm
    rw [beq_iff_eq]
    exact List.ext_getElem he fun k h1 h2 => hn k h1 (by omega)
theorem c147 {w : World} (a b : Ax) (ha : AnAt w a) (hb : AnAt w b) (hn : a.n.length ≤ 1000000) (hl : a.L.length ≤ 1000000) : Rets Tryd.prog 147 #[anV a, anV b] w fun v w' => v = .bool (alikeA a.ans b.ans) ∧ Kp none_ w w' := by
  refine ent [_, _] Tryd.func147 ((vcTryd147 a.e a.aq a.d.length a.ac a.z a.nq a.n.length a.nc a.lq a.L.length a.lc a.re a.po b.e b.aq b.d.length b.ac b.z b.nq b.n.length b.nc b.lq b.L.length b.lc b.re b.po w _).mpr ?_)
  obtain ⟨ka, za⟩ := laidK w (anC a) 138
  unfold anC at ka za
  generalize w.alloc _ = W1 at *
  obtain ⟨kb, zb⟩ := laidK W1 (anC b) 138
  unfold anC at kb zb
  generalize W1.alloc _ = W2 at *
  have kk := ka.trans kb
  unfold VCTryd147
  have kp2 : ∀ {W w1 : World}, Kp none_ W2 W → Kp none_ W w1 → Keeps W w1 [w.heap.size, W1.heap.size] := fun k k1 => k1.keeps fun b hb => ⟨by have := k.size; simp at hb; omega, id⟩
  have L : ∀ {z : Bool} {w1 : World} {P : Prop}, Kp none_ W2 w1 → z = alikeA a.ans b.ans → P → ∃ v, Ending.returned (.bool z) = Ending.returned v ∧ v = .bool (alikeA a.ans b.ans) ∧ Kp none_ w w1 := fun k e _ => ⟨_, rfl, by rw [e], kk.trans k⟩
  have k0 : Kp none_ W2 W2 := Kp.refl _ _
  have hab := ha.kp0 kk
  have hbb := hb.kp0 kk
  refine bif_eq (fun h1 => ⟨ba a.d, ba_size _, hab.dat, ba b.d, ba_size _, hbb.dat, ?_⟩) (fun h1 => L k0 (by unfold alikeA; simp [*]))
  rw [beq_str, bytesL_ba, bytesL_ba]
  refine bif_b (fun h2 => bif_eq (fun h3 _ => ?_) (fun h3 => L k0 (by unfold alikeA; simp [*]))) (fun h2 => L k0 (by unfold alikeA; simp at h2; simp [*]))
  refine (c179 hab.nam hbb.nam hn).mono ?_
  rintro v w3 ⟨rfl, k3⟩
  refine ⟨_, rfl, kp2 k0 k3, bif_b (fun h4 _ => ?_) (fun h4 => L k3 (by unfold alikeA; simp at h4; simp [*]))⟩
  refine (c85 (hab.fil.kp0 k3) (hbb.fil.kp0 k3) hl).mono ?_
  rintro v w4 ⟨rfl, k4⟩
  have k34 := k3.trans k4
  simp at h2 h4
  refine ⟨_, rfl, kp2 k3 k4, bif_dec (fun h5 => bif_b (fun h6 => L k34 (by unfold alikeA; simp at h6; simp [*])) (fun h6 => L k34 (by unfold alikeA; simp [h6]))) (fun h5 => L k34 (by unfold alikeA; simp [*]))⟩
end Go.Proofs.YtbpknjldphckgaaDoor

