/- The conditions of functions, as the executor computes them: each is equal to what 'vcFn' says. -/
import Derived.Test.YtlgkcbdpaffigaaSxLib
import Derived.Test.YtlgkcbdpaffigaaProg
namespace Go.Proofs.Ytlgkcbdpaffigaa
open Go Go.SX Go.Proofs
set_option maxRecDepth 100000
set_option linter.unusedVariables false
def VCTry58 (p0 : Option Addr) (p1 : Int) (p2 : Option Addr) (n2 c2 : Nat) (w : World) (R : Ending → World → Prop) : Prop :=
Rets Try.prog (95 : Nat) #[Value.int IntKind.i64 p1, Value.int IntKind.i64 (↑n2 : Int)] w fun (v0 : Value) (w1 : World) =>
 ∃ (t2 : Bool),
  v0 = Value.bool t2 ∧
   Keeps w w1 [] ∧
    bif !t2 then R (Ending.returned (Value.int IntKind.i64 (1 : Int))) w1
    else
     bif (↑n2 : Int) == (0 : Int) then R (Ending.returned (Value.int IntKind.i64 (0 : Int))) w1
     else
      Rets Try.prog (96 : Nat) #[Value.pointer p0, Value.int IntKind.i64 p1, Value.int IntKind.i64 (↑n2 : Int)] w1 fun (v3 : Value) (w4 : World) =>
       ∃ (i5 : Int),
        v3 = Value.int IntKind.i64 i5 ∧
         Keeps w1 w4 [] ∧
          ∃ (I6 : World → Prop),
           ∃ (I7 : World → Nat),
            I6 w4 ∧
             ∀ (w8 : World),
              I6 w8 →
               SX.Ptr p0 fun (a9 : Addr) =>
                ∃ (q10 : Option Addr),
                 ∃ (n11 : Nat),
                  ∃ (n12 : Nat),
                   w8.cell? (a9.add (0 : Nat)) = some (Value.slice q10 n11 n12) ∧
                    bif decide ((↑n11 : Int) < i5) then
                     SX.Ptr p0 fun (a13 : Addr) =>
                      ∃ (q14 : Option Addr),
                       ∃ (n15 : Nat),
                        ∃ (n16 : Nat),
                         w8.drew.cell? (a13.add (0 : Nat)) = some (Value.slice q14 n15 n16) ∧
                          Rets Try.prog (97 : Nat) #[] w8.drew fun (v17 : Value) (w18 : World) =>
                           ∃ (s19 : ByteArray),
                            v17 = Value.string s19 ∧
                             Keeps w8.drew w18 [] ∧
                              w18.cell? (a13.add (0 : Nat)) = some (Value.slice q14 n15 n16) ∧
                               (w18.alloc (Obj.cells #[Value.string s19] (9 : Nat))).cell? (a13.add (0 : Nat)) = some (Value.slice q14 n15 n16) ∧
                                Runs Try.prog
                                 (Builtin.append_ #[(30 : Nat), (30 : Nat)] (30 : Nat)
                                  #[Value.slice q14 n15 n16, Value.slice (some { block := w18.heap.size, off := (0 : Nat) }) (1 : Nat) (1 : Nat)])
                                 (w18.alloc (Obj.cells #[Value.string s19] (9 : Nat))) fun (v20 : Value) (w21 : World) =>
                                 ∃ (q22 : Option Addr),
                                  ∃ (n23 : Nat),
                                   ∃ (n24 : Nat),
                                    v20 = Value.slice q22 n23 n24 ∧
                                     Keeps (w18.alloc (Obj.cells #[Value.string s19] (9 : Nat))) w21 [] ∧
                                      SX.Ptr p0 fun (a25 : Addr) =>
                                       (∃ (v26 : Value), w21.cell? ((a25.add (0 : Nat)).add (0 : Nat)) = some v26) ∧
                                        w21.frozen? ((a25.add (0 : Nat)).add (0 : Nat)) = false ∧
                                         SX.Ptr p0 fun (a27 : Addr) =>
                                          ∃ (q28 : Option Addr),
                                           ∃ (n29 : Nat),
                                            ∃ (n30 : Nat),
                                             (w21.setCell ((a25.add (0 : Nat)).add (0 : Nat)) (Value.slice q22 n23 n24)).cell? (a27.add (1 : Nat)) =
                                               some (Value.slice q28 n29 n30) ∧
                                              Runs Try.prog
                                               (Builtin.append_ #[(30 : Nat), (30 : Nat)] (30 : Nat)
                                                #[Value.slice q28 n29 n30,
                                                 Value.slice
                                                  (some
                                                   {block := (w21.setCell ((a25.add (0 : Nat)).add (0 : Nat)) (Value.slice q22 n23 n24)).heap.size, off := (0 : Nat) })
                                                  (1 : Nat) (1 : Nat)])
                                               ((w21.setCell ((a25.add (0 : Nat)).add (0 : Nat)) (Value.slice q22 n23 n24)).alloc
                                                (Obj.cells #[Value.string { data := #[] }] (9 : Nat)))
                                               fun (v31 : Value) (w32 : World) =>
                                               ∃ (q33 : Option Addr),
                                                ∃ (n34 : Nat),
                                                 ∃ (n35 : Nat),
                                                  v31 = Value.slice q33 n34 n35 ∧
                                                   Keeps
                                                     ((w21.setCell ((a25.add (0 : Nat)).add (0 : Nat)) (Value.slice q22 n23 n24)).alloc
                                                      (Obj.cells #[Value.string { data := #[] }] (9 : Nat)))
                                                     w32 [] ∧
                                                    SX.Ptr p0 fun (a36 : Addr) =>
                                                     (∃ (v37 : Value), w32.cell? ((a36.add (1 : Nat)).add (0 : Nat)) = some v37) ∧
                                                      w32.frozen? ((a36.add (1 : Nat)).add (0 : Nat)) = false ∧
                                                       SX.Ptr p0 fun (a38 : Addr) =>
                                                        ∃ (q39 : Option Addr),
                                                         ∃ (n40 : Nat),
                                                          ∃ (n41 : Nat),
                                                           (w32.setCell ((a36.add (1 : Nat)).add (0 : Nat)) (Value.slice q33 n34 n35)).cell?
                                                              (a38.add (2 : Nat)) =
                                                             some (Value.slice q39 n40 n41) ∧
                                                            Runs Try.prog
                                                             (Builtin.append_ #[(31 : Nat), (31 : Nat)] (31 : Nat)
                                                              #[Value.slice q39 n40 n41,
                                                               Value.slice
                                                                (some
                                                                 {
                                                                  block :=
                                                                   (w32.setCell ((a36.add (1 : Nat)).add (0 : Nat)) (Value.slice q33 n34 n35)).heap.size,
                                                                  off := (0 : Nat) })
                                                                (1 : Nat) (1 : Nat)])
                                                             ((w32.setCell ((a36.add (1 : Nat)).add (0 : Nat)) (Value.slice q33 n34 n35)).alloc
                                                              (Obj.cells #[Value.bool false] (4 : Nat)))
                                                             fun (v42 : Value) (w43 : World) =>
                                                             ∃ (q44 : Option Addr),
                                                              ∃ (n45 : Nat),
                                                               ∃ (n46 : Nat),
                                                                v42 = Value.slice q44 n45 n46 ∧
                                                                 Keeps
                                                                   ((w32.setCell ((a36.add (1 : Nat)).add (0 : Nat)) (Value.slice q33 n34 n35)).alloc
                                                                    (Obj.cells #[Value.bool false] (4 : Nat)))
                                                                   w43 [] ∧
                                                                  SX.Ptr p0 fun (a47 : Addr) =>
                                                                   (∃ (v48 : Value), w43.cell? ((a47.add (2 : Nat)).add (0 : Nat)) = some v48) ∧
                                                                    w43.frozen? ((a47.add (2 : Nat)).add (0 : Nat)) = false ∧
                                                                     I6 (w43.setCell ((a47.add (2 : Nat)).add (0 : Nat)) (Value.slice q44 n45 n46)) ∧
                                                                      I7 (w43.setCell ((a47.add (2 : Nat)).add (0 : Nat)) (Value.slice q44 n45 n46)) <
                                                                       I7 w8
                    else
                     (512 : Int) ≠ (0 : Int) ∧
                      Wr IntKind.i64 (p1.tdiv (512 : Int)) fun (i49 : Int) =>
                       ∃ (I50 : Int → World → Prop),
                        ∃ (I51 : Int → World → Nat),
                         I50 i49 w8 ∧
                          ∀ (i52 : Int) (w53 : World),
                           I50 i52 w53 →
                            bif decide (i52 < i5) then
                             Wr IntKind.i64 ((512 : Int) * i52) fun (i54 : Int) =>
                              Wr IntKind.i64 (p1 + (↑n2 : Int)) fun (i55 : Int) =>
                               bif decide (i54 < i55) then
                                Wr IntKind.i64 ((512 : Int) * i52) fun (i56 : Int) =>
                                 Wr IntKind.i64 ((512 : Int) * i52) fun (i57 : Int) =>
                                  Wr IntKind.i64 (i57 + (512 : Int)) fun (i58 : Int) =>
                                   bif decide (i56 < p1) then
                                    Wr IntKind.i64 (p1 + (↑n2 : Int)) fun (i59 : Int) =>
                                     bif decide (i58 > i59) then
                                      Wr IntKind.i64 (p1 + (↑n2 : Int)) fun (i60 : Int) =>
                                       SX.Ptr p0 fun (a61 : Addr) =>
                                        ∃ (q62 : Option Addr),
                                         ∃ (n63 : Nat),
                                          ∃ (n64 : Nat),
                                           w53.cell? (a61.add (0 : Nat)) = some (Value.slice q62 n63 n64) ∧
                                            ((0 : Int) ≤ i52 ∧ i52 < (↑n63 : Int)) ∧
                                             SX.Ptr q62 fun (a65 : Addr) =>
                                              ∃ (s66 : ByteArray),
                                               w53.cell? (a65.add (i52.toNat * (1 : Nat))) = some (Value.string s66) ∧
                                                Wr IntKind.i64 ((512 : Int) * i52) fun (i67 : Int) =>
                                                 Wr IntKind.i64 (p1 - i67) fun (i68 : Int) =>
                                                  ((0 : Int) ≤ i68 ∧ i68 ≤ (↑s66.size : Int)) ∧
                                                   Wr IntKind.i64 (p1 - p1) fun (i69 : Int) =>
                                                    Wr IntKind.i64 (i60 - p1) fun (i70 : Int) =>
                                                     ((0 : Int) ≤ i70 ∧ i70 ≤ (↑c2 : Int)) ∧
                                                      ((0 : Int) ≤ i69 ∧ i69 ≤ (↑i70.toNat : Int)) ∧
                                                       ∃ (s71 : ByteArray),
                                                        s71.size = i70.toNat - i69.toNat ∧
                                                         BytesAt w53.drew (cutA p2 c2 i69.toNat (1 : Nat)) s71 ∧
                                                          (s66.extract (0 : Nat) i68.toNat).size + s71.size ≤ (9223372036854775807 : Nat) ∧
                                                           Wr IntKind.i64 ((512 : Int) * i52) fun (i72 : Int) =>
                                                            Wr IntKind.i64 (i60 - i72) fun (i73 : Int) =>
                                                             ((0 : Int) ≤ i73 ∧ i73 ≤ (↑s66.size : Int)) ∧
                                                              (s66.extract (0 : Nat) i68.toNat ++ s71).size + (s66.extract i73.toNat s66.size).size ≤
                                                                (9223372036854775807 : Nat) ∧
                                                               SX.Ptr p0 fun (a74 : Addr) =>
                                                                ∃ (q75 : Option Addr),
                                                                 ∃ (n76 : Nat),
                                                                  ∃ (n77 : Nat),
                                                                   w53.drew.cell? (a74.add (0 : Nat)) = some (Value.slice q75 n76 n77) ∧
                                                                    ((0 : Int) ≤ i52 ∧ i52 < (↑n76 : Int)) ∧
                                                                     SX.Ptr q75 fun (a78 : Addr) =>
                                                                      (∃ (v79 : Value),
                                                                        w53.drew.cell? ((a78.add (i52.toNat * (1 : Nat))).add (0 : Nat)) =
                                                                         some v79) ∧
                                                                       w53.drew.frozen? ((a78.add (i52.toNat * (1 : Nat))).add (0 : Nat)) = false ∧
                                                                        SX.Ptr p0 fun (a80 : Addr) =>
                                                                         ∃ (q81 : Option Addr),
                                                                          ∃ (n82 : Nat),
                                                                           ∃ (n83 : Nat),
                                                                            (w53.drew.setCell ((a78.add (i52.toNat * (1 : Nat))).add (0 : Nat))
                                                                                 (Value.string
                                                                                  (s66.extract (0 : Nat) i68.toNat ++ s71 ++
                                                                                   s66.extract i73.toNat s66.size))).cell?
                                                                               (a80.add (3 : Nat)) =
                                                                              some (Value.slice q81 n82 n83) ∧
                                                                             Runs Try.prog
                                                                              (Builtin.append_ #[(32 : Nat), (32 : Nat)] (32 : Nat)
                                                                               #[Value.slice q81 n82 n83,
                                                                                Value.slice
                                                                                 (some
                                                                                  {
                                                                                   block :=
                                                                                    (w53.drew.setCell
                                                                                       ((a78.add (i52.toNat * (1 : Nat))).add
                                                                                        (0 : Nat))
                                                                                       (Value.string
                                                                                        (s66.extract (0 : Nat) i68.toNat ++ s71 ++
                                                                                         s66.extract i73.toNat
                                                                                          s66.size))).heap.size,
                                                                                   off := (0 : Nat) })
                                                                                 (1 : Nat) (1 : Nat)])
                                                                              ((w53.drew.setCell
                                                                                 ((a78.add (i52.toNat * (1 : Nat))).add (0 : Nat))
                                                                                 (Value.string
                                                                                  (s66.extract (0 : Nat) i68.toNat ++ s71 ++
                                                                                   s66.extract i73.toNat s66.size))).alloc
                                                                               (Obj.cells
                                                                                #[Value.int IntKind.i64 i52,
                                                                                 Value.string
                                                                                  (s66.extract (0 : Nat) i68.toNat ++ s71 ++
                                                                                   s66.extract i73.toNat s66.size)]
                                                                                (149 : Nat)))
                                                                              fun (v84 : Value) (w85 : World) =>
                                                                              ∃ (q86 : Option Addr),
                                                                               ∃ (n87 : Nat),
                                                                                ∃ (n88 : Nat),
                                                                                 v84 = Value.slice q86 n87 n88 ∧
                                                                                  Keeps
                                                                                    ((w53.drew.setCell
                                                                                       ((a78.add (i52.toNat * (1 : Nat))).add
                                                                                        (0 : Nat))
                                                                                       (Value.string
                                                                                        (s66.extract (0 : Nat) i68.toNat ++ s71 ++
                                                                                         s66.extract i73.toNat s66.size))).alloc
                                                                                     (Obj.cells
                                                                                      #[Value.int IntKind.i64 i52,
                                                                                       Value.string
                                                                                        (s66.extract (0 : Nat) i68.toNat ++ s71 ++
                                                                                         s66.extract i73.toNat s66.size)]
                                                                                      (149 : Nat)))
                                                                                    w85 [] ∧
                                                                                   SX.Ptr p0 fun (a89 : Addr) =>
                                                                                    (∃ (v90 : Value),
                                                                                      w85.cell? ((a89.add (3 : Nat)).add (0 : Nat)) =
                                                                                       some v90) ∧
                                                                                     w85.frozen? ((a89.add (3 : Nat)).add (0 : Nat)) =
                                                                                       false ∧
                                                                                      Wr IntKind.i64 (i52 + (1 : Int))
                                                                                       fun (i91 : Int) =>
                                                                                       I50 i91
                                                                                         (w85.setCell
                                                                                          ((a89.add (3 : Nat)).add (0 : Nat))
                                                                                          (Value.slice q86 n87 n88)) ∧
                                                                                        I51 i91
                                                                                          (w85.setCell
                                                                                           ((a89.add (3 : Nat)).add (0 : Nat))
                                                                                           (Value.slice q86 n87 n88)) <
                                                                                         I51 i52 w53
                                     else
                                      SX.Ptr p0 fun (a92 : Addr) =>
                                       ∃ (q93 : Option Addr),
                                        ∃ (n94 : Nat),
                                         ∃ (n95 : Nat),
                                          w53.cell? (a92.add (0 : Nat)) = some (Value.slice q93 n94 n95) ∧
                                           ((0 : Int) ≤ i52 ∧ i52 < (↑n94 : Int)) ∧
                                            SX.Ptr q93 fun (a96 : Addr) =>
                                             ∃ (s97 : ByteArray),
                                              w53.cell? (a96.add (i52.toNat * (1 : Nat))) = some (Value.string s97) ∧
                                               Wr IntKind.i64 ((512 : Int) * i52) fun (i98 : Int) =>
                                                Wr IntKind.i64 (p1 - i98) fun (i99 : Int) =>
                                                 ((0 : Int) ≤ i99 ∧ i99 ≤ (↑s97.size : Int)) ∧
                                                  Wr IntKind.i64 (p1 - p1) fun (i100 : Int) =>
                                                   Wr IntKind.i64 (i58 - p1) fun (i101 : Int) =>
                                                    ((0 : Int) ≤ i101 ∧ i101 ≤ (↑c2 : Int)) ∧
                                                     ((0 : Int) ≤ i100 ∧ i100 ≤ (↑i101.toNat : Int)) ∧
                                                      ∃ (s102 : ByteArray),
                                                       s102.size = i101.toNat - i100.toNat ∧
                                                        BytesAt w53.drew (cutA p2 c2 i100.toNat (1 : Nat)) s102 ∧
                                                         (s97.extract (0 : Nat) i99.toNat).size + s102.size ≤ (9223372036854775807 : Nat) ∧
                                                          Wr IntKind.i64 ((512 : Int) * i52) fun (i103 : Int) =>
                                                           Wr IntKind.i64 (i58 - i103) fun (i104 : Int) =>
                                                            ((0 : Int) ≤ i104 ∧ i104 ≤ (↑s97.size : Int)) ∧
                                                             (s97.extract (0 : Nat) i99.toNat ++ s102).size + (s97.extract i104.toNat s97.size).size ≤
                                                               (9223372036854775807 : Nat) ∧
                                                              SX.Ptr p0 fun (a105 : Addr) =>
                                                               ∃ (q106 : Option Addr),
                                                                ∃ (n107 : Nat),
                                                                 ∃ (n108 : Nat),
                                                                  w53.drew.cell? (a105.add (0 : Nat)) = some (Value.slice q106 n107 n108) ∧
                                                                   ((0 : Int) ≤ i52 ∧ i52 < (↑n107 : Int)) ∧
                                                                    SX.Ptr q106 fun (a109 : Addr) =>
                                                                     (∃ (v110 : Value),
                                                                       w53.drew.cell? ((a109.add (i52.toNat * (1 : Nat))).add (0 : Nat)) =
                                                                        some v110) ∧
                                                                      w53.drew.frozen? ((a109.add (i52.toNat * (1 : Nat))).add (0 : Nat)) = false ∧
                                                                       SX.Ptr p0 fun (a111 : Addr) =>
                                                                        ∃ (q112 : Option Addr),
                                                                         ∃ (n113 : Nat),
                                                                          ∃ (n114 : Nat),
                                                                           (w53.drew.setCell ((a109.add (i52.toNat * (1 : Nat))).add (0 : Nat))
                                                                                (Value.string
                                                                                 (s97.extract (0 : Nat) i99.toNat ++ s102 ++
                                                                                  s97.extract i104.toNat s97.size))).cell?
                                                                              (a111.add (3 : Nat)) =
                                                                             some (Value.slice q112 n113 n114) ∧
                                                                            Runs Try.prog
                                                                             (Builtin.append_ #[(32 : Nat), (32 : Nat)] (32 : Nat)
                                                                              #[Value.slice q112 n113 n114,
                                                                               Value.slice
                                                                                (some
                                                                                 {
                                                                                  block :=
                                                                                   (w53.drew.setCell
                                                                                      ((a109.add (i52.toNat * (1 : Nat))).add
                                                                                       (0 : Nat))
                                                                                      (Value.string
                                                                                       (s97.extract (0 : Nat) i99.toNat ++ s102 ++
                                                                                        s97.extract i104.toNat
                                                                                         s97.size))).heap.size,
                                                                                  off := (0 : Nat) })
                                                                                (1 : Nat) (1 : Nat)])
                                                                             ((w53.drew.setCell
                                                                                ((a109.add (i52.toNat * (1 : Nat))).add (0 : Nat))
                                                                                (Value.string
                                                                                 (s97.extract (0 : Nat) i99.toNat ++ s102 ++
                                                                                  s97.extract i104.toNat s97.size))).alloc
                                                                              (Obj.cells
                                                                               #[Value.int IntKind.i64 i52,
                                                                                Value.string
                                                                                 (s97.extract (0 : Nat) i99.toNat ++ s102 ++
                                                                                  s97.extract i104.toNat s97.size)]
                                                                               (149 : Nat)))
                                                                             fun (v115 : Value) (w116 : World) =>
                                                                             ∃ (q117 : Option Addr),
                                                                              ∃ (n118 : Nat),
                                                                               ∃ (n119 : Nat),
                                                                                v115 = Value.slice q117 n118 n119 ∧
                                                                                 Keeps
                                                                                   ((w53.drew.setCell
                                                                                      ((a109.add (i52.toNat * (1 : Nat))).add
                                                                                       (0 : Nat))
                                                                                      (Value.string
                                                                                       (s97.extract (0 : Nat) i99.toNat ++ s102 ++
                                                                                        s97.extract i104.toNat s97.size))).alloc
                                                                                    (Obj.cells
                                                                                     #[Value.int IntKind.i64 i52,
                                                                                      Value.string
                                                                                       (s97.extract (0 : Nat) i99.toNat ++ s102 ++
                                                                                        s97.extract i104.toNat s97.size)]
                                                                                     (149 : Nat)))
                                                                                   w116 [] ∧
                                                                                  SX.Ptr p0 fun (a120 : Addr) =>
                                                                                   (∃ (v121 : Value),
                                                                                     w116.cell? ((a120.add (3 : Nat)).add (0 : Nat)) =
                                                                                      some v121) ∧
                                                                                    w116.frozen? ((a120.add (3 : Nat)).add (0 : Nat)) =
                                                                                      false ∧
                                                                                     Wr IntKind.i64 (i52 + (1 : Int))
                                                                                      fun (i122 : Int) =>
                                                                                      I50 i122
                                                                                        (w116.setCell
                                                                                         ((a120.add (3 : Nat)).add (0 : Nat))
                                                                                         (Value.slice q117 n118 n119)) ∧
                                                                                       I51 i122
                                                                                         (w116.setCell
                                                                                          ((a120.add (3 : Nat)).add (0 : Nat))
                                                                                          (Value.slice q117 n118 n119)) <
                                                                                        I51 i52 w53
                                   else
                                    Wr IntKind.i64 (p1 + (↑n2 : Int)) fun (i123 : Int) =>
                                     bif decide (i58 > i123) then
                                      Wr IntKind.i64 (p1 + (↑n2 : Int)) fun (i124 : Int) =>
                                       SX.Ptr p0 fun (a125 : Addr) =>
                                        ∃ (q126 : Option Addr),
                                         ∃ (n127 : Nat),
                                          ∃ (n128 : Nat),
                                           w53.cell? (a125.add (0 : Nat)) = some (Value.slice q126 n127 n128) ∧
                                            ((0 : Int) ≤ i52 ∧ i52 < (↑n127 : Int)) ∧
                                             SX.Ptr q126 fun (a129 : Addr) =>
                                              ∃ (s130 : ByteArray),
                                               w53.cell? (a129.add (i52.toNat * (1 : Nat))) = some (Value.string s130) ∧
                                                Wr IntKind.i64 ((512 : Int) * i52) fun (i131 : Int) =>
                                                 Wr IntKind.i64 (i56 - i131) fun (i132 : Int) =>
                                                  ((0 : Int) ≤ i132 ∧ i132 ≤ (↑s130.size : Int)) ∧
                                                   Wr IntKind.i64 (i56 - p1) fun (i133 : Int) =>
                                                    Wr IntKind.i64 (i124 - p1) fun (i134 : Int) =>
                                                     ((0 : Int) ≤ i134 ∧ i134 ≤ (↑c2 : Int)) ∧
                                                      ((0 : Int) ≤ i133 ∧ i133 ≤ (↑i134.toNat : Int)) ∧
                                                       ∃ (s135 : ByteArray),
                                                        s135.size = i134.toNat - i133.toNat ∧
                                                         BytesAt w53.drew (cutA p2 c2 i133.toNat (1 : Nat)) s135 ∧
                                                          (s130.extract (0 : Nat) i132.toNat).size + s135.size ≤ (9223372036854775807 : Nat) ∧
                                                           Wr IntKind.i64 ((512 : Int) * i52) fun (i136 : Int) =>
                                                            Wr IntKind.i64 (i124 - i136) fun (i137 : Int) =>
                                                             ((0 : Int) ≤ i137 ∧ i137 ≤ (↑s130.size : Int)) ∧
                                                              (s130.extract (0 : Nat) i132.toNat ++ s135).size + (s130.extract i137.toNat s130.size).size ≤
                                                                (9223372036854775807 : Nat) ∧
                                                               SX.Ptr p0 fun (a138 : Addr) =>
                                                                ∃ (q139 : Option Addr),
                                                                 ∃ (n140 : Nat),
                                                                  ∃ (n141 : Nat),
                                                                   w53.drew.cell? (a138.add (0 : Nat)) = some (Value.slice q139 n140 n141) ∧
                                                                    ((0 : Int) ≤ i52 ∧ i52 < (↑n140 : Int)) ∧
                                                                     SX.Ptr q139 fun (a142 : Addr) =>
                                                                      (∃ (v143 : Value),
                                                                        w53.drew.cell? ((a142.add (i52.toNat * (1 : Nat))).add (0 : Nat)) =
                                                                         some v143) ∧
                                                                       w53.drew.frozen? ((a142.add (i52.toNat * (1 : Nat))).add (0 : Nat)) = false ∧
                                                                        SX.Ptr p0 fun (a144 : Addr) =>
                                                                         ∃ (q145 : Option Addr),
                                                                          ∃ (n146 : Nat),
                                                                           ∃ (n147 : Nat),
                                                                            (w53.drew.setCell ((a142.add (i52.toNat * (1 : Nat))).add (0 : Nat))
                                                                                 (Value.string
                                                                                  (s130.extract (0 : Nat) i132.toNat ++ s135 ++
                                                                                   s130.extract i137.toNat s130.size))).cell?
                                                                               (a144.add (3 : Nat)) =
                                                                              some (Value.slice q145 n146 n147) ∧
                                                                             Runs Try.prog
                                                                              (Builtin.append_ #[(32 : Nat), (32 : Nat)] (32 : Nat)
                                                                               #[Value.slice q145 n146 n147,
                                                                                Value.slice
                                                                                 (some
                                                                                  {
                                                                                   block :=
                                                                                    (w53.drew.setCell
                                                                                       ((a142.add (i52.toNat * (1 : Nat))).add
                                                                                        (0 : Nat))
                                                                                       (Value.string
                                                                                        (s130.extract (0 : Nat) i132.toNat ++
                                                                                          s135 ++
                                                                                         s130.extract i137.toNat
                                                                                          s130.size))).heap.size,
                                                                                   off := (0 : Nat) })
                                                                                 (1 : Nat) (1 : Nat)])
                                                                              ((w53.drew.setCell
                                                                                 ((a142.add (i52.toNat * (1 : Nat))).add (0 : Nat))
                                                                                 (Value.string
                                                                                  (s130.extract (0 : Nat) i132.toNat ++ s135 ++
                                                                                   s130.extract i137.toNat s130.size))).alloc
                                                                               (Obj.cells
                                                                                #[Value.int IntKind.i64 i52,
                                                                                 Value.string
                                                                                  (s130.extract (0 : Nat) i132.toNat ++ s135 ++
                                                                                   s130.extract i137.toNat s130.size)]
                                                                                (149 : Nat)))
                                                                              fun (v148 : Value) (w149 : World) =>
                                                                              ∃ (q150 : Option Addr),
                                                                               ∃ (n151 : Nat),
                                                                                ∃ (n152 : Nat),
                                                                                 v148 = Value.slice q150 n151 n152 ∧
                                                                                  Keeps
                                                                                    ((w53.drew.setCell
                                                                                       ((a142.add (i52.toNat * (1 : Nat))).add
                                                                                        (0 : Nat))
                                                                                       (Value.string
                                                                                        (s130.extract (0 : Nat) i132.toNat ++
                                                                                          s135 ++
                                                                                         s130.extract i137.toNat s130.size))).alloc
                                                                                     (Obj.cells
                                                                                      #[Value.int IntKind.i64 i52,
                                                                                       Value.string
                                                                                        (s130.extract (0 : Nat) i132.toNat ++
                                                                                          s135 ++
                                                                                         s130.extract i137.toNat s130.size)]
                                                                                      (149 : Nat)))
                                                                                    w149 [] ∧
                                                                                   SX.Ptr p0 fun (a153 : Addr) =>
                                                                                    (∃ (v154 : Value),
                                                                                      w149.cell?
                                                                                        ((a153.add (3 : Nat)).add (0 : Nat)) =
                                                                                       some v154) ∧
                                                                                     w149.frozen?
                                                                                        ((a153.add (3 : Nat)).add (0 : Nat)) =
                                                                                       false ∧
                                                                                      Wr IntKind.i64 (i52 + (1 : Int))
                                                                                       fun (i155 : Int) =>
                                                                                       I50 i155
                                                                                         (w149.setCell
                                                                                          ((a153.add (3 : Nat)).add (0 : Nat))
                                                                                          (Value.slice q150 n151 n152)) ∧
                                                                                        I51 i155
                                                                                          (w149.setCell
                                                                                           ((a153.add (3 : Nat)).add (0 : Nat))
                                                                                           (Value.slice q150 n151 n152)) <
                                                                                         I51 i52 w53
                                     else
                                      SX.Ptr p0 fun (a156 : Addr) =>
                                       ∃ (q157 : Option Addr),
                                        ∃ (n158 : Nat),
                                         ∃ (n159 : Nat),
                                          w53.cell? (a156.add (0 : Nat)) = some (Value.slice q157 n158 n159) ∧
                                           ((0 : Int) ≤ i52 ∧ i52 < (↑n158 : Int)) ∧
                                            SX.Ptr q157 fun (a160 : Addr) =>
                                             ∃ (s161 : ByteArray),
                                              w53.cell? (a160.add (i52.toNat * (1 : Nat))) = some (Value.string s161) ∧
                                               Wr IntKind.i64 ((512 : Int) * i52) fun (i162 : Int) =>
                                                Wr IntKind.i64 (i56 - i162) fun (i163 : Int) =>
                                                 ((0 : Int) ≤ i163 ∧ i163 ≤ (↑s161.size : Int)) ∧
                                                  Wr IntKind.i64 (i56 - p1) fun (i164 : Int) =>
                                                   Wr IntKind.i64 (i58 - p1) fun (i165 : Int) =>
                                                    ((0 : Int) ≤ i165 ∧ i165 ≤ (↑c2 : Int)) ∧
                                                     ((0 : Int) ≤ i164 ∧ i164 ≤ (↑i165.toNat : Int)) ∧
                                                      ∃ (s166 : ByteArray),
                                                       s166.size = i165.toNat - i164.toNat ∧
                                                        BytesAt w53.drew (cutA p2 c2 i164.toNat (1 : Nat)) s166 ∧
                                                         (s161.extract (0 : Nat) i163.toNat).size + s166.size ≤ (9223372036854775807 : Nat) ∧
                                                          Wr IntKind.i64 ((512 : Int) * i52) fun (i167 : Int) =>
                                                           Wr IntKind.i64 (i58 - i167) fun (i168 : Int) =>
                                                            ((0 : Int) ≤ i168 ∧ i168 ≤ (↑s161.size : Int)) ∧
                                                             (s161.extract (0 : Nat) i163.toNat ++ s166).size + (s161.extract i168.toNat s161.size).size ≤
                                                               (9223372036854775807 : Nat) ∧
                                                              SX.Ptr p0 fun (a169 : Addr) =>
                                                               ∃ (q170 : Option Addr),
                                                                ∃ (n171 : Nat),
                                                                 ∃ (n172 : Nat),
                                                                  w53.drew.cell? (a169.add (0 : Nat)) = some (Value.slice q170 n171 n172) ∧
                                                                   ((0 : Int) ≤ i52 ∧ i52 < (↑n171 : Int)) ∧
                                                                    SX.Ptr q170 fun (a173 : Addr) =>
                                                                     (∃ (v174 : Value),
                                                                       w53.drew.cell? ((a173.add (i52.toNat * (1 : Nat))).add (0 : Nat)) =
                                                                        some v174) ∧
                                                                      w53.drew.frozen? ((a173.add (i52.toNat * (1 : Nat))).add (0 : Nat)) = false ∧
                                                                       SX.Ptr p0 fun (a175 : Addr) =>
                                                                        ∃ (q176 : Option Addr),
                                                                         ∃ (n177 : Nat),
                                                                          ∃ (n178 : Nat),
                                                                           (w53.drew.setCell ((a173.add (i52.toNat * (1 : Nat))).add (0 : Nat))
                                                                                (Value.string
                                                                                 (s161.extract (0 : Nat) i163.toNat ++ s166 ++
                                                                                  s161.extract i168.toNat s161.size))).cell?
                                                                              (a175.add (3 : Nat)) =
                                                                             some (Value.slice q176 n177 n178) ∧
                                                                            Runs Try.prog
                                                                             (Builtin.append_ #[(32 : Nat), (32 : Nat)] (32 : Nat)
                                                                              #[Value.slice q176 n177 n178,
                                                                               Value.slice
                                                                                (some
                                                                                 {
                                                                                  block :=
                                                                                   (w53.drew.setCell
                                                                                      ((a173.add (i52.toNat * (1 : Nat))).add
                                                                                       (0 : Nat))
                                                                                      (Value.string
                                                                                       (s161.extract (0 : Nat) i163.toNat ++ s166 ++
                                                                                        s161.extract i168.toNat
                                                                                         s161.size))).heap.size,
                                                                                  off := (0 : Nat) })
                                                                                (1 : Nat) (1 : Nat)])
                                                                             ((w53.drew.setCell
                                                                                ((a173.add (i52.toNat * (1 : Nat))).add (0 : Nat))
                                                                                (Value.string
                                                                                 (s161.extract (0 : Nat) i163.toNat ++ s166 ++
                                                                                  s161.extract i168.toNat s161.size))).alloc
                                                                              (Obj.cells
                                                                               #[Value.int IntKind.i64 i52,
                                                                                Value.string
                                                                                 (s161.extract (0 : Nat) i163.toNat ++ s166 ++
                                                                                  s161.extract i168.toNat s161.size)]
                                                                               (149 : Nat)))
                                                                             fun (v179 : Value) (w180 : World) =>
                                                                             ∃ (q181 : Option Addr),
                                                                              ∃ (n182 : Nat),
                                                                               ∃ (n183 : Nat),
                                                                                v179 = Value.slice q181 n182 n183 ∧
                                                                                 Keeps
                                                                                   ((w53.drew.setCell
                                                                                      ((a173.add (i52.toNat * (1 : Nat))).add
                                                                                       (0 : Nat))
                                                                                      (Value.string
                                                                                       (s161.extract (0 : Nat) i163.toNat ++ s166 ++
                                                                                        s161.extract i168.toNat s161.size))).alloc
                                                                                    (Obj.cells
                                                                                     #[Value.int IntKind.i64 i52,
                                                                                      Value.string
                                                                                       (s161.extract (0 : Nat) i163.toNat ++ s166 ++
                                                                                        s161.extract i168.toNat s161.size)]
                                                                                     (149 : Nat)))
                                                                                   w180 [] ∧
                                                                                  SX.Ptr p0 fun (a184 : Addr) =>
                                                                                   (∃ (v185 : Value),
                                                                                     w180.cell? ((a184.add (3 : Nat)).add (0 : Nat)) =
                                                                                      some v185) ∧
                                                                                    w180.frozen? ((a184.add (3 : Nat)).add (0 : Nat)) =
                                                                                      false ∧
                                                                                     Wr IntKind.i64 (i52 + (1 : Int))
                                                                                      fun (i186 : Int) =>
                                                                                      I50 i186
                                                                                        (w180.setCell
                                                                                         ((a184.add (3 : Nat)).add (0 : Nat))
                                                                                         (Value.slice q181 n182 n183)) ∧
                                                                                       I51 i186
                                                                                         (w180.setCell
                                                                                          ((a184.add (3 : Nat)).add (0 : Nat))
                                                                                          (Value.slice q181 n182 n183)) <
                                                                                        I51 i52 w53
                               else R (Ending.returned (Value.int IntKind.i64 (0 : Int))) w53
                            else R (Ending.returned (Value.int IntKind.i64 (0 : Int))) w53
theorem vcTry58 (p0 : Option Addr) (p1 : Int) (p2 : Option Addr) (n2 c2 : Nat) (w : World) (R : Ending → World → Prop) : SX.vcFn Try.prog [(11, ⟨[(8, .int .i64)], [0, 1, 2, 7], []⟩), (6, ⟨[], [0, 1, 2, 7], []⟩)] Try.f58 [.v (.pointer p0), .v (.int .i64 p1), .v (.slice p2 n2 c2)] [] w R = VCTry58 p0 p1 p2 n2 c2 w R := by kernel_rfl
end Go.Proofs.Ytlgkcbdpaffigaa
