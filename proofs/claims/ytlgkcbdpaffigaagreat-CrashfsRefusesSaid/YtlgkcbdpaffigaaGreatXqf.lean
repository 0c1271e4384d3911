/- What the row needs, part 6. -/
import Derived.Test.YtlgkcbdpaffigaaGreatProg
import Derived.Test.YtlgkcbdpaffigaaGreatXqe
namespace Go.Proofs.YtlgkcbdpaffigaaGreat
open Go Go.SX Go.Proofs
set_option maxRecDepth 100000
set_option linter.unusedVariables false
def VCTryz34 (p0 : Option Addr) (p1 : Int) (w : World) (R : Ending → World → Prop) : Prop :=
Rets Tryz.prog (42 : Nat) #[Value.pointer p0, Value.int IntKind.i64 p1] w fun (v0 : Value) (w1 : World) =>
 ∃ (q2 : Option Addr),
  v0 = Value.pointer q2 ∧
   Keeps w w1 [] ∧ Rets Tryz.prog (37 : Nat) #[Value.pointer q2] w1 fun (v3 : Value) (w4 : World) => ∃ (i5 : Int), v3 = Value.int IntKind.i64 i5 ∧ Keeps w1 w4 [] ∧ R (Ending.returned (Value.int IntKind.i64 i5)) w4
theorem vcTryz34 (p0 : Option Addr) (p1 : Int) (w : World) (R : Ending → World → Prop) : SX.vcFn Tryz.prog [] Tryz.f34 [.v (.pointer p0), .v (.int .i64 p1)] [] w R = VCTryz34 p0 p1 w R := by kernel_rfl
def VCTryz29 (p0 : Option Addr) (w : World) (R : Ending → World → Prop) : Prop :=
bif p0.isNone then R (Ending.returned (Value.slice none (0 : Nat) (0 : Nat))) w
else
 SX.Ptr p0 fun (a0 : Addr) =>
  Rets Tryz.prog (61 : Nat) #[Value.pointer (some (a0.add (1 : Nat)))] w fun (v1 : Value) (w2 : World) =>
   ∃ (q3 : Option Addr), ∃ (n4 : Nat), ∃ (n5 : Nat), v1 = Value.slice q3 n4 n5 ∧ Keeps w w2 [] ∧ R (Ending.returned (Value.slice q3 n4 n5)) w2
theorem vcTryz29 (p0 : Option Addr) (w : World) (R : Ending → World → Prop) : SX.vcFn Tryz.prog [] Tryz.f29 [.v (.pointer p0)] [] w R = VCTryz29 p0 w R := by kernel_rfl
def VCTryz14 (p0 : Option Addr) (w : World) (R : Ending → World → Prop) : Prop :=
bif p0.isNone then R (Ending.returned (Value.int IntKind.i64 (0 : Int))) w
else
 SX.Ptr p0 fun (a0 : Addr) =>
  ∃ (q1 : Option Addr),
   ∃ (n2 : Nat),
    ∃ (n3 : Nat),
     w.cell? (a0.add (0 : Nat)) = some (Value.slice q1 n2 n3) ∧
      ∃ (I4 : Int → Int → World → Prop),
       ∃ (I5 : Int → Int → World → Nat),
        I4 (0 : Int) (0 : Int) w ∧
         ∀ (i6 i7 : Int) (w8 : World),
          I4 i6 i7 w8 →
           bif decide (i6 < (↑n2 : Int)) then
            ((0 : Int) ≤ i6 ∧ i6 < (↑n2 : Int)) ∧
             SX.Ptr q1 fun (a9 : Addr) =>
              ∃ (q10 : Option Addr),
               w8.cell? (a9.add (i6.toNat * (1 : Nat))) = some (Value.pointer q10) ∧
                Rets Tryz.prog (39 : Nat) #[Value.pointer q10] w8 fun (v11 : Value) (w12 : World) =>
                 ∃ (i13 : Int),
                  v11 = Value.int IntKind.i64 i13 ∧
                   Keeps w8 w12 [] ∧ Wr IntKind.i64 (i7 + i13) fun (i14 : Int) => Wr IntKind.i64 (i6 + (1 : Int)) fun (i15 : Int) => I4 i15 i14 w12 ∧ I5 i15 i14 w12 < I5 i6 i7 w8
           else R (Ending.returned (Value.int IntKind.i64 i7)) w8
theorem vcTryz14 (p0 : Option Addr) (w : World) (R : Ending → World → Prop) : SX.vcFn Tryz.prog [(5, ⟨[(13, .int .i64), (3, .int .i64)], [11, 12], []⟩)] Tryz.f14 [.v (.pointer p0)] [] w R = VCTryz14 p0 w R := by kernel_rfl
def VCTryz10 (p0 : Option Addr) (p1 : Option Addr) (w : World) (R : Ending → World → Prop) : Prop :=
Rets Tryz.prog (29 : Nat) #[Value.pointer p0] w fun (v0 : Value) (w1 : World) =>
 ∃ (q2 : Option Addr),
 ∃ (n3 : Nat),
 ∃ (n4 : Nat),
 v0 = Value.slice q2 n3 n4 ∧
 Keeps w w1 [] ∧
 Rets Tryz.prog (12 : Nat) #[Value.pointer p0] w1 fun (v5 : Value) (w6 : World) =>
 ∃ (i7 : Int),
 ∃ (i8 : Int),
 v5 = Value.tuple #[Value.int IntKind.i64 i7, Value.int IntKind.i64 i8] ∧
 Keeps w1 w6 [] ∧
 ∃ (I9 : Int → Int → World → Prop),
 ∃ (I10 : Int → Int → World → Nat),
 I9 (0 : Int) (0 : Int) w6 ∧
 ∀ (i11 i12 : Int) (w13 : World),
 I9 i11 i12 w13 →
 SX.Ptr p1 fun (a14 : Addr) =>
 ∃ (q15 : Option Addr),
 ∃ (n16 : Nat),
 ∃ (n17 : Nat),
 w13.cell? (a14.add (0 : Nat)) = some (Value.slice q15 n16 n17) ∧
 bif decide (i11 < (↑n16 : Int)) then
 SX.Ptr p1 fun (a18 : Addr) =>
 ∃ (q19 : Option Addr),
 ∃ (n20 : Nat),
 ∃ (n21 : Nat),
 w13.cell? (a18.add (0 : Nat)) = some (Value.slice q19 n20 n21) ∧
 ((0 : Int) ≤ i11 ∧ i11 < (↑n20 : Int)) ∧
 SX.Ptr q19 fun (a22 : Addr) =>
 ∃ (q23 : Option Addr),
 w13.cell? (a22.add (i11.toNat * (1 : Nat))) = some (Value.pointer q23) ∧
 SX.Ptr q23 fun (a24 : Addr) =>
 ∃ (q25 : Option Addr),
 ∃ (n26 : Nat),
 ∃ (n27 : Nat),
 w13.cell? (a24.add (3 : Nat)) = some (Value.slice q25 n26 n27) ∧
 Wr IntKind.i64 (i12 + (↑n26 : Int)) fun (i28 : Int) =>
 Wr IntKind.i64 (i11 + (1 : Int)) fun (i29 : Int) => I9 i29 i28 w13 ∧ I10 i29 i28 w13 < I10 i11 i12 w13
 else
 SX.Ptr p1 fun (a30 : Addr) =>
 ∃ (q31 : Option Addr),
 ∃ (n32 : Nat),
 ∃ (n33 : Nat),
 w13.cell? ((a30.add (1 : Nat)).add (0 : Nat)) = some (Value.slice q31 n32 n33) ∧
 bif (↑n3 : Int) != (↑n32 : Int) then R (Ending.returned (Value.bool false)) w13
 else
 SX.Ptr p1 fun (a34 : Addr) =>
 ∃ (i35 : Int),
 w13.cell? (a34.add (4 : Nat)) = some (Value.int IntKind.i64 i35) ∧
 bif i7 != i35 then R (Ending.returned (Value.bool false)) w13
 else
 SX.Ptr p1 fun (a36 : Addr) =>
 ∃ (i37 : Int),
 w13.cell? (a36.add (5 : Nat)) = some (Value.int IntKind.i64 i37) ∧
 bif i8 != i37 then R (Ending.returned (Value.bool false)) w13
 else
 Rets Tryz.prog (11 : Nat) #[Value.pointer p0] w13 fun (v38 : Value) (w39 : World) =>
 ∃ (i40 : Int),
 v38 = Value.int IntKind.i64 i40 ∧
 Keeps w13 w39 [] ∧
 Rets Tryz.prog (30 : Nat) #[Value.pointer p1] w39 fun (v41 : Value) (w42 : World) =>
 ∃ (i43 : Int),
 v41 = Value.int IntKind.i64 i43 ∧
 Keeps w39 w42 [] ∧
 bif i40 != i43 then R (Ending.returned (Value.bool false)) w42
 else
 Rets Tryz.prog (14 : Nat) #[Value.pointer p0] w42 fun (v44 : Value) (w45 : World) =>
 ∃ (i46 : Int),
 v44 = Value.int IntKind.i64 i46 ∧
 Keeps w42 w45 [] ∧
 bif i46 != i12 then R (Ending.returned (Value.bool false)) w45
 else
 ∃ (I47 : Int → World → Prop),
 ∃ (I48 : Int → World → Nat),
 I47 (0 : Int) w45 ∧
 ∀ (i49 : Int) (w50 : World),
 I47 i49 w50 →
 bif decide (i49 < (↑n3 : Int)) then
 ((0 : Int) ≤ i49 ∧ i49 < (↑n3 : Int)) ∧
 SX.Ptr q2 fun (a51 : Addr) =>
 ∃ (s52 : ByteArray),
 w50.cell? (a51.add (i49.toNat * (1 : Nat))) = some (Value.string s52) ∧
 Rets Tryz.prog (31 : Nat) #[Value.pointer p0, Value.string s52] w50
 fun (v53 : Value) (w54 : World) =>
 ∃ (i55 : Int),
 ∃ (i56 : Int),
 v53 = Value.tuple #[Value.int IntKind.i64 i55, Value.int IntKind.i64 i56] ∧
 Keeps w50 w54 [] ∧
 ((0 : Int) ≤ i49 ∧ i49 < (↑n3 : Int)) ∧
 SX.Ptr q2 fun (a57 : Addr) =>
 ∃ (s58 : ByteArray),
 w54.drew.cell? (a57.add (i49.toNat * (1 : Nat))) = some (Value.string s58) ∧
 SX.Ptr p1 fun (a59 : Addr) =>
 ∃ (q60 : Option Addr),
 ∃ (n61 : Nat),
 ∃ (n62 : Nat),
 w54.drew.cell? ((a59.add (1 : Nat)).add (0 : Nat)) =
 some (Value.slice q60 n61 n62) ∧
 ((0 : Int) ≤ i49 ∧ i49 < (↑n61 : Int)) ∧
 SX.Ptr q60 fun (a63 : Addr) =>
 ∃ (s64 : ByteArray),
 w54.drew.cell? ((a63.add (i49.toNat * (2 : Nat))).add (0 : Nat)) =
 some (Value.string s64) ∧
 bif !s58.toList == s64.toList then
 R (Ending.returned (Value.bool false)) w54.drew
 else
 bif i56 != (0 : Int) then
 R (Ending.returned (Value.bool false)) w54.drew
 else
 SX.Ptr p1 fun (a65 : Addr) =>
 ∃ (q66 : Option Addr),
 ∃ (n67 : Nat),
 ∃ (n68 : Nat),
 w54.drew.cell? ((a65.add (1 : Nat)).add (0 : Nat)) =
 some (Value.slice q66 n67 n68) ∧
 ((0 : Int) ≤ i49 ∧ i49 < (↑n67 : Int)) ∧
 SX.Ptr q66 fun (a69 : Addr) =>
 ∃ (i70 : Int),
 w54.drew.cell?
 ((a69.add (i49.toNat * (2 : Nat))).add
 (1 : Nat)) =
 some (Value.int IntKind.i64 i70) ∧
 bif i55 != i70 then
 R (Ending.returned (Value.bool false))
 w54.drew
 else
 Rets Tryz.prog (32 : Nat)
 #[Value.pointer p1,
 Value.int IntKind.i64 i55]
 w54.drew
 fun (v71 : Value) (w72 : World) =>
 ∃ (t73 : Bool),
 v71 = Value.bool t73 ∧
 Keeps w54.drew w72 [] ∧
 bif !t73 then
 R
 (Ending.returned
 (Value.bool false))
 w72
 else
 SX.Ptr p1 fun (a74 : Addr) =>
 ∃ (q75 : Option Addr),
 ∃ (n76 : Nat),
 ∃ (n77 : Nat),
 w72.cell?
 (a74.add
 (0 : Nat)) =
 some
 (Value.slice q75
 n76 n77) ∧
 ((0 : Int) ≤ i55 ∧
 i55 <
 (↑n76 :
 Int)) ∧
 SX.Ptr q75
 fun
 (a78 :
 Addr) =>
 ∃ (q79 :
 Option Addr),
 w72.cell?
 (a78.add
 (i55.toNat *
 (1 :
 Nat))) =
 some
 (Value.pointer
 q79) ∧
 SX.Ptr q79
 fun
 (a80 :
 Addr) =>
 ∃ (q81 :
 Option
 Addr),
 ∃ (n82 :
 Nat),
 ∃ (n83
 :
 Nat),
 w72.cell?
 (a80.add
 (0 :
 Nat)) =
 some
 (Value.slice
 q81
 n82
 n83) ∧
 Wr
 IntKind.i64
 ((512 :
 Int) *
 (↑n82 :
 Int))
 fun
 (i84 :
 Int) =>
 Rets
 Tryz.prog
 (33 :
 Nat)
 #[Value.pointer
 p0,
 Value.int
 IntKind.i64
 i55,
 Value.int
 IntKind.i64
 (0 :
 Int),
 Value.int
 IntKind.i64
 i84]
 w72
 fun
 (v85 :
 Value)
 (w86 :
 World) =>
 ∃
 (q87
 :
 Option
 Addr),
 ∃
 (n88
 :
 Nat),
 ∃
 (n89
 :
 Nat),
 ∃
 (i90
 :
 Int),
 v85 =
 Value.tuple
 #[Value.slice
 q87
 n88
 n89,
 Value.int
 IntKind.i64
 i90] ∧
 Keeps
 w72
 w86
 [] ∧
 bif
 i90 !=
 (0 :
 Int) then
 R
 (Ending.returned
 (Value.bool
 false))
 w86.drew
 else
 SX.Ptr
 q79
 fun
 (a91 :
 Addr) =>
 ∃
 (q92
 :
 Option
 Addr),
 ∃
 (n93
 :
 Nat),
 ∃
 (n94
 :
 Nat),
 w86.drew.cell?
 (a91.add
 (0 :
 Nat)) =
 some
 (Value.slice
 q92
 n93
 n94) ∧
 Rets
 Tryz.prog
 (34 :
 Nat)
 #[Value.pointer
 p0,
 Value.int
 IntKind.i64
 i55]
 w86.drew
 fun
 (v95 :
 Value)
 (w96 :
 World) =>
 ∃
 (i97
 :
 Int),
 v95 =
 Value.int
 IntKind.i64
 i97 ∧
 Keeps
 w86.drew
 w96
 [] ∧
 w96.cell?
 (a91.add
 (0 :
 Nat)) =
 some
 (Value.slice
 q92
 n93
 n94) ∧
 bif
 i97 !=
 (↑n93 :
 Int) then
 R
 (Ending.returned
 (Value.bool
 false))
 w96
 else
 ∃
 (s98
 :
 ByteArray),
 s98.size =
 n88 ∧
 BytesAt
 w96
 q87
 s98 ∧
 SX.Ptr
 q79
 fun
 (a99 :
 Addr) =>
 ∃
 (q100
 :
 Option
 Addr),
 ∃
 (n101
 :
 Nat),
 ∃
 (n102
 :
 Nat),
 w96.cell?
 (a99.add
 (0 :
 Nat)) =
 some
 (Value.slice
 q100
 n101
 n102) ∧
 Wr
 IntKind.i64
 ((512 :
 Int) *
 (↑n101 :
 Int))
 fun
 (i103 :
 Int) =>
 Rets
 Tryz.prog
 (35 :
 Nat)
 #[Value.pointer
 q79,
 Value.int
 IntKind.i64
 (0 :
 Int),
 Value.int
 IntKind.i64
 i103]
 w96
 fun
 (v104 :
 Value)
 (w105 :
 World) =>
 ∃
 (q106
 :
 Option
 Addr),
 ∃
 (n107
 :
 Nat),
 ∃
 (n108
 :
 Nat),
 v104 =
 Value.slice
 q106
 n107
 n108 ∧
 Keeps
 w96
 w105
 [] ∧
 BytesAt
 w105
 q87
 s98 ∧
 ∃
 (s109
 :
 ByteArray),
 s109.size =
 n107 ∧
 BytesAt
 w105
 q106
 s109 ∧
 bif
 !s98.toList ==
 s109.toList then
 R
 (Ending.returned
 (Value.bool
 false))
 w105
 else
 Wr
 IntKind.i64
 (i49 +
 (1 :
 Int))
 fun
 (i110 :
 Int) =>
 I47
 i110
 w105 ∧
 I48
 i110
 w105 <
 I48
 i49
 w50
 else R (Ending.returned (Value.bool true)) w50
theorem vcTryz10 (p0 : Option Addr) (p1 : Option Addr) (w : World) (R : Ending → World → Prop) : SX.vcFn Tryz.prog [(11, ⟨[(10, .int .i64)], [1, 0, 5], []⟩), (5, ⟨[(9, .int .i64), (8, .int .i64)], [1, 6, 7, 5, 0], []⟩)] Tryz.f10 [.v (.pointer p0), .v (.pointer p1)] [] w R = VCTryz10 p0 p1 w R := by kernel_rfl
def VCTryz4 (cap : Int) (q : Option Addr) (m c : Nat) (xk xid xat : Int) (xa xt : ByteArray) (qb : Option Addr) (nb cb : Nat) (qk : Option Addr) (nk ck : Nat) (nm fill : Int) (qn : Option Addr) (nn cn : Nat) (w : World) (R : Ending → World → Prop) : Prop :=
Known
  (w.alloc
   (Obj.cells
    #[Value.int IntKind.i64 xk, Value.int IntKind.i64 xid, Value.int IntKind.i64 xat, Value.string xa, Value.string xt, Value.slice qb nb cb, Value.slice qk nk ck, Value.int IntKind.i64 nm, Value.int IntKind.u8 fill,
     Value.slice qn nn cn]
    (36 : Nat)))
  [(w.heap.size,
    [((0 : Nat), Value.int IntKind.i64 xk), ((1 : Nat), Value.int IntKind.i64 xid), ((2 : Nat), Value.int IntKind.i64 xat), ((3 : Nat), Value.string xa), ((4 : Nat), Value.string xt),
     ((5 : Nat), Value.slice qb nb cb), ((6 : Nat), Value.slice qk nk ck), ((7 : Nat), Value.int IntKind.i64 nm), ((8 : Nat), Value.int IntKind.u8 fill), ((9 : Nat), Value.slice qn nn cn)])] →
 Rets Tryz.prog (5 : Nat) #[Value.slice q m c]
  (w.alloc
   (Obj.cells
    #[Value.int IntKind.i64 xk, Value.int IntKind.i64 xid, Value.int IntKind.i64 xat, Value.string xa, Value.string xt, Value.slice qb nb cb, Value.slice qk nk ck, Value.int IntKind.i64 nm, Value.int IntKind.u8 fill,
     Value.slice qn nn cn]
    (36 : Nat)))
  fun (v0 : Value) (w1 : World) =>
  ∃ (t2 : Bool),
   v0 = Value.bool t2 ∧
    Keeps
      (w.alloc
       (Obj.cells
        #[Value.int IntKind.i64 xk, Value.int IntKind.i64 xid, Value.int IntKind.i64 xat, Value.string xa, Value.string xt, Value.slice qb nb cb, Value.slice qk nk ck, Value.int IntKind.i64 nm,
         Value.int IntKind.u8 fill, Value.slice qn nn cn]
        (36 : Nat)))
      w1 [w.heap.size] ∧
     bif t2 then
      Known w1
        [(w.heap.size,
          [((0 : Nat), Value.int IntKind.i64 xk), ((1 : Nat), Value.int IntKind.i64 xid), ((2 : Nat), Value.int IntKind.i64 xat), ((3 : Nat), Value.string xa), ((4 : Nat), Value.string xt),
           ((5 : Nat), Value.slice qb nb cb), ((6 : Nat), Value.slice qk nk ck), ((7 : Nat), Value.int IntKind.i64 nm), ((8 : Nat), Value.int IntKind.u8 fill), ((9 : Nat), Value.slice qn nn cn)])] →
       Rets Tryz.prog (6 : Nat) #[] w1 fun (v3 : Value) (w4 : World) =>
        ∃ (t5 : Bool),
         v3 = Value.bool t5 ∧
          Keeps w1 w4 [w.heap.size] ∧
           (Known w4
             [(w.heap.size,
               [((0 : Nat), Value.int IntKind.i64 xk), ((1 : Nat), Value.int IntKind.i64 xid), ((2 : Nat), Value.int IntKind.i64 xat), ((3 : Nat), Value.string xa), ((4 : Nat), Value.string xt),
                ((5 : Nat), Value.slice qb nb cb), ((6 : Nat), Value.slice qk nk ck), ((7 : Nat), Value.int IntKind.i64 nm), ((8 : Nat), Value.int IntKind.u8 fill), ((9 : Nat), Value.slice qn nn cn)])] →
            R (Ending.returned (Value.bool t5)) w4)
     else
      Known
        (w1.alloc
         (Obj.cells
          #[Value.int IntKind.i64 xk, Value.int IntKind.i64 xid, Value.int IntKind.i64 xat, Value.string xa, Value.string xt, Value.slice qb nb cb, Value.slice qk nk ck, Value.int IntKind.i64 nm,
           Value.int IntKind.u8 fill, Value.slice qn nn cn]
          (36 : Nat)))
        [(w.heap.size,
          [((0 : Nat), Value.int IntKind.i64 xk), ((1 : Nat), Value.int IntKind.i64 xid), ((2 : Nat), Value.int IntKind.i64 xat), ((3 : Nat), Value.string xa), ((4 : Nat), Value.string xt),
           ((5 : Nat), Value.slice qb nb cb), ((6 : Nat), Value.slice qk nk ck), ((7 : Nat), Value.int IntKind.i64 nm), ((8 : Nat), Value.int IntKind.u8 fill), ((9 : Nat), Value.slice qn nn cn)])] →
       Rets Tryz.prog (5 : Nat) #[Value.slice (some { block := w1.heap.size, off := (0 : Nat) }) (1 : Nat) (1 : Nat)]
        (w1.alloc
         (Obj.cells
          #[Value.int IntKind.i64 xk, Value.int IntKind.i64 xid, Value.int IntKind.i64 xat, Value.string xa, Value.string xt, Value.slice qb nb cb, Value.slice qk nk ck, Value.int IntKind.i64 nm,
           Value.int IntKind.u8 fill, Value.slice qn nn cn]
          (36 : Nat)))
        fun (v6 : Value) (w7 : World) =>
        ∃ (t8 : Bool),
         v6 = Value.bool t8 ∧
          Keeps
            (w1.alloc
             (Obj.cells
              #[Value.int IntKind.i64 xk, Value.int IntKind.i64 xid, Value.int IntKind.i64 xat, Value.string xa, Value.string xt, Value.slice qb nb cb, Value.slice qk nk ck, Value.int IntKind.i64 nm,
               Value.int IntKind.u8 fill, Value.slice qn nn cn]
              (36 : Nat)))
            w7 [w.heap.size] ∧
           bif t8 then
            Known w7
              [(w.heap.size,
                [((0 : Nat), Value.int IntKind.i64 xk), ((1 : Nat), Value.int IntKind.i64 xid), ((2 : Nat), Value.int IntKind.i64 xat), ((3 : Nat), Value.string xa), ((4 : Nat), Value.string xt),
                 ((5 : Nat), Value.slice qb nb cb), ((6 : Nat), Value.slice qk nk ck), ((7 : Nat), Value.int IntKind.i64 nm), ((8 : Nat), Value.int IntKind.u8 fill),
                 ((9 : Nat), Value.slice qn nn cn)])] →
             Rets Tryz.prog (6 : Nat) #[] w7 fun (v9 : Value) (w10 : World) =>
              ∃ (t11 : Bool),
               v9 = Value.bool t11 ∧
                Keeps w7 w10 [w.heap.size] ∧
                 (Known w10
                   [(w.heap.size,
                     [((0 : Nat), Value.int IntKind.i64 xk), ((1 : Nat), Value.int IntKind.i64 xid), ((2 : Nat), Value.int IntKind.i64 xat), ((3 : Nat), Value.string xa),
                      ((4 : Nat), Value.string xt), ((5 : Nat), Value.slice qb nb cb), ((6 : Nat), Value.slice qk nk ck), ((7 : Nat), Value.int IntKind.i64 nm),
                      ((8 : Nat), Value.int IntKind.u8 fill), ((9 : Nat), Value.slice qn nn cn)])] →
                  R (Ending.returned (Value.bool t11)) w10)
           else
            bif decide (xk < (0 : Int)) then
             Known w7
               [(w.heap.size,
                 [((0 : Nat), Value.int IntKind.i64 xk), ((1 : Nat), Value.int IntKind.i64 xid), ((2 : Nat), Value.int IntKind.i64 xat), ((3 : Nat), Value.string xa), ((4 : Nat), Value.string xt),
                  ((5 : Nat), Value.slice qb nb cb), ((6 : Nat), Value.slice qk nk ck), ((7 : Nat), Value.int IntKind.i64 nm), ((8 : Nat), Value.int IntKind.u8 fill),
                  ((9 : Nat), Value.slice qn nn cn)])] →
              Rets Tryz.prog (6 : Nat) #[] w7 fun (v12 : Value) (w13 : World) =>
               ∃ (t14 : Bool),
                v12 = Value.bool t14 ∧
                 Keeps w7 w13 [w.heap.size] ∧
                  (Known w13
                    [(w.heap.size,
                      [((0 : Nat), Value.int IntKind.i64 xk), ((1 : Nat), Value.int IntKind.i64 xid), ((2 : Nat), Value.int IntKind.i64 xat), ((3 : Nat), Value.string xa),
                       ((4 : Nat), Value.string xt), ((5 : Nat), Value.slice qb nb cb), ((6 : Nat), Value.slice qk nk ck), ((7 : Nat), Value.int IntKind.i64 nm),
                       ((8 : Nat), Value.int IntKind.u8 fill), ((9 : Nat), Value.slice qn nn cn)])] →
                   R (Ending.returned (Value.bool t14)) w13)
            else
             bif decide (xk > (5 : Int)) then
              Known w7
                [(w.heap.size,
                  [((0 : Nat), Value.int IntKind.i64 xk), ((1 : Nat), Value.int IntKind.i64 xid), ((2 : Nat), Value.int IntKind.i64 xat), ((3 : Nat), Value.string xa), ((4 : Nat), Value.string xt),
                   ((5 : Nat), Value.slice qb nb cb), ((6 : Nat), Value.slice qk nk ck), ((7 : Nat), Value.int IntKind.i64 nm), ((8 : Nat), Value.int IntKind.u8 fill),
                   ((9 : Nat), Value.slice qn nn cn)])] →
               Rets Tryz.prog (6 : Nat) #[] w7 fun (v15 : Value) (w16 : World) =>
                ∃ (t17 : Bool),
                 v15 = Value.bool t17 ∧
                  Keeps w7 w16 [w.heap.size] ∧
                   (Known w16
                     [(w.heap.size,
                       [((0 : Nat), Value.int IntKind.i64 xk), ((1 : Nat), Value.int IntKind.i64 xid), ((2 : Nat), Value.int IntKind.i64 xat), ((3 : Nat), Value.string xa),
                        ((4 : Nat), Value.string xt), ((5 : Nat), Value.slice qb nb cb), ((6 : Nat), Value.slice qk nk ck), ((7 : Nat), Value.int IntKind.i64 nm),
                        ((8 : Nat), Value.int IntKind.u8 fill), ((9 : Nat), Value.slice qn nn cn)])] →
                    R (Ending.returned (Value.bool t17)) w16)
             else
              Known w7
                [(w.heap.size,
                  [((0 : Nat), Value.int IntKind.i64 xk), ((1 : Nat), Value.int IntKind.i64 xid), ((2 : Nat), Value.int IntKind.i64 xat), ((3 : Nat), Value.string xa), ((4 : Nat), Value.string xt),
                   ((5 : Nat), Value.slice qb nb cb), ((6 : Nat), Value.slice qk nk ck), ((7 : Nat), Value.int IntKind.i64 nm), ((8 : Nat), Value.int IntKind.u8 fill),
                   ((9 : Nat), Value.slice qn nn cn)])] →
               Rets Tryz.prog (7 : Nat) #[Value.int IntKind.i64 cap] w7 fun (v18 : Value) (w19 : World) =>
                ∃ (q20 : Option Addr),
                 v18 = Value.pointer q20 ∧
                  Keeps w7 w19 [w.heap.size] ∧
                   (Known w19
                     [(w.heap.size,
                       [((0 : Nat), Value.int IntKind.i64 xk), ((1 : Nat), Value.int IntKind.i64 xid), ((2 : Nat), Value.int IntKind.i64 xat), ((3 : Nat), Value.string xa),
                        ((4 : Nat), Value.string xt), ((5 : Nat), Value.slice qb nb cb), ((6 : Nat), Value.slice qk nk ck), ((7 : Nat), Value.int IntKind.i64 nm),
                        ((8 : Nat), Value.int IntKind.u8 fill), ((9 : Nat), Value.slice qn nn cn)])] →
                    Rets Tryz.prog (8 : Nat) #[Value.int IntKind.i64 cap] w19 fun (v21 : Value) (w22 : World) =>
                     ∃ (q23 : Option Addr),
                      v21 = Value.pointer q23 ∧
                       Keeps w19 w22 [w.heap.size] ∧
                        ∃ (I24 : Int → World → Prop),
                         ∃ (I25 : Int → World → Nat),
                          I24 (0 : Int) w22 ∧
                           ∀ (i26 : Int) (w27 : World),
                            I24 i26 w27 →
                             Known w27
                               [(w.heap.size,
                                 [((0 : Nat), Value.int IntKind.i64 xk), ((1 : Nat), Value.int IntKind.i64 xid), ((2 : Nat), Value.int IntKind.i64 xat), ((3 : Nat), Value.string xa),
                                  ((4 : Nat), Value.string xt), ((5 : Nat), Value.slice qb nb cb), ((6 : Nat), Value.slice qk nk ck), ((7 : Nat), Value.int IntKind.i64 nm),
                                  ((8 : Nat), Value.int IntKind.u8 fill), ((9 : Nat), Value.slice qn nn cn)])] →
                              bif decide (i26 < (↑m : Int)) then
                               ((0 : Int) ≤ i26 ∧ i26 < (↑m : Int)) ∧
                                SX.Ptr q fun (a28 : Addr) =>
                                 ∃ (i29 : Int),
                                  ∃ (i30 : Int),
                                   ∃ (i31 : Int),
                                    ∃ (s32 : ByteArray),
                                     ∃ (s33 : ByteArray),
                                      ∃ (q34 : Option Addr),
                                       ∃ (n35 : Nat),
                                        ∃ (n36 : Nat),
                                         ∃ (q37 : Option Addr),
                                          ∃ (n38 : Nat),
                                           ∃ (n39 : Nat),
                                            ∃ (i40 : Int),
                                             ∃ (i41 : Int),
                                              ∃ (q42 : Option Addr),
                                               ∃ (n43 : Nat),
                                                ∃ (n44 : Nat),
                                                 (w27.cell? ((a28.add (i26.toNat * (10 : Nat))).add (0 : Nat)) = some (Value.int IntKind.i64 i29) ∧
                                                   w27.cell? ((a28.add (i26.toNat * (10 : Nat))).add (1 : Nat)) = some (Value.int IntKind.i64 i30) ∧
                                                    w27.cell? ((a28.add (i26.toNat * (10 : Nat))).add (2 : Nat)) = some (Value.int IntKind.i64 i31) ∧
                                                     w27.cell? ((a28.add (i26.toNat * (10 : Nat))).add (3 : Nat)) = some (Value.string s32) ∧
                                                      w27.cell? ((a28.add (i26.toNat * (10 : Nat))).add (4 : Nat)) = some (Value.string s33) ∧
                                                       w27.cell? ((a28.add (i26.toNat * (10 : Nat))).add (5 : Nat)) = some (Value.slice q34 n35 n36) ∧
                                                        w27.cell? ((a28.add (i26.toNat * (10 : Nat))).add (6 : Nat)) = some (Value.slice q37 n38 n39) ∧
                                                         w27.cell? ((a28.add (i26.toNat * (10 : Nat))).add (7 : Nat)) = some (Value.int IntKind.i64 i40) ∧
                                                          w27.cell? ((a28.add (i26.toNat * (10 : Nat))).add (8 : Nat)) = some (Value.int IntKind.u8 i41) ∧
                                                           w27.cell? ((a28.add (i26.toNat * (10 : Nat))).add (9 : Nat)) = some (Value.slice q42 n43 n44) ∧
                                                            True) ∧
                                                  (Known w27
                                                    [(w.heap.size,
                                                      [((0 : Nat), Value.int IntKind.i64 xk), ((1 : Nat), Value.int IntKind.i64 xid),
                                                       ((2 : Nat), Value.int IntKind.i64 xat), ((3 : Nat), Value.string xa), ((4 : Nat), Value.string xt),
                                                       ((5 : Nat), Value.slice qb nb cb), ((6 : Nat), Value.slice qk nk ck), ((7 : Nat), Value.int IntKind.i64 nm),
                                                       ((8 : Nat), Value.int IntKind.u8 fill), ((9 : Nat), Value.slice qn nn cn)])] →
                                                   Rets Tryz.prog (9 : Nat)
                                                    #[Value.pointer q20, Value.pointer q23,
                                                     Value.agg
                                                      #[Value.int IntKind.i64 i29, Value.int IntKind.i64 i30, Value.int IntKind.i64 i31, Value.string s32,
                                                       Value.string s33, Value.slice q34 n35 n36, Value.slice q37 n38 n39, Value.int IntKind.i64 i40,
                                                       Value.int IntKind.u8 i41, Value.slice q42 n43 n44]]
                                                    w27 fun (v45 : Value) (w46 : World) =>
                                                    ∃ (t47 : Bool),
                                                     v45 = Value.bool t47 ∧
                                                      Keeps w27 w46 [w.heap.size] ∧
                                                       SX.Ptr q23 fun (a48 : Addr) =>
                                                        ∃ (i49 : Int),
                                                         w46.drew.cell? (a48.add (3 : Nat)) = some (Value.int IntKind.i64 i49) ∧
                                                          (Known w46.drew
                                                            [(w.heap.size,
                                                              [((0 : Nat), Value.int IntKind.i64 xk), ((1 : Nat), Value.int IntKind.i64 xid),
                                                               ((2 : Nat), Value.int IntKind.i64 xat), ((3 : Nat), Value.string xa),
                                                               ((4 : Nat), Value.string xt), ((5 : Nat), Value.slice qb nb cb),
                                                               ((6 : Nat), Value.slice qk nk ck), ((7 : Nat), Value.int IntKind.i64 nm),
                                                               ((8 : Nat), Value.int IntKind.u8 fill), ((9 : Nat), Value.slice qn nn cn)])] →
                                                           Rets Tryz.prog (11 : Nat) #[Value.pointer q20] w46.drew fun (v50 : Value) (w51 : World) =>
                                                            ∃ (i52 : Int),
                                                             v50 = Value.int IntKind.i64 i52 ∧
                                                              Keeps w46.drew w51 [w.heap.size] ∧
                                                               w51.cell? (a48.add (3 : Nat)) = some (Value.int IntKind.i64 i49) ∧
                                                                bif decide (i52 > i49) then
                                                                 Known w51
                                                                   [(w.heap.size,
                                                                     [((0 : Nat), Value.int IntKind.i64 xk), ((1 : Nat), Value.int IntKind.i64 xid),
                                                                      ((2 : Nat), Value.int IntKind.i64 xat), ((3 : Nat), Value.string xa),
                                                                      ((4 : Nat), Value.string xt), ((5 : Nat), Value.slice qb nb cb),
                                                                      ((6 : Nat), Value.slice qk nk ck), ((7 : Nat), Value.int IntKind.i64 nm),
                                                                      ((8 : Nat), Value.int IntKind.u8 fill), ((9 : Nat), Value.slice qn nn cn)])] →
                                                                  R (Ending.returned (Value.bool false)) w51
                                                                else
                                                                 Wr IntKind.i64 (i26 + (1 : Int)) fun (i53 : Int) =>
                                                                  SameVals
                                                                    [Value.int IntKind.i64 xk, Value.int IntKind.i64 xid, Value.int IntKind.i64 xat,
                                                                     Value.string xa, Value.string xt, Value.slice qb nb cb, Value.slice qk nk ck,
                                                                     Value.int IntKind.i64 nm, Value.int IntKind.u8 fill, Value.slice qn nn cn]
                                                                    [Value.int IntKind.i64 xk, Value.int IntKind.i64 xid, Value.int IntKind.i64 xat,
                                                                     Value.string xa, Value.string xt, Value.slice qb nb cb, Value.slice qk nk ck,
                                                                     Value.int IntKind.i64 nm, Value.int IntKind.u8 fill, Value.slice qn nn cn] ∧
                                                                   I24 i53 w51 ∧ I25 i53 w51 < I25 i26 w27))
                              else
                               Known w27
                                 [(w.heap.size,
                                   [((0 : Nat), Value.int IntKind.i64 xk), ((1 : Nat), Value.int IntKind.i64 xid), ((2 : Nat), Value.int IntKind.i64 xat), ((3 : Nat), Value.string xa),
                                    ((4 : Nat), Value.string xt), ((5 : Nat), Value.slice qb nb cb), ((6 : Nat), Value.slice qk nk ck), ((7 : Nat), Value.int IntKind.i64 nm),
                                    ((8 : Nat), Value.int IntKind.u8 fill), ((9 : Nat), Value.slice qn nn cn)])] →
                                Rets Tryz.prog (12 : Nat) #[Value.pointer q20] w27 fun (v54 : Value) (w55 : World) =>
                                 ∃ (i56 : Int),
                                  ∃ (i57 : Int),
                                   v54 = Value.tuple #[Value.int IntKind.i64 i56, Value.int IntKind.i64 i57] ∧
                                    Keeps w27 w55 [w.heap.size] ∧
                                     Wr IntKind.i64 (i56 + (1 : Int)) fun (i58 : Int) =>
                                      Known (w55.alloc (Obj.cells #[Value.int IntKind.i64 i58] (3 : Nat)))
                                        [(w.heap.size,
                                          [((0 : Nat), Value.int IntKind.i64 xk), ((1 : Nat), Value.int IntKind.i64 xid), ((2 : Nat), Value.int IntKind.i64 xat),
                                           ((3 : Nat), Value.string xa), ((4 : Nat), Value.string xt), ((5 : Nat), Value.slice qb nb cb), ((6 : Nat), Value.slice qk nk ck),
                                           ((7 : Nat), Value.int IntKind.i64 nm), ((8 : Nat), Value.int IntKind.u8 fill), ((9 : Nat), Value.slice qn nn cn)])] →
                                       Rets Tryz.prog (13 : Nat) #[Value.pointer q20, Value.slice (some { block := w55.heap.size, off := (0 : Nat) }) (1 : Nat) (1 : Nat)]
                                        (w55.alloc (Obj.cells #[Value.int IntKind.i64 i58] (3 : Nat))) fun (v59 : Value) (w60 : World) =>
                                        v59 = Value.tuple #[] ∧
                                         Keeps (w55.alloc (Obj.cells #[Value.int IntKind.i64 i58] (3 : Nat))) w60 [w.heap.size] ∧
                                          Wr IntKind.i64 (i56 + (1 : Int)) fun (i61 : Int) =>
                                           SX.Ptr q23 fun (a62 : Addr) =>
                                            (∃ (v63 : Value),
                                              (w60.alloc (Obj.cells #[Value.int IntKind.i64 i61] (3 : Nat))).cell? ((a62.add (6 : Nat)).add (0 : Nat)) = some v63) ∧
                                             (w60.alloc (Obj.cells #[Value.int IntKind.i64 i61] (3 : Nat))).frozen? ((a62.add (6 : Nat)).add (0 : Nat)) = false ∧
                                              Apart ((a62.add (6 : Nat)).add (0 : Nat)) w.heap.size
                                                [(0 : Nat), (1 : Nat), (2 : Nat), (3 : Nat), (4 : Nat), (5 : Nat), (6 : Nat), (7 : Nat), (8 : Nat), (9 : Nat)] ∧
                                               (Known
                                                 ((w60.alloc (Obj.cells #[Value.int IntKind.i64 i61] (3 : Nat))).setCell ((a62.add (6 : Nat)).add (0 : Nat))
                                                  (Value.slice (some { block := w60.heap.size, off := (0 : Nat) }) (1 : Nat) (1 : Nat)))
                                                 [(w.heap.size,
                                                   [((0 : Nat), Value.int IntKind.i64 xk), ((1 : Nat), Value.int IntKind.i64 xid),
                                                    ((2 : Nat), Value.int IntKind.i64 xat), ((3 : Nat), Value.string xa), ((4 : Nat), Value.string xt),
                                                    ((5 : Nat), Value.slice qb nb cb), ((6 : Nat), Value.slice qk nk ck), ((7 : Nat), Value.int IntKind.i64 nm),
                                                    ((8 : Nat), Value.int IntKind.u8 fill), ((9 : Nat), Value.slice qn nn cn)])] →
                                                Rets Tryz.prog (14 : Nat) #[Value.pointer q20]
                                                 ((w60.alloc (Obj.cells #[Value.int IntKind.i64 i61] (3 : Nat))).setCell ((a62.add (6 : Nat)).add (0 : Nat))
                                                  (Value.slice (some { block := w60.heap.size, off := (0 : Nat) }) (1 : Nat) (1 : Nat)))
                                                 fun (v64 : Value) (w65 : World) =>
                                                 ∃ (i66 : Int),
                                                  v64 = Value.int IntKind.i64 i66 ∧
                                                   Keeps
                                                     ((w60.alloc (Obj.cells #[Value.int IntKind.i64 i61] (3 : Nat))).setCell ((a62.add (6 : Nat)).add (0 : Nat))
                                                      (Value.slice (some { block := w60.heap.size, off := (0 : Nat) }) (1 : Nat) (1 : Nat)))
                                                     w65 [w.heap.size] ∧
                                                    (Known w65
                                                      [(w.heap.size,
                                                        [((0 : Nat), Value.int IntKind.i64 xk), ((1 : Nat), Value.int IntKind.i64 xid),
                                                         ((2 : Nat), Value.int IntKind.i64 xat), ((3 : Nat), Value.string xa), ((4 : Nat), Value.string xt),
                                                         ((5 : Nat), Value.slice qb nb cb), ((6 : Nat), Value.slice qk nk ck),
                                                         ((7 : Nat), Value.int IntKind.i64 nm), ((8 : Nat), Value.int IntKind.u8 fill),
                                                         ((9 : Nat), Value.slice qn nn cn)])] →
                                                     Rets Tryz.prog (9 : Nat)
                                                      #[Value.pointer q20, Value.pointer q23,
                                                       Value.agg
                                                        #[Value.int IntKind.i64 xk, Value.int IntKind.i64 xid, Value.int IntKind.i64 xat, Value.string xa,
                                                         Value.string xt, Value.slice qb nb cb, Value.slice qk nk ck, Value.int IntKind.i64 nm,
                                                         Value.int IntKind.u8 fill, Value.slice qn nn cn]]
                                                      w65 fun (v67 : Value) (w68 : World) =>
                                                      ∃ (t69 : Bool),
                                                       v67 = Value.bool t69 ∧
                                                        Keeps w65 w68 [w.heap.size] ∧
                                                         bif !t69 then
                                                          Known w68
                                                            [(w.heap.size,
                                                              [((0 : Nat), Value.int IntKind.i64 xk), ((1 : Nat), Value.int IntKind.i64 xid),
                                                               ((2 : Nat), Value.int IntKind.i64 xat), ((3 : Nat), Value.string xa),
                                                               ((4 : Nat), Value.string xt), ((5 : Nat), Value.slice qb nb cb),
                                                               ((6 : Nat), Value.slice qk nk ck), ((7 : Nat), Value.int IntKind.i64 nm),
                                                               ((8 : Nat), Value.int IntKind.u8 fill), ((9 : Nat), Value.slice qn nn cn)])] →
                                                           R (Ending.returned (Value.bool false)) w68
                                                         else
                                                          Known w68
                                                            [(w.heap.size,
                                                              [((0 : Nat), Value.int IntKind.i64 xk), ((1 : Nat), Value.int IntKind.i64 xid),
                                                               ((2 : Nat), Value.int IntKind.i64 xat), ((3 : Nat), Value.string xa),
                                                               ((4 : Nat), Value.string xt), ((5 : Nat), Value.slice qb nb cb),
                                                               ((6 : Nat), Value.slice qk nk ck), ((7 : Nat), Value.int IntKind.i64 nm),
                                                               ((8 : Nat), Value.int IntKind.u8 fill), ((9 : Nat), Value.slice qn nn cn)])] →
                                                           Rets Tryz.prog (10 : Nat) #[Value.pointer q20, Value.pointer q23] w68
                                                            fun (v70 : Value) (w71 : World) =>
                                                            ∃ (t72 : Bool),
                                                             v70 = Value.bool t72 ∧
                                                              Keeps w68 w71 [w.heap.size] ∧
                                                               bif !t72 then
                                                                Known w71
                                                                  [(w.heap.size,
                                                                    [((0 : Nat), Value.int IntKind.i64 xk), ((1 : Nat), Value.int IntKind.i64 xid),
                                                                     ((2 : Nat), Value.int IntKind.i64 xat), ((3 : Nat), Value.string xa),
                                                                     ((4 : Nat), Value.string xt), ((5 : Nat), Value.slice qb nb cb),
                                                                     ((6 : Nat), Value.slice qk nk ck), ((7 : Nat), Value.int IntKind.i64 nm),
                                                                     ((8 : Nat), Value.int IntKind.u8 fill), ((9 : Nat), Value.slice qn nn cn)])] →
                                                                 R (Ending.returned (Value.bool false)) w71
                                                               else
                                                                Known w71
                                                                  [(w.heap.size,
                                                                    [((0 : Nat), Value.int IntKind.i64 xk), ((1 : Nat), Value.int IntKind.i64 xid),
                                                                     ((2 : Nat), Value.int IntKind.i64 xat), ((3 : Nat), Value.string xa),
                                                                     ((4 : Nat), Value.string xt), ((5 : Nat), Value.slice qb nb cb),
                                                                     ((6 : Nat), Value.slice qk nk ck), ((7 : Nat), Value.int IntKind.i64 nm),
                                                                     ((8 : Nat), Value.int IntKind.u8 fill), ((9 : Nat), Value.slice qn nn cn)])] →
                                                                 Rets Tryz.prog (14 : Nat) #[Value.pointer q20] w71 fun (v73 : Value) (w74 : World) =>
                                                                  ∃ (i75 : Int),
                                                                   v73 = Value.int IntKind.i64 i75 ∧
                                                                    Keeps w71 w74 [w.heap.size] ∧
                                                                     bif i75 != i66 then
                                                                      Known w74
                                                                        [(w.heap.size,
                                                                          [((0 : Nat), Value.int IntKind.i64 xk),
                                                                           ((1 : Nat), Value.int IntKind.i64 xid),
                                                                           ((2 : Nat), Value.int IntKind.i64 xat), ((3 : Nat), Value.string xa),
                                                                           ((4 : Nat), Value.string xt), ((5 : Nat), Value.slice qb nb cb),
                                                                           ((6 : Nat), Value.slice qk nk ck),
                                                                           ((7 : Nat), Value.int IntKind.i64 nm),
                                                                           ((8 : Nat), Value.int IntKind.u8 fill),
                                                                           ((9 : Nat), Value.slice qn nn cn)])] →
                                                                       R (Ending.returned (Value.bool false)) w74
                                                                     else
                                                                      Known w74
                                                                        [(w.heap.size,
                                                                          [((0 : Nat), Value.int IntKind.i64 xk),
                                                                           ((1 : Nat), Value.int IntKind.i64 xid),
                                                                           ((2 : Nat), Value.int IntKind.i64 xat), ((3 : Nat), Value.string xa),
                                                                           ((4 : Nat), Value.string xt), ((5 : Nat), Value.slice qb nb cb),
                                                                           ((6 : Nat), Value.slice qk nk ck),
                                                                           ((7 : Nat), Value.int IntKind.i64 nm),
                                                                           ((8 : Nat), Value.int IntKind.u8 fill),
                                                                           ((9 : Nat), Value.slice qn nn cn)])] →
                                                                       Rets Tryz.prog (12 : Nat) #[Value.pointer q20] w74
                                                                        fun (v76 : Value) (w77 : World) =>
                                                                        ∃ (i78 : Int),
                                                                         ∃ (i79 : Int),
                                                                          v76 =
                                                                            Value.tuple
                                                                             #[Value.int IntKind.i64 i78, Value.int IntKind.i64 i79] ∧
                                                                           Keeps w74 w77 [w.heap.size] ∧
                                                                            Wr IntKind.i64 (i56 + (1 : Int)) fun (i80 : Int) =>
                                                                             bif i78 == i80 then
                                                                              Wr IntKind.i64 (i57 + (1 : Int)) fun (i81 : Int) =>
                                                                               bif i79 == i81 then
                                                                                Known w77
                                                                                  [(w.heap.size,
                                                                                    [((0 : Nat), Value.int IntKind.i64 xk),
                                                                                     ((1 : Nat), Value.int IntKind.i64 xid),
                                                                                     ((2 : Nat), Value.int IntKind.i64 xat),
                                                                                     ((3 : Nat), Value.string xa),
                                                                                     ((4 : Nat), Value.string xt),
                                                                                     ((5 : Nat), Value.slice qb nb cb),
                                                                                     ((6 : Nat), Value.slice qk nk ck),
                                                                                     ((7 : Nat), Value.int IntKind.i64 nm),
                                                                                     ((8 : Nat), Value.int IntKind.u8 fill),
                                                                                     ((9 : Nat), Value.slice qn nn cn)])] →
                                                                                 Rets Tryz.prog (6 : Nat) #[] w77
                                                                                  fun (v82 : Value) (w83 : World) =>
                                                                                  ∃ (t84 : Bool),
                                                                                   v82 = Value.bool t84 ∧
                                                                                    Keeps w77 w83 [w.heap.size] ∧
                                                                                     (Known w83
                                                                                       [(w.heap.size,
                                                                                        [((0 : Nat), Value.int IntKind.i64 xk),
                                                                                         ((1 : Nat), Value.int IntKind.i64 xid),
                                                                                         ((2 : Nat), Value.int IntKind.i64 xat),
                                                                                         ((3 : Nat), Value.string xa),
                                                                                         ((4 : Nat), Value.string xt),
                                                                                         ((5 : Nat), Value.slice qb nb cb),
                                                                                         ((6 : Nat), Value.slice qk nk ck),
                                                                                         ((7 : Nat), Value.int IntKind.i64 nm),
                                                                                         ((8 : Nat), Value.int IntKind.u8 fill),
                                                                                         ((9 : Nat), Value.slice qn nn cn)])] →
                                                                                      R (Ending.returned (Value.bool t84)) w83)
                                                                               else
                                                                                Known w77
                                                                                  [(w.heap.size,
                                                                                    [((0 : Nat), Value.int IntKind.i64 xk),
                                                                                     ((1 : Nat), Value.int IntKind.i64 xid),
                                                                                     ((2 : Nat), Value.int IntKind.i64 xat),
                                                                                     ((3 : Nat), Value.string xa),
                                                                                     ((4 : Nat), Value.string xt),
                                                                                     ((5 : Nat), Value.slice qb nb cb),
                                                                                     ((6 : Nat), Value.slice qk nk ck),
                                                                                     ((7 : Nat), Value.int IntKind.i64 nm),
                                                                                     ((8 : Nat), Value.int IntKind.u8 fill),
                                                                                     ((9 : Nat), Value.slice qn nn cn)])] →
                                                                                 R (Ending.returned (Value.bool false)) w77
                                                                             else
                                                                              Known w77
                                                                                [(w.heap.size,
                                                                                  [((0 : Nat), Value.int IntKind.i64 xk),
                                                                                   ((1 : Nat), Value.int IntKind.i64 xid),
                                                                                   ((2 : Nat), Value.int IntKind.i64 xat),
                                                                                   ((3 : Nat), Value.string xa),
                                                                                   ((4 : Nat), Value.string xt),
                                                                                   ((5 : Nat), Value.slice qb nb cb),
                                                                                   ((6 : Nat), Value.slice qk nk ck),
                                                                                   ((7 : Nat), Value.int IntKind.i64 nm),
                                                                                   ((8 : Nat), Value.int IntKind.u8 fill),
                                                                                   ((9 : Nat), Value.slice qn nn cn)])] →
                                                                               R (Ending.returned (Value.bool false)) w77)))
theorem vcTryz4 (cap : Int) (q : Option Addr) (m c : Nat) (xk xid xat : Int) (xa xt : ByteArray) (qb : Option Addr) (nb cb : Nat) (qk : Option Addr) (nk ck : Nat) (nm fill : Int) (qn : Option Addr) (nn cn : Nat) (w : World) (R : Ending → World → Prop) : SX.vcFn Tryz.prog [(6, ⟨[(9, .int .i64)], [8, 7, 1, 5], []⟩)] Tryz.f4 [.v (.int .i64 cap), .v (.slice q m c), .v (.agg #[.int .i64 xk, .int .i64 xid, .int .i64 xat, .string xa, .string xt, .slice qb nb cb, .slice qk nk ck, .int .i64 nm, .int .u8 fill, .slice qn nn cn])] [] w R = VCTryz4 cap q m c xk xid xat xa xt qb nb cb qk nk ck nm fill qn nn cn w R := by kernel_rfl
end Go.Proofs.YtlgkcbdpaffigaaGreat

namespace Go.Proofs.YtlgkcbdpaffigaaGreat
open Go Go.SX Go.Proofs
set_option maxRecDepth 100000
set_option linter.unusedVariables false
set_option linter.unusedSimpArgs false
/-- The document's files by names; what is refused lies in a block of Fq. -/
def FRWM (w : World) (O Fq : Nat → Prop) (b : Nat) (Ds : List Nat) (H : List (List Ent)) (N : List Ent) (cap k r : Int) (rl : List Int) : Prop :=
  ∃ (dv : Value) (own Od : Nat → Prop) (rq : Option Addr) (rc : Nat), Cs w b 0 [dv] ∧ RD w Od b 1 H N ∧ Cs w b 3 [.int .i64 cap, .int .i64 k, .int .i64 r, .slice rq rl.length rc] ∧ OwnRow w own 72 1 dv Ds.length (flatC ptC Ds) ∧ RowsAt w 1 intC rq rl ∧ (0 < rl.length → ∀ a, rq = some a → Fq a.block) ∧ (∀ i, own i → O i ∧ ¬ Od i) ∧ (∀ i, Od i → O i)
def FRW (w : World) (O Fq : Nat → Prop) (b : Nat) (f : Fst) (H : List (List Ent)) : Prop :=
  ∃ (Ds : List Nat) (Of : Nat → Prop), FRWM w Of Fq b Ds H (lastE f.S f.ws) f.cap f.k f.r f.rl ∧ Dks RDsk w (fun x => O x ∧ ¬ Of x) Ds f.ds ∧ (∀ x, Of x → O x) ∧ (∀ x, O x → ¬ Fq x) ∧ Hst f.S f.ws H (lastE f.S f.ws)
section
variable {w w' : World} {O Fq : Nat → Prop} {b : Nat} {Ds : List Nat} {H : List (List Ent)} {N : List Ent} {cap k r : Int} {rl : List Int} {f : Fst}
theorem FRW.of {E : Nat} (h : FRD E w O b f H) : FRW w O (fun i => i < E) b f H := by
  obtain ⟨Ds, Of, ⟨dv, own, Od, rq, rc, h1, h2, h3, h4, h5, h6, h7, h8, h9⟩, g2, g3, g4, g5⟩ := h
  exact ⟨Ds, Of, ⟨dv, own, Od, rq, rc, h1, h2, h3, h4, h5, h6, h7, h8⟩, g2, g3, fun x hx hh => by have := g4 x hx; omega, g5⟩
theorem FRWM.kp {O' S' : Nat → Prop} (h : FRWM w O Fq b Ds H N cap k r rl) (kk : Kp S' w w') (hq : ∀ i, Fq i → ¬ S' i) (hs : ∀ i, i < w.heap.size → O i → ¬ S' i ∧ O' i) : FRWM w' O' Fq b Ds H N cap k r rl := by
  obtain ⟨dv, own, Od, rq, rc, h1, h2, h3, h4, h5, h6, h7, h8⟩ := h
  have hb := h2.lt
  have sb := (hs b hb.1 (h8 _ hb.2)).1
  refine ⟨dv, fun i => own i ∧ i < w.heap.size, fun i => Od i ∧ i < w.heap.size, rq, rc, h1.kp kk sb, h2.kp kk fun i hl hi => ⟨(hs i hl (h8 i hi)).1, hi, hl⟩, h3.kp kk sb, ?_, h5.kp kk fun h0 a e hh => hq _ (h6 h0 a e) hh, h6, fun i hi => ⟨(hs i hi.2 (h7 i hi.1).1).2, fun hh => (h7 i hi.1).2 hh.1⟩, fun i hi => (hs i hi.2 (h8 i hi.1)).2⟩
  exact (h4.mono (own' := fun i => own i ∧ i < w.heap.size) fun i hi hl => ⟨hi, hl⟩).kp kk fun g n cap _ hg => (hs g hg.2 (h7 g hg.1).1).1
theorem FRWM.lt (h : FRWM w O Fq b Ds H N cap k r rl) : b < w.heap.size ∧ O b := by
  obtain ⟨dv, own, Od, rq, rc, h1, h2, h3, h4, h5, h6, h7, h8⟩ := h
  exact ⟨h2.lt.1, h8 _ h2.lt.2⟩
theorem FRWM.disks (h : FRWM w O Fq b Ds H N cap k r rl) : ∃ q c, w.cell? ⟨b, 0, none⟩ = some (.slice q Ds.length c) ∧ RowsAt w 1 ptC q Ds := by
  obtain ⟨dv, own, Od, rq, rc, h1, h2, h3, h4, h5, h6, h7, h8⟩ := h
  obtain ⟨q, c, rfl⟩ := h4.slice
  have := rwIn_of (Q := O) ptC_len (by omega) h4 fun i hi => (h7 i hi).1
  exact ⟨q, c, h1.get 0 rfl, this.1⟩
theorem FRWM.set {j : Nat} (hj : j < 3) (h : FRWM w O Fq b Ds H N cap k r rl) (hb : ¬ Fq b) {cap' k' r' u : Int} (hv : ([.int .i64 cap', .int .i64 k', .int .i64 r'] : List Value) = ([.int .i64 cap, .int .i64 k, .int .i64 r] : List Value).set j (.int .i64 u)) : FRWM (w.setCell ⟨b, 3 + j, none⟩ (.int .i64 u)) O Fq b Ds H N cap' k' r' rl ∧ Kp (one_ b) w (w.setCell ⟨b, 3 + j, none⟩ (.int .i64 u)) ∧ (∃ v, w.cell? ⟨b, 3 + j, none⟩ = some v) ∧ w.frozen? ⟨b, 3 + j, none⟩ = false := by
  have hlt := h.lt
  obtain ⟨dv, own, Od, rq, rc, h1, h2, h3, h4, h5, h6, h7, h8⟩ := h
  have kk : Kp (one_ b) w (w.setCell ⟨b, 3 + j, none⟩ (.int .i64 u)) := kp_set _ _ _ _
  have nb : Nb b 3 4 w (w.setCell ⟨b, 3 + j, none⟩ (.int .i64 u)) := Nb.set w (b := b) (o := 3) (i := j) (by omega) _
  have cc := h3.set j (.int .i64 u)
  have e : ([.int .i64 cap, .int .i64 k, .int .i64 r, .slice rq rl.length rc] : List Value).set j (.int .i64 u) = [.int .i64 cap', .int .i64 k', .int .i64 r', .slice rq rl.length rc] := by
    have : ([.int .i64 cap, .int .i64 k, .int .i64 r, .slice rq rl.length rc] : List Value) = [.int .i64 cap, .int .i64 k, .int .i64 r] ++ [.slice rq rl.length rc] := rfl
    rw [this, List.set_append_left _ _ (by simpa using hj), ← hv]
    rfl
  rw [e] at cc
  exact ⟨⟨dv, own, Od, rq, rc, h1.nb kk nb (.inl (by simp)), h2.nb kk nb (.inl (by omega)), cc, h4.kp kk (fun g n cap _ hg e => by have e : g = b := e; rw [e] at hg; exact (h7 b hg).2 h2.lt.2), h5.kp kk (fun h0 a e hh => by have hh : a.block = b := hh; exact hb (hh ▸ h6 h0 a e)), h6, h7, h8⟩, kk, h3.slot j (by simp; omega)⟩
/-- A call is counted. -/
theorem c99w (h : FRWM w O Fq b Ds H N cap k r rl) (hb : ¬ Fq b) (hk : 0 ≤ k ∧ k ≤ 1000000) (hr : 0 ≤ r ∧ r ≤ 1000000) (hl : rl.length ≤ 1000000) : Rets Tryz.prog 45 #[ptA b 0] w fun v w' => v = .bool (decide (refE rl k = 0)) ∧ FRWM w' O Fq b Ds H N cap (k + 1) (refN rl k r) rl ∧ Kp (one_ b) w w' := by
  refine ent [_] Tryz.func45 ((vcTryz45 _ w _).mpr ?_)
  unfold VCTryz45
  obtain ⟨h1, k1, s1, s2⟩ := h.set (j := 1) (by omega) hb (cap' := cap) (k' := k + 1) (r' := r) (u := k + 1) rfl
  obtain ⟨dv, own, Od, rq, rc, g1, g2, g3, g4, g5, g6, g7, g8⟩ := h
  simp only [ptr_some, ad3, Nat.zero_add, Nat.add_zero]
  refine ⟨_, g3.get 1 rfl, wr64 (by omega) ⟨s1, s2, ?_⟩⟩
  have r1 : RowsAt (w.setCell ⟨b, 4, none⟩ (.int .i64 (k + 1))) 1 intC rq rl := g5.kp k1 fun h0 a e hh => by have hh : a.block = b := hh; exact hb (hh ▸ g6 h0 a e)
  have c1 : Cs (w.setCell ⟨b, 4, none⟩ (.int .i64 (k + 1))) b 3 [.int .i64 cap, .int .i64 (k + 1), .int .i64 r, .slice rq rl.length rc] := g3.set 1 _
  have h1 : FRWM (w.setCell ⟨b, 4, none⟩ (.int .i64 (k + 1))) O Fq b Ds H N cap (k + 1) r rl := h1
  have k1 : Kp (one_ b) w (w.setCell ⟨b, 4, none⟩ (.int .i64 (k + 1))) := k1
  generalize w.setCell ⟨b, 4, none⟩ (.int .i64 (k + 1)) = w1 at *
  have h1d : ∀ {W : World}, Kp none_ w1 W → FRWM W O Fq b Ds H N cap (k + 1) r rl := fun kW => h1.kp kW (fun i _ hi => hi.elim) (fun i _ hi => ⟨id, hi⟩)
  refine ⟨fun i w' => ∃ j : Nat, i = j ∧ j ≤ rl.length ∧ Kp none_ w1 w' ∧ ∀ x (hx : x < rl.length), x < j → rl[x] ≠ k + 1, fun i _ => (rl.length - i).toNat, ⟨0, rfl, by omega, Kp.refl _ _, fun x hx h => by omega⟩, ?_⟩
  rintro i w2 ⟨j, rfl, hj, k2, hn⟩
  have cc := c1.kp0 k2
  refine ⟨_, _, _, cc.get 3 rfl, bif_dec (fun hi => ?_) (fun hi => ?_)⟩
  · have hjl : j < rl.length := by omega
    have k3 := k2.drew
    have cd := c1.kp0 k3
    refine ⟨_, _, _, cd.get 3 rfl, ⟨by omega, hi⟩, (r1.kp0 k3).get hjl fun a ea hc => ⟨_, (cell_add0 _ _).symm.trans (hc 0 _ rfl), _, cd.get 1 rfl, bif_eq (fun he => ?_) (fun he => ?_)⟩⟩
    · have hm : k + 1 ∈ rl := by rw [← he]; exact List.getElem_mem hjl
      obtain ⟨x1, x2, x3, x4⟩ := (h1d k3).set (j := 2) (by omega) hb (cap' := cap) (k' := k + 1) (r' := r + 1) (u := r + 1) rfl
      refine ⟨_, cd.get 2 rfl, wr64 (by omega) ⟨x3, x4, _, rfl, ?_, ?_, k1.trans (k3.wide.trans x2)⟩⟩
      · unfold refE; rw [if_pos hm]; rfl
      · unfold refN; rw [if_pos hm]; exact x1
    · refine wr64 (by omega) ⟨⟨j + 1, by omega, by omega, k3, fun x hx hxj => ?_⟩, by first | omega | (dsimp only; omega)⟩
      by_cases ee : x = j
      · subst ee; exact he
      · exact hn x hx (by omega)
  · have hm : k + 1 ∉ rl := fun hm => by
      obtain ⟨x, hx, e⟩ := List.getElem_of_mem hm
      exact hn x hx (by omega) e
    refine ⟨_, rfl, ?_, ?_, k1.trans k2.wide⟩
    · unfold refE; rw [if_neg hm]; rfl
    · unfold refN; rw [if_neg hm]; exact h1d k2
theorem FRW.kp {O' S' : Nat → Prop} (h : FRW w O Fq b f H) (kk : Kp S' w w') (hq : ∀ i, Fq i → ¬ S' i) (hs : ∀ i, i < w.heap.size → O i → ¬ S' i ∧ O' i) (hO' : ∀ x, O' x → ¬ Fq x) : FRW w' O' Fq b f H := by
  obtain ⟨Ds, Of, h1, h2, h3, h4, h5⟩ := h
  exact ⟨Ds, fun x => Of x ∧ x < w.heap.size, h1.kp kk hq (fun x hl hx => ⟨(hs x hl (h3 x hx)).1, hx, hl⟩), h2.kp pkR kk fun x hl hx => ⟨(hs x hl hx.1).1, (hs x hl hx.1).2, fun hh => hx.2 hh.1⟩, fun x hx => (hs x hx.2 (h3 x hx.1)).2, hO', h5⟩
theorem FRW.kp0 (h : FRW w O Fq b f H) (kk : Kp none_ w w') : FRW w' O Fq b f H := by
  obtain ⟨Ds, Of, h1, h2, h3, h4, h5⟩ := h
  exact ⟨Ds, Of, h1.kp kk (fun i _ hi => hi.elim) (fun x _ hx => ⟨id, hx⟩), h2.kp0 pkR kk, h3, h4, h5⟩
theorem FRW.lt (h : FRW w O Fq b f H) : b < w.heap.size ∧ O b := by
  obtain ⟨Ds, Of, h1, h2, h3, h4, h5⟩ := h
  exact ⟨h1.lt.1, h3 _ h1.lt.2⟩
theorem FRW.hst (h : FRW w O Fq b f H) : Hst f.S f.ws H (lastE f.S f.ws) := by
  obtain ⟨Ds, Of, h1, h2, h3, h4, h5⟩ := h
  exact h5
theorem FRW.dir (h : FRW w O Fq b f H) : ∃ Od, RD w Od b 1 H (lastE f.S f.ws) := by
  obtain ⟨Ds, Of, ⟨dv, own, Od, rq, rc, h1, h2, h3, h4, h5, h6, h7, h8⟩, g2, g3, g4, g5⟩ := h
  exact ⟨Od, h2⟩
theorem FRW.nums (h : FRW w O Fq b f H) : w.cell? ⟨b, 3, none⟩ = some (.int .i64 f.cap) ∧ w.cell? ⟨b, 4, none⟩ = some (.int .i64 f.k) ∧ w.cell? ⟨b, 5, none⟩ = some (.int .i64 f.r) := by
  obtain ⟨Ds, Of, ⟨dv, own, Od, rq, rc, h1, h2, h3, h4, h5, h6, h7, h8⟩, g2, g3, g4, g5⟩ := h
  exact ⟨h3.get 0 rfl, h3.get 1 rfl, h3.get 2 rfl⟩
theorem FRW.row (h : FRW w O Fq b f H) : ∃ (Ds : List Nat) (q : Option Addr) (c : Nat), Ds.length = f.ds.length ∧ w.cell? ⟨b, 0, none⟩ = some (.slice q f.ds.length c) ∧ RowsAt w 1 ptC q Ds ∧ ∀ {w1 : World} {i : Nat} (hi : i < f.ds.length), Kp none_ w w1 → ∃ col, RDsk w1 col (Ds.getD i 0) (f.ds.getD i emptySt) := by
  obtain ⟨Ds, Of, h1, h2, h3, h4, h5⟩ := h
  obtain ⟨q, c, e0, r0⟩ := h1.disks
  refine ⟨Ds, q, c, h2.len, by rw [← h2.len]; exact e0, r0, fun {w1 i} hi kk => ?_⟩
  obtain ⟨col, p, _, _⟩ := (h2.kp0 pkR kk).at pkR hi
  exact ⟨col, p⟩
theorem c99W (h : FRW w O Fq b f H) (o : Fok f) : Rets Tryz.prog 45 #[ptA b 0] w fun v w' => v = .bool (decide (refE f.rl f.k = 0)) ∧ FRW w' O Fq b (cnt f) H ∧ Kp (one_ b) w w' := by
  have lb := h.lt
  obtain ⟨Ds, Of, h1, h2, h3, h4, h5⟩ := h
  have o1 := o.k
  have o2 := o.r
  have o3 := o.rll
  refine (c99w h1 (h4 b lb.2) (by omega) (by omega) (by omega)).mono ?_
  rintro v w1 ⟨rfl, g, k⟩
  exact ⟨rfl, ⟨Ds, Of, g, h2.kp pkR k fun x _ hx => ⟨fun e => hx.2 (by have e : x = b := e; rw [e]; exact h1.lt.2), hx⟩, h3, h4, h5⟩, k⟩
theorem c100W (h : FRW w O Fq b f H) (i : Int) : Rets Tryz.prog 32 #[ptA b 0, .int .i64 i] w fun v w' => w' = w ∧ v = .bool (decide (0 ≤ i ∧ i < f.ds.length)) := by
  refine ent [_, _] Tryz.func32 ((vcTryz32 _ _ w _).mpr ?_)
  unfold VCTryz32
  obtain ⟨Ds, q, c, hl, e0, _, _⟩ := h.row
  simp only [ptr_some, ad3, Nat.zero_add, Nat.add_zero]
  refine bif_dec (fun hi => ⟨_, _, _, e0, _, rfl, trivial, ?_⟩) (fun hi => ⟨_, rfl, trivial, ?_⟩)
  · congr 1
    rw [decide_eq_decide]
    omega
  · congr 1
    symm
    rw [decide_eq_false_iff_not]
    omega
/-- What is used. -/
theorem c101W (h : FRW w O Fq b f H) (o : Fok f) : Rets Tryz.prog 30 #[ptA b 0] w fun v w' => w' = w ∧ v = .int .i64 (usedN f f.ds.length) ∧ (0 ≤ usedN f f.ds.length ∧ usedN f f.ds.length ≤ 4096 * f.ds.length) := by
  refine ent [_] Tryz.func30 ((vcTryz30 _ w _).mpr ?_)
  unfold VCTryz30
  have hdl := o.dsl
  have hst := h.hst
  have hwsl := o.wsl
  obtain ⟨Ds, q, c, hlen, e0, r0, hd⟩ := h.row
  refine ⟨fun i n w' => ∃ j : Nat, i = j ∧ j ≤ f.ds.length ∧ n = usedN f j ∧ (0 ≤ n ∧ n ≤ 4096 * j) ∧ w' = w, fun i _ _ => (f.ds.length - i).toNat, ⟨0, rfl, by omega, rfl, by omega, rfl⟩, ?_⟩
  rintro i n w1 ⟨j, rfl, hj, rfl, hn, rfl⟩
  simp only [ptr_some, ad3, Nat.zero_add, Nat.add_zero]
  refine ⟨_, _, _, e0, bif_dec (fun hi => ?_) (fun hi => ?_)⟩
  · have hjl : j < f.ds.length := by omega
    obtain ⟨Od, d⟩ := h.dir
    refine (c50 d (by rw [hst.len]; omega) (fun l hl => by have := (hst.wfH l hl).len; omega) (by have := hst.wfN.len; omega) j).mono ?_
    rintro v w2 ⟨e, rfl⟩
    obtain rfl := e.symm
    have hl : ((H ++ [lastE f.S f.ws]).any fun l => idIn l j) = lnk f j := by rw [hst.all]; exact linked_eq hst.wf hst.ok j
    rw [hl]
    refine ⟨_, rfl, (Kp.refl none_ _).keeps0, bif_b (fun ht => ?_) (fun ht => ?_)⟩
    · obtain ⟨col, p⟩ := hd hjl (Kp.refl _ _)
      have hjD : j < Ds.length := by omega
      have eD : Ds.getD j 0 = Ds[j] := by rw [List.getD_eq_getElem?_getD, List.getElem?_eq_getElem hjD]; rfl
      rw [eD] at p
      have sz := p.ok.size
      obtain ⟨qn, cn, en, _⟩ := p.now
      have eu : usedN f (j + 1) = usedN f j + (f.ds.getD j emptySt).size := by
        show usedN f j + (if lnk f j = true then _ else _) = _
        rw [if_pos ht]
      refine ⟨_, _, _, e0, ⟨by omega, by omega⟩, r0.get hjD fun a ea hc => ⟨_, (cell_add0 _ _).symm.trans (hc 0 _ rfl), ?_⟩⟩
      simp only [ptr_some, ad3, Nat.zero_add, Nat.add_zero]
      exact ⟨_, _, _, en, wr64 (by omega) (wr64 (by omega) ⟨⟨j + 1, by omega, by omega, eu.symm, by omega, trivial⟩, by first | omega | (dsimp only; omega)⟩)⟩
    · have eu : usedN f (j + 1) = usedN f j := by
        show usedN f j + (if lnk f j = true then _ else _) = _
        rw [if_neg (by rw [ht]; simp), Int.add_zero]
      exact wr64 (by omega) ⟨⟨j + 1, by omega, by omega, eu.symm, by omega, rfl⟩, by first | omega | (dsimp only; omega)⟩
  · have ej : j = f.ds.length := by omega
    subst ej
    exact ⟨_, rfl, trivial, rfl, hn⟩
end
/-! ### The program's questions -/
section
variable {w w' : World} {O : Nat → Prop} {b : Nat} {f : Fst}
theorem z34 (h : FSD w O b f) {i : Nat} (hi : i < f.ds.length) : Rets Tryz.prog 34 #[ptA b 0, .int .i64 i] w fun v w' => w' = w ∧ v = .int .i64 (f.ds.getD i emptySt).size := by
  refine ent [_, _] Tryz.func34 ((vcTryz34 _ _ w _).mpr ?_)
  unfold VCTryz34
  obtain ⟨d, col, e77, p, _, _⟩ := h.disk hi
  refine e77.mono ?_
  rintro v w2 ⟨e, rfl⟩
  obtain rfl := e.symm
  refine ⟨_, rfl, (Kp.refl none_ _).keeps0, (c18 p).mono ?_⟩
  rintro v w3 ⟨rfl, e⟩
  obtain rfl := e.symm
  exact ⟨_, rfl, (Kp.refl none_ _).keeps0, _, rfl, rfl, rfl⟩
theorem z29 (h : FSD w O b f) (o : Fok f) : Rets Tryz.prog 29 #[ptA b 0] w fun v w' => ∃ (q : Option Addr) (c : Nat), v = .slice q (lastE f.S f.ws).length c ∧ RowsAt w' 1 strC q ((lastE f.S f.ws).map Prod.fst) ∧ Kp none_ w w' := by
  refine ent [_] Tryz.func29 ((vcTryz29 _ w _).mpr ?_)
  unfold VCTryz29
  obtain ⟨Ds, Of, h1, h2, h3⟩ := h
  refine bif_b (fun hh => by cases hh) (fun _ => ?_)
  obtain ⟨Od, d⟩ := h1.dir
  simp only [ptr_some, ad3, Nat.zero_add]
  refine (c39 d o.last.asc (by have := o.last.len; omega)).mono ?_
  rintro v w1 ⟨q, c, rfl, r1, _, k1⟩
  exact ⟨_, _, _, rfl, k1.keeps0, _, rfl, q, c, rfl, r1, k1⟩
theorem sumW_all {ds : List St} (hw : ∀ s ∈ ds, s.wait.length ≤ 90000) : ∀ j, sumW ds j ≤ 90000 * j
  | 0 => by simp [sumW]
  | j + 1 => by
    have ih := sumW_all hw j
    have : (ds.getD j emptySt).wait.length ≤ 90000 := by
      by_cases hj : j < ds.length
      · exact hw _ (List.mem_of_getElem? (getD_get ds emptySt hj))
      · rw [List.getD_eq_getElem?_getD, List.getElem?_eq_none (by omega)]
        exact Nat.zero_le _
    show sumW ds j + (ds.getD j emptySt).wait.length ≤ _
    omega
theorem z14 (h : FSD w O b f) (o : Fok f) (hw : ∀ s ∈ f.ds, s.wait.length ≤ 90000) : Rets Tryz.prog 14 #[ptA b 0] w fun v w' => w' = w ∧ v = .int .i64 (sumW f.ds f.ds.length) := by
  refine ent [_] Tryz.func14 ((vcTryz14 _ w _).mpr ?_)
  unfold VCTryz14
  have h0 := h
  obtain ⟨Ds, Of, h1, h2, h3⟩ := h
  have hlen := h2.len
  have hdl := o.dsl
  refine bif_b (fun hh => by cases hh) (fun _ => ?_)
  obtain ⟨q, c, e0, r0⟩ := h1.disks
  simp only [ptr_some, ad3, Nat.zero_add, Nat.add_zero]
  refine ⟨_, _, _, e0, fun i n w' => ∃ j : Nat, i = j ∧ j ≤ f.ds.length ∧ n = sumW f.ds j ∧ w' = w, fun i _ _ => (f.ds.length - i).toNat, ⟨0, rfl, by omega, rfl, rfl⟩, ?_⟩
  rintro i n w1 ⟨j, rfl, hj, rfl, rfl⟩
  have sl := sumW_all hw j
  refine bif_dec (fun hi => ?_) (fun hi => ?_)
  · have hjl : j < f.ds.length := by omega
    have hjD : j < Ds.length := by omega
    have sl1 := sumW_all hw (j + 1)
    have es : sumW f.ds (j + 1) = sumW f.ds j + (f.ds.getD j emptySt).wait.length := rfl
    refine ⟨⟨by omega, by omega⟩, r0.get hjD fun a ea hc => ⟨_, (cell_add0 _ _).symm.trans (hc 0 _ rfl), ?_⟩⟩
    obtain ⟨col, p, _, _⟩ := h2.at pkD hjl
    have eD : Ds.getD j 0 = Ds[j] := by rw [List.getD_eq_getElem?_getD, List.getElem?_eq_getElem hjD]; rfl
    rw [eD] at p
    refine (c21 p).mono ?_
    rintro v w3 ⟨rfl, e⟩
    obtain rfl := e.symm
    exact ⟨_, rfl, (Kp.refl none_ _).keeps0, wr64 (by omega) (wr64 (by omega) ⟨⟨j + 1, by omega, by omega, by rw [es]; omega, rfl⟩, by first | omega | (dsimp only; omega)⟩)⟩
  · have ej : j = f.ds.length := by omega
    subst ej
    exact ⟨_, rfl, rfl, rfl⟩
end
end Go.Proofs.YtlgkcbdpaffigaaGreat

namespace Go.Proofs.YtlgkcbdpaffigaaGreat
open Go Go.SX Go.Proofs
set_option maxRecDepth 100000
set_option linter.unusedVariables false
set_option linter.unusedSimpArgs false
theorem look_at {l : List Ent} (h : NK l) {i : Nat} (hi : i < l.length) : lookE l l[i].1 = some l[i].2 := (lookE_nk h).2 (List.getElem_mem hi)
theorem has_at {l : List Ent} {i : Nat} (hi : i < l.length) : has Prod.fst l l[i].1 = true := by
  rw [has, List.any_eq_true]
  exact ⟨l[i], List.getElem_mem hi, by simp⟩
/-- All numbers that names stand for, or did, are disks'. -/
def Idk (f : Fst) : Prop := ∀ k i, idIn (lastE f.S (f.ws.take k)) i = true → 0 ≤ i ∧ i < f.ds.length
theorem Idk.last {f : Fst} (h : Idk f) {i : Int} (hi : idIn (lastE f.S f.ws) i = true) : 0 ≤ i ∧ i < f.ds.length := h f.ws.length i (by rw [List.take_length]; exact hi)
theorem z10 {w : World} {Op O Fq : Nat → Prop} {bp bm : Nat} {f : Fst} {H : List (List Ent)} (hp : FSD w Op bp f) (hm : FRW w O Fq bm f H) (o : Fok f) (hid : Idk f) (hw : ∀ s ∈ f.ds, s.wait.length ≤ 90000) : Rets Tryz.prog 10 #[ptA bp 0, ptA bm 0] w fun v w' => v = .bool true ∧ Kp none_ w w' := by
  refine ent [_, _] Tryz.func10 ((vcTryz10 _ _ w _).mpr ?_)
  unfold VCTryz10
  have hdl := o.dsl
  have hN := o.last.len
  refine (z29 hp o).mono ?_
  rintro v w1 ⟨q2, c2, rfl, rn, k1⟩
  have hp1 := hp.kp0 k1
  refine ⟨_, _, _, rfl, k1.keeps0, ?_⟩
  have hp1' := hp1
  obtain ⟨Dsx, Ofx, hp1x, _, _⟩ := hp1'
  refine (c51 hp1x).mono ?_
  rintro v w2 ⟨rfl, rfl⟩
  have k2 : Kp none_ w w1.drew := k1.drew
  have k12 : Kp none_ w1 w1.drew := (Kp.refl none_ w1).drew
  have hp2 := hp.kp0 k2
  have hm2 := hm.kp0 k2
  have rn2 := rn.kp0 k12
  refine ⟨_, _, rfl, k12.keeps0, ?_⟩
  generalize w1.drew = W at *
  obtain ⟨Ds, qd, cd, hlen, e0, r0, hd⟩ := hm2.row
  refine ⟨fun i n w' => ∃ j : Nat, i = j ∧ j ≤ f.ds.length ∧ n = sumW f.ds j ∧ w' = W, fun i _ _ => (f.ds.length - i).toNat, ⟨0, rfl, by omega, rfl, rfl⟩, ?_⟩
  rintro i n w3 ⟨j, rfl, hj, rfl, rfl⟩
  have sl := sumW_all hw j
  simp only [ptr_some, ad3, Nat.zero_add, Nat.add_zero]
  refine ⟨_, _, _, e0, bif_dec (fun hi => ?_) (fun hi => ?_)⟩
  · have hjl : j < f.ds.length := by omega
    have hjD : j < Ds.length := by omega
    have sl1 := sumW_all hw (j + 1)
    have es : sumW f.ds (j + 1) = sumW f.ds j + (f.ds.getD j emptySt).wait.length := rfl
    obtain ⟨col, p⟩ := hd hjl (Kp.refl _ _)
    have eD : Ds.getD j 0 = Ds[j] := by rw [List.getD_eq_getElem?_getD, List.getElem?_eq_getElem hjD]; rfl
    rw [eD] at p
    obtain ⟨qw, cw, ew⟩ := p.wait.len
    refine ⟨_, _, _, e0, ⟨by omega, by omega⟩, r0.get hjD fun a ea hc => ⟨_, (cell_add0 _ _).symm.trans (hc 0 _ rfl), ?_⟩⟩
    simp only [ptr_some, ad3, Nat.zero_add, Nat.add_zero]
    exact ⟨_, _, _, ew, wr64 (by omega) (wr64 (by omega) ⟨⟨j + 1, by omega, by omega, by rw [es]; omega, trivial⟩, by first | omega | (dsimp only; omega)⟩)⟩
  have ej : j = f.ds.length := by omega
  subst ej
  obtain ⟨Od, dir⟩ := hm2.dir
  obtain ⟨qn, cn, en, hq⟩ := dir.now
  have hqa : EAt w3 qn (lastE f.S f.ws) := hq.1
  obtain ⟨n3, n4, n5⟩ := hm2.nums
  refine ⟨_, _, _, en, bif_ne (fun hh => absurd rfl hh) fun _ => ⟨_, n4, bif_ne (fun hh => absurd rfl hh) fun _ => ⟨_, n5, bif_ne (fun hh => absurd rfl hh) fun _ => ?_⟩⟩⟩
  refine (c55 hp2 o).mono ?_
  rintro v w4 ⟨rfl, _, k4⟩
  refine ⟨_, rfl, k4.keeps0, (c101W (hm2.kp0 k4) o).mono ?_⟩
  rintro v w5 ⟨e, rfl, _⟩
  obtain rfl := e.symm
  refine ⟨_, rfl, (Kp.refl none_ _).keeps0, bif_ne (fun hh => absurd rfl hh) fun _ => (z14 (hp2.kp0 k4) o hw).mono ?_⟩
  rintro v w6 ⟨e, rfl⟩
  obtain rfl := e.symm
  refine ⟨_, rfl, (Kp.refl none_ _).keeps0, bif_ne (fun hh => absurd rfl hh) fun _ => ?_⟩
  refine ⟨fun i w' => ∃ j : Nat, i = j ∧ j ≤ (lastE f.S f.ws).length ∧ Kp none_ w3 w', fun i _ => ((lastE f.S f.ws).length - i).toNat, ⟨0, rfl, by omega, k4⟩, ?_⟩
  rintro i w7 ⟨j, rfl, hj, k7⟩
  refine bif_dec (fun hi => ?_) (fun hi => ⟨_, rfl, rfl, k2.trans k7⟩)
  have hjl : j < (lastE f.S f.ws).length := by omega
  have hjl' : j < ((lastE f.S f.ws).map Prod.fst).length := by simpa using hjl
  have rn7 := rn2.kp0 k7
  have hp7 := hp2.kp0 k7
  have hm7 := hm2.kp0 k7
  have ho : ∀ {P : Prop}, P → ((0 : Int) ≤ (j : Int) ∧ (j : Int) < (lastE f.S f.ws).length) ∧ P := fun h => ⟨⟨by omega, hi⟩, h⟩
  refine ho (rn7.get hjl' fun a ea hc => ⟨_, (cell_add0 _ _).symm.trans (hc 0 _ rfl), (c33F hp7 _).mono ?_⟩)
  rintro v w8 ⟨e, rfl⟩
  obtain rfl := e.symm
  rw [List.getElem_map, look_at (asc_nk o.last.asc) hjl, has_at hjl]
  have k8 : Kp none_ w3 w7.drew := k7.drew
  have k88 : Kp none_ w7 w7.drew := (Kp.refl none_ w7).drew
  have en8 := k8.cell0 en
  have rn8 := rn2.kp0 k8
  have hq8 := hqa.kp0 k8
  refine ⟨_, _, rfl, (Kp.refl none_ _).keeps0, ho (rn8.get hjl' fun a ea hc => ⟨_, (cell_add0 _ _).symm.trans (hc 0 _ rfl), _, _, _, en8, ho (hq8.get hjl fun a ea hc => ⟨_, hc 0 _ rfl, ?_⟩)⟩)⟩
  refine bif_not (fun hh => ?_) fun _ => bif_ne (fun hh => absurd rfl hh) fun _ => ⟨_, _, _, en8, ho (hq8.get hjl fun a ea hc => ⟨_, hc 1 _ rfl, bif_ne (fun hh => absurd rfl hh) fun _ => ?_⟩)⟩
  · rw [List.getElem_map] at hh
    simp at hh
  obtain ⟨hid0, hid1⟩ := hid.last (idIn_iff.2 ⟨_, List.getElem_mem hjl, rfl⟩)
  show Rets Tryz.prog 32 #[ptA bm 0, .int .i64 (lastE f.S f.ws)[j].2] w7.drew _
  obtain ⟨x, hx⟩ : ∃ x : Nat, (lastE f.S f.ws)[j].2 = x := ⟨(lastE f.S f.ws)[j].2.toNat, by omega⟩
  rw [hx] at hid0 hid1
  rw [hx]
  have hxl : x < f.ds.length := by omega
  have hxD : x < Ds.length := by omega
  have hp8 := hp2.kp0 k8
  have hm8 := hm2.kp0 k8
  refine (c100W hm8 x).mono ?_
  rintro v w9 ⟨e, rfl⟩
  obtain rfl := e.symm
  refine ⟨_, rfl, (Kp.refl none_ _).keeps0, bif_not (fun hh => absurd (of_decide_eq_false hh) (by omega)) fun _ => ?_⟩
  have e08 := k8.cell0 e0
  have r08 := r0.kp0 k8
  have eD : Ds.getD x 0 = Ds[x] := by rw [List.getD_eq_getElem?_getD, List.getElem?_eq_getElem hxD]; rfl
  have pd : ∀ {W : World}, Kp none_ w3 W → ∃ col, RDsk W col Ds[x] (f.ds.getD x emptySt) := fun kW => by
    have := hd hxl kW
    rw [eD] at this
    exact this
  generalize w7.drew = w8 at *
  obtain ⟨col8, p8⟩ := pd k8
  have sz := p8.ok.size
  obtain ⟨qn8, cn8, en8', _⟩ := p8.now
  simp only [Option.getD_some]
  refine ⟨_, _, _, e08, ⟨by omega, by omega⟩, r08.get hxD fun a ea hc => ⟨_, (cell_add0 _ _).symm.trans (hc 0 _ rfl), ?_⟩⟩
  simp only [ptr_some, ad3, Nat.zero_add, Nat.add_zero]
  refine ⟨_, _, _, en8', wr64 (by omega) ?_⟩
  have e512 : (512 : Int) * ((f.ds.getD x emptySt).size : Int) = ((512 * (f.ds.getD x emptySt).size : Nat) : Int) := by omega
  rw [e512]
  have hr : rightF 0 ((512 * (f.ds.getD x emptySt).size : Nat) : Int) = true := by unfold rightF; exact decide_eq_true (by omega)
  refine (c34F hp8 hxl 0 _ hr (by omega)).mono ?_
  rintro v w10 ⟨qr, cr, rfl, k10, rr⟩
  have rby : ∀ p, isByte (readF (f.ds.getD x emptySt) 0 p) := fun p => by
    unfold readF
    split
    · exact p8.ok.now _
    · unfold isByte; decide
  have rb := row_bytes rr rby
  refine ⟨_, _, _, _, rfl, k10.keeps0, bif_ne (fun hh => absurd rfl hh) fun _ => ?_⟩
  have k10d : Kp none_ w10 w10.drew := (Kp.refl none_ w10).drew
  have rbd : BytesAt w10.drew qr (SX.strOf (readF (f.ds.getD x emptySt) 0) 0 (512 * (f.ds.getD x emptySt).size)) := fun i hi => rb i hi
  have kd := (k8.trans k10).trans k10d
  generalize w10.drew = w10d at *
  obtain ⟨col10, p10⟩ := pd kd
  obtain ⟨qn10, cn10, en10, _⟩ := p10.now
  refine ⟨_, _, _, en10, (z34 (hp2.kp0 kd) hxl).mono ?_⟩
  rintro v w11 ⟨e, rfl⟩
  obtain rfl := e.symm
  refine ⟨_, rfl, (Kp.refl none_ _).keeps0, en10, bif_ne (fun hh => absurd rfl hh) fun _ => ?_⟩
  refine ⟨_, by rw [SX.strOf_size], rbd, _, _, _, en10, wr64 (by omega) ?_⟩
  rw [e512]
  refine (c61 p10 0 _ hr).mono ?_
  rintro v w12 ⟨q12, c12, rfl, k12', r12⟩
  have rb12 := row_bytes r12 rby
  refine ⟨_, _, _, rfl, k12'.keeps0, fun i hi => ?_, _, by rw [SX.strOf_size], rb12, bif_not (fun hh => ?_) fun _ => ?_⟩
  · obtain ⟨a, ea, hc⟩ := rbd i hi
    exact ⟨a, ea, k12'.cell0 hc⟩
  · simp at hh
  · exact wr64 (by omega) ⟨⟨j + 1, by omega, by omega, kd.trans k12'⟩, by first | omega | (dsimp only; omega)⟩
end Go.Proofs.YtlgkcbdpaffigaaGreat

namespace Go.Proofs.YtlgkcbdpaffigaaGreat
open Go Go.SX Go.Proofs
set_option maxRecDepth 100000
set_option linter.unusedVariables false
set_option linter.unusedSimpArgs false
theorem idk_snoc {S : List Ent} {ws : List Chg} {n m : Nat} {c : Chg} (h : ∀ k i, idIn (lastE S (ws.take k)) i = true → 0 ≤ i ∧ i < n) (wf : WfE (lastE S ws)) (hc : okC (lastE S ws) c) (hn : n ≤ m) (hi : c.fr = [] → 0 ≤ c.id ∧ c.id < m) : ∀ k i, idIn (lastE S ((ws ++ [c]).take k)) i = true → 0 ≤ i ∧ i < m := fun k i e => by
  by_cases hk : k ≤ ws.length
  · rw [List.take_append_of_le_length hk] at e
    have := h k i e
    omega
  · rw [List.take_of_length_le (by simp; omega), last_snoc] at e
    rcases id_do wf hc e with e | ⟨e1, e2⟩
    · have := h ws.length i (by rw [List.take_length]; exact e)
      omega
    · rw [← e2]
      exact hi e1
theorem Idk.eq {f g : Fst} (h : Idk f) (h1 : g.S = f.S) (h2 : g.ws = f.ws) (h3 : g.ds.length = f.ds.length) : Idk g := fun k i e => by
  rw [h1, h2] at e
  rw [h3]
  exact h k i e
theorem Idk.op {f : Fst} (h : Idk f) (o : Fok f) (x : Opz) (bf : Int → Int) (kb : Nat → Bool) (nl : List Int) : Idk (opF f x bf kb nl) := by
  unfold opF
  split
  · unfold mkF
    by_cases hE : newF f x.a = 0
    · rw [if_pos hE]
      unfold newF at hE
      split at hE
      · cases hE
      · split at hE
        · cases hE
        · exact fun k i e => idk_snoc (n := f.ds.length) (m := (f.ds ++ [emptySt]).length) h o.last (create_ok o.last hE f.ds.length).1 (by simp) (fun _ => by simp; omega) k i e
    · rw [if_neg hE]
      exact h.eq rfl rfl rfl
  · split
    · unfold wrF
      split
      · exact h.eq rfl rfl rfl
      · split
        · exact h.eq rfl rfl rfl
        · split
          · exact h.eq rfl rfl rfl
          · exact h.eq rfl rfl (by show (f.ds.set _ _).length = _; rw [List.length_set])
    · split
      · unfold syF
        split
        · exact h.eq rfl rfl rfl
        · split
          · exact h.eq rfl rfl rfl
          · exact h.eq rfl rfl (by show (f.ds.set _ _).length = _; rw [List.length_set])
      · split
        · unfold sdF
          split
          · exact h.eq rfl rfl rfl
          · intro k i e
            have e : idIn (lastE (lastE f.S f.ws) (([] : List Chg).take k)) i = true := e
            rw [List.take_nil] at e
            exact h.last e
        · split
          · unfold rnF
            split
            · exact h.eq rfl rfl rfl
            · by_cases hE : renameE (lastE f.S f.ws) x.a x.t = 0
              · rw [if_pos hE]
                have hc := (rename_ok o.last hE).1
                exact fun k i e => idk_snoc (n := f.ds.length) (m := f.ds.length) h o.last hc (Nat.le_refl _) (fun e0 => by
                  rcases hc with hc | hc
                  · exact absurd hc.2.2.2 (by
                      have hh := (rename_ok o.last hE).1
                      rcases hh with hh | hh
                      · have e0 : x.a = [] := e0
                        exact fun _ => by
                          unfold renameE at hE
                          rw [e0, o.last.no_empty] at hE
                          revert hE
                          split <;> simp
                      · have e0 : x.a = [] := e0
                        have hh : has Prod.fst (lastE f.S f.ws) x.a = true := hh.1
                        rw [e0, o.last.no_empty] at hh
                        cases hh)
                  · have e0 : x.a = [] := e0
                    have hc : has Prod.fst (lastE f.S f.ws) x.a = true := hc.1
                    rw [e0, o.last.no_empty] at hc
                    cases hc) k i e
              · rw [if_neg hE]
                exact h.eq rfl rfl rfl
          · split
            · unfold rmF
              split
              · exact h.eq rfl rfl rfl
              · by_cases hE : removeE (lastE f.S f.ws) x.a = 0
                · rw [if_pos hE]
                  have hc := (remove_ok hE).1
                  exact fun k i e => idk_snoc (n := f.ds.length) (m := f.ds.length) h o.last hc (Nat.le_refl _) (fun e0 => by
                    have e0 : x.a = [] := e0
                    unfold removeE at hE
                    rw [e0, o.last.no_empty] at hE
                    simp at hE) k i e
                · rw [if_neg hE]
                  exact h.eq rfl rfl rfl
            · split
              · intro k i e
                have e : idIn (lastE (lastE f.S (f.ws.take x.nm.toNat)) (([] : List Chg).take k)) i = true := e
                rw [List.take_nil] at e
                have := h _ i e
                show 0 ≤ i ∧ i < (crDs f.ds x.nk kb x.fill f.ds.length).length
                rw [crDs_len]
                exact this
              · exact h.eq rfl rfl rfl
theorem Idk.new (cap : Int) : Idk (newFst cap) := fun k i e => by
  have e : idIn (lastE [] (([] : List Chg).take k)) i = true := e
  rw [List.take_nil] at e
  cases e
/-! ### How much is used -/
theorem crDs_at (ds : List St) (n : Nat) (kb : Nat → Bool) (fill : Int) {i : Nat} : ∀ j, i < j → j ≤ ds.length → ∃ m k, (crDs ds n kb fill j).getD i emptySt = crashSt (ds.getD i emptySt) m k fill
  | 0, h, _ => by omega
  | j + 1, h, hj => by
    by_cases e : i = j
    · subst e
      refine ⟨min (ds.getD i emptySt).wait.length (n - tkN ds n i), fun j => kb (tkN ds n i + j), ?_⟩
      show ((crDs ds n kb fill i).set i (crashSt _ _ _ fill)).getD i emptySt = _
      rw [List.getD_eq_getElem?_getD, List.getElem?_set_self (by rw [crDs_len]; omega)]
      rfl
    · obtain ⟨m, k, hh⟩ := crDs_at ds n kb fill (i := i) j (by omega) (by omega)
      refine ⟨m, k, ?_⟩
      show ((crDs ds n kb fill j).set j _).getD i emptySt = _
      rw [List.getD_eq_getElem?_getD, List.getElem?_set_ne (fun h => e h.symm), ← List.getD_eq_getElem?_getD]
      exact hh
theorem used_le {f g : Fst} : ∀ n : Nat, (∀ j : Nat, j < n → lnk g j = true → lnk f j = true) → (∀ j : Nat, j < n → (g.ds.getD j emptySt).size ≤ (f.ds.getD j emptySt).size) → usedN g n ≤ usedN f n
  | 0, _, _ => Int.le_refl _
  | n + 1, h1, h2 => by
    have ih := used_le n (fun j hj => h1 j (by omega)) (fun j hj => h2 j (by omega))
    have a := h1 n (by omega)
    have b := h2 n (by omega)
    show usedN g n + (if lnk g n = true then ((g.ds.getD n emptySt).size : Int) else 0) ≤ usedN f n + (if lnk f n = true then ((f.ds.getD n emptySt).size : Int) else 0)
    by_cases c : lnk g n = true
    · rw [if_pos c, if_pos (a c)]
      omega
    · rw [if_neg c]
      split <;> omega
theorem used_set {f g : Fst} {i : Nat} {d : Int} (hd : 0 ≤ d) (hl : ∀ j : Int, lnk g j = lnk f j) (hi : ((g.ds.getD i emptySt).size : Int) ≤ (f.ds.getD i emptySt).size + d) (hs : ∀ j, j ≠ i → g.ds.getD j emptySt = f.ds.getD j emptySt) : ∀ n : Nat, usedN g n ≤ usedN f n + (if i < n then d else 0)
  | 0 => by
    show (0 : Int) ≤ 0 + _
    split <;> omega
  | n + 1 => by
    have ih := used_set hd hl hi hs n
    show usedN g n + (if lnk g n = true then ((g.ds.getD n emptySt).size : Int) else 0) ≤ usedN f n + (if lnk f n = true then ((f.ds.getD n emptySt).size : Int) else 0) + _
    rw [hl]
    by_cases e : n = i
    · subst e
      rw [if_neg (Nat.lt_irrefl n)] at ih
      have e1 : (if n < n + 1 then d else 0) = d := if_pos (by omega)
      rw [e1]
      split <;> omega
    · rw [hs n e]
      by_cases c : i < n
      · rw [if_pos c] at ih
        have e1 : (if i < n + 1 then d else 0) = d := if_pos (by omega)
        rw [e1]
        omega
      · rw [if_neg c] at ih
        have e1 : (if i < n + 1 then d else 0) = 0 := if_neg (by omega)
        rw [e1]
        omega
def Usd (f : Fst) : Prop := usedN f f.ds.length ≤ f.cap
theorem Usd.le {f g : Fst} (h : Usd f) (hn : g.ds.length = f.ds.length) (hc : g.cap = f.cap) (h1 : ∀ j : Nat, j < f.ds.length → lnk g j = true → lnk f j = true) (h2 : ∀ j : Nat, j < f.ds.length → (g.ds.getD j emptySt).size ≤ (f.ds.getD j emptySt).size) : Usd g := by
  unfold Usd
  rw [hn, hc]
  exact Int.le_trans (used_le _ h1 h2) h
theorem Usd.eq {f g : Fst} (h : Usd f) (h1 : g.S = f.S) (h2 : g.ws = f.ws) (h3 : g.ds = f.ds) (hc : g.cap = f.cap) : Usd g :=
  h.le (by rw [h3]) hc (fun j _ e => by unfold lnk at e ⊢; rw [h1, h2] at e; exact e) (fun j _ => by rw [h3]; exact Nat.le_refl _)
theorem lnk_snoc {f g : Fst} {c : Chg} {j : Int} (e : lnk g j = true) (h1 : g.S = f.S) (h2 : g.ws = f.ws ++ [c]) (wf : WfE (lastE f.S f.ws)) (hc : okC (lastE f.S f.ws) c) : lnk f j = true ∨ (c.fr = [] ∧ c.id = j) := by
  unfold lnk at e ⊢
  rw [h1, h2, last_snoc] at e
  have em : made (f.ws ++ [c]) j = (made f.ws j || (c.fr == [] && c.id == j)) := by
    unfold made
    rw [List.any_append]
    simp
  rw [em] at e
  simp only [Bool.or_eq_true, Bool.and_eq_true, beq_iff_eq] at e ⊢
  rcases e with (e | e) | e | e
  · exact .inl (.inl e)
  · exact .inr e
  · rcases id_do wf hc e with e | e
    · exact .inl (.inr (.inl e))
    · exact .inr e
  · exact .inl (.inr (.inr e))
theorem Usd.op {f : Fst} (h : Usd f) (o : Fok f) (x : Opz) (bf : Int → Int) (kb : Nat → Bool) (nl : List Int) : Usd (opF f x bf kb nl) := by
  unfold opF
  split
  · unfold mkF
    by_cases hE : newF f x.a = 0
    · rw [if_pos hE]
      unfold newF at hE
      split at hE
      · cases hE
      · split at hE
        · cases hE
        · have hc := (create_ok o.last hE f.ds.length).1
          unfold Usd
          show usedN _ (f.ds ++ [emptySt]).length ≤ f.cap
          rw [List.length_append]
          show usedN _ f.ds.length + (if lnk _ _ = true then (((f.ds ++ [emptySt]).getD f.ds.length emptySt).size : Int) else 0) ≤ f.cap
          have e0 : (f.ds ++ [emptySt]).getD f.ds.length emptySt = emptySt := by
            rw [List.getD_eq_getElem?_getD, List.getElem?_append_right (Nat.le_refl _), Nat.sub_self]
            rfl
          rw [e0]
          have ez : ((emptySt.size : Nat) : Int) = 0 := rfl
          have := used_le (f := f) (g := { cnt f with ds := f.ds ++ [emptySt], ws := f.ws ++ [⟨[], x.a, f.ds.length⟩] }) f.ds.length (fun j hj e => by
            rcases lnk_snoc (f := f) e rfl rfl o.last hc with e | ⟨_, e⟩
            · exact e
            · have e : (f.ds.length : Int) = j := e
              omega) (fun j hj => by
            show ((f.ds ++ [emptySt]).getD j emptySt).size ≤ _
            rw [List.getD_eq_getElem?_getD, List.getElem?_append_left hj, ← List.getD_eq_getElem?_getD]
            exact Nat.le_refl _)
          unfold Usd at h
          split <;> omega
    · rw [if_neg hE]
      exact h.eq rfl rfl rfl rfl
  · split
    · unfold wrF
      split
      · exact h.eq rfl rfl rfl rfl
      · split
        · exact h.eq rfl rfl rfl rfl
        · rename_i hidx
          split
          · exact h.eq rfl rfl rfl rfl
          · rename_i hsz
            have hi : x.id.toNat < f.ds.length := by omega
            by_cases hn : rightF x.at_ x.nb = true ∧ x.nb ≠ 0
            · rw [if_pos hn]
              have hr := of_decide_eq_true hn.1
              unfold Usd at h ⊢
              have hd : ((writeSt (f.ds.getD x.id.toNat emptySt) x.at_ x.nb bf).size : Int) = needF (f.ds.getD x.id.toNat emptySt) x.at_ x.nb := by
                rw [write_size]
                unfold needF hiF
                rw [if_neg (by have := hn.2; omega)]
                omega
              have hge : ((f.ds.getD x.id.toNat emptySt).size : Int) ≤ needF (f.ds.getD x.id.toNat emptySt) x.at_ x.nb := by rw [← hd, write_size]; omega
              have := used_set (f := f) (g := { cnt f with ds := f.ds.set x.id.toNat (writeSt (f.ds.getD x.id.toNat emptySt) x.at_ x.nb bf) }) (i := x.id.toNat) (d := needF (f.ds.getD x.id.toNat emptySt) x.at_ x.nb - (f.ds.getD x.id.toNat emptySt).size) (by omega) (fun j => rfl) (by
                show (((f.ds.set _ _).getD x.id.toNat emptySt).size : Int) ≤ _
                have e : (f.ds.set x.id.toNat (writeSt (f.ds.getD x.id.toNat emptySt) x.at_ x.nb bf)).getD x.id.toNat emptySt = writeSt (f.ds.getD x.id.toNat emptySt) x.at_ x.nb bf := by
                  rw [List.getD_eq_getElem?_getD, List.getElem?_set_self hi]
                  rfl
                rw [e, hd]
                omega) (fun j hj => by
                show (f.ds.set _ _).getD j emptySt = _
                rw [List.getD_eq_getElem?_getD, List.getElem?_set_ne (fun h => hj h.symm), ← List.getD_eq_getElem?_getD]) f.ds.length
              rw [if_pos hi] at this
              show usedN _ (f.ds.set _ _).length ≤ f.cap
              rw [List.length_set]
              exact Int.le_trans this (by omega)
            · rw [if_neg hn]
              refine h.le (by show (f.ds.set _ _).length = _; rw [List.length_set]) rfl (fun j _ e => e) (fun j hj => ?_)
              show ((f.ds.set _ _).getD j emptySt).size ≤ _
              by_cases e : j = x.id.toNat
              · subst e
                rw [List.getD_eq_getElem?_getD (l := f.ds.set _ _), List.getElem?_set_self hi]
                exact Nat.le_refl _
              · rw [List.getD_eq_getElem?_getD (l := f.ds.set _ _), List.getElem?_set_ne (fun h => e h.symm), ← List.getD_eq_getElem?_getD]
                exact Nat.le_refl _
    · split
      · unfold syF
        split
        · exact h.eq rfl rfl rfl rfl
        · split
          · exact h.eq rfl rfl rfl rfl
          · refine h.le (by show (f.ds.set _ _).length = _; rw [List.length_set]) rfl (fun j _ e => e) (fun j hj => ?_)
            have hi : x.id.toNat < f.ds.length := by omega
            show ((f.ds.set _ _).getD j emptySt).size ≤ _
            by_cases e : j = x.id.toNat
            · subst e
              rw [List.getD_eq_getElem?_getD (l := f.ds.set _ _), List.getElem?_set_self hi]
              exact Nat.le_refl _
            · rw [List.getD_eq_getElem?_getD (l := f.ds.set _ _), List.getElem?_set_ne (fun h => e h.symm), ← List.getD_eq_getElem?_getD]
              exact Nat.le_refl _
      · split
        · unfold sdF
          split
          · exact h.eq rfl rfl rfl rfl
          · refine h.le rfl rfl (fun j _ e => ?_) (fun j _ => Nat.le_refl _)
            have e : (made [] j || (idIn (lastE (lastE f.S f.ws) []) j || idIn (lastE f.S f.ws) j)) = true := e
            have e : idIn (lastE f.S f.ws) j = true := by
              simp only [Bool.or_eq_true] at e
              rcases e with e | e | e
              · cases e
              · exact e
              · exact e
            unfold lnk
            rw [e]
            simp
        · split
          · unfold rnF
            split
            · exact h.eq rfl rfl rfl rfl
            · by_cases hE : renameE (lastE f.S f.ws) x.a x.t = 0
              · rw [if_pos hE]
                have hc := (rename_ok o.last hE).1
                refine h.le rfl rfl (fun j _ e => ?_) (fun j _ => Nat.le_refl _)
                rcases lnk_snoc (f := f) e rfl rfl o.last hc with e | ⟨e, _⟩
                · exact e
                · exfalso
                  have e : x.a = [] := e
                  unfold renameE at hE
                  rw [e, o.last.no_empty] at hE
                  revert hE
                  split <;> simp
              · rw [if_neg hE]
                exact h.eq rfl rfl rfl rfl
          · split
            · unfold rmF
              split
              · exact h.eq rfl rfl rfl rfl
              · by_cases hE : removeE (lastE f.S f.ws) x.a = 0
                · rw [if_pos hE]
                  have hc := (remove_ok hE).1
                  refine h.le rfl rfl (fun j _ e => ?_) (fun j _ => Nat.le_refl _)
                  rcases lnk_snoc (f := f) e rfl rfl o.last hc with e | ⟨e, _⟩
                  · exact e
                  · exfalso
                    have e : x.a = [] := e
                    unfold removeE at hE
                    rw [e, o.last.no_empty] at hE
                    simp at hE
                · rw [if_neg hE]
                  exact h.eq rfl rfl rfl rfl
            · split
              · refine h.le (crDs_len _ _ _ _ _) rfl (fun j _ e => ?_) (fun j hj => ?_)
                · have e : (made [] j || (idIn (lastE (lastE f.S (f.ws.take x.nm.toNat)) []) j || idIn (lastE f.S (f.ws.take x.nm.toNat)) j)) = true := e
                  have e : idIn (lastE f.S (f.ws.take x.nm.toNat)) j = true := by
                    simp only [Bool.or_eq_true] at e
                    rcases e with e | e | e
                    · cases e
                    · exact e
                    · exact e
                  show lnk f j = true
                  have hl := linked_eq o.wf o.ok j
                  have hl : ((sts f.S f.ws).any fun l => idIn l j) = lnk f j := hl
                  rw [← hl, List.any_eq_true]
                  have hg := sts_get f.S f.ws (min x.nm.toNat f.ws.length) (by omega)
                  have et : f.ws.take (min x.nm.toNat f.ws.length) = f.ws.take x.nm.toNat := by
                    rw [List.take_eq_take_iff]
                    omega
                  rw [et] at hg
                  exact ⟨_, List.mem_of_getElem? hg, e⟩
                · obtain ⟨m, k, e⟩ := crDs_at f.ds x.nk kb x.fill (i := j) f.ds.length hj (Nat.le_refl _)
                  show ((crDs f.ds x.nk kb x.fill f.ds.length).getD j emptySt).size ≤ _
                  rw [e, crash_size]
                  exact Nat.le_refl _
              · exact h.eq rfl rfl rfl rfl
theorem Usd.new (cap : Int) : Usd (newFst cap) := (cap_range cap).1
theorem Fb.newc (cap : Int) : Fb (newFst cap) 0 := ⟨newFst_ok cap, Int.le_refl _, Int.le_refl _, Nat.le_refl _, Nat.le_refl _, fun s hs => by cases hs⟩
end Go.Proofs.YtlgkcbdpaffigaaGreat

namespace Go.Proofs.YtlgkcbdpaffigaaGreat
open Go Go.SX Go.Proofs
set_option maxRecDepth 100000
set_option linter.unusedVariables false
set_option linter.unusedSimpArgs false
theorem endz {w0 w1 : World} {bs : List Nat} (hb : ∀ b ∈ bs, b < w1.heap.size) (k : Kp (fun i => w0.heap.size ≤ i) w0 w1) {P : World → Prop} : Rets Tryz.prog 6 #[] w1 fun v w' => ∃ t, v = .bool t ∧ Keeps w1 w' bs ∧ (P w' → ∃ v', Ending.returned (.bool t) = Ending.returned v' ∧ v' = .bool true ∧ Kp none_ w0 w') := by
  refine (c23 w1).mono ?_
  rintro v w2 ⟨rfl, k2⟩
  exact ⟨_, rfl, k2.keeps fun b hm => ⟨hb b hm, id⟩, fun _ => ⟨_, rfl, rfl, (k.trans k2.wide).narrow (Nat.le_refl _)⟩⟩
/-- Two new file systems. -/
theorem dbl_new {E : Nat} {w1 w2 w3 : World} {Q : Nat → Prop} {cap : Int} (d2 : FSD w2 (fun i => w1.heap.size ≤ i) w1.heap.size (newFst cap)) (r3 : FRD E w3 (fun i => w2.heap.size ≤ i) w2.heap.size (newFst cap) []) (k2 : Kp none_ w1 w2) (k3 : Kp none_ w2 w3) (hE : E ≤ w1.heap.size) (hQ : ∀ i, w1.heap.size ≤ i → Q i) : Dbl E w3 Q w1.heap.size w2.heap.size (newFst cap) := by
  have z2 := k2.size
  have z3 := k3.size
  refine ⟨fun i => w1.heap.size ≤ i ∧ i < w2.heap.size, fun i => w2.heap.size ≤ i ∧ i < w3.heap.size, [], d2.kp k3 fun x hl hx => ⟨id, hx, hl⟩, r3.kp (Kp.refl none_ _) (fun i hi => hi.elim) (fun i hil hi => ⟨id, hi, hil⟩) (fun i hi => by have := hi.1; omega), fun i hi hh => by have := hi.2; have := hh.1; omega, fun i hi => ?_, fun i hi => by have := hi.1; omega⟩
  rcases hi with ⟨hi, hh⟩ | ⟨hi, hh⟩ <;> exact ⟨hQ i (by omega), by omega⟩
theorem op_row {w W : World} {q : Option Addr} {l : List Opz} (h : RowsAt w 10 opzC q l) {S : Nat → Prop} (k : Kp S w W) (hS : ∀ i, S i → w.heap.size ≤ i) : RowsAt W 10 opzC q l := h.kp k fun h0 a e hh => by
  obtain ⟨a', e', hc⟩ := h 0 h0
  rw [e] at e'
  cases e'
  have := cell_lt (hc 0 _ rfl)
  rw [add_block, add_block] at this
  have := hS _ hh
  omega
end Go.Proofs.YtlgkcbdpaffigaaGreat

namespace Go.Proofs.YtlgkcbdpaffigaaGreat
open Go Go.SX Go.Proofs
set_option maxRecDepth 100000
set_option linter.unusedVariables false
set_option linter.unusedSimpArgs false
section
variable {w w' : World} {O Fq : Nat → Prop} {b : Nat} {H : List (List Ent)} {f : Fst}
theorem rf17 (h : FRW w O Fq b f H) (o : Fok f) (he : refE f.rl f.k = 10) (a : List UInt8) : Rets Tryz.prog 17 #[ptA b 0, .string (ba a)] w fun v w' => v = .tuple #[.int .i64 0, .int .i64 10] ∧ FRW w' O Fq b (cnt f) H ∧ Kp (one_ b) w w' := by
  refine ent [_, _] Tryz.func17 ((vcTryz17 _ _ w _).mpr ?_)
  unfold VCTryz17
  refine (c99W h o).mono ?_
  rintro v w1 ⟨rfl, h1, k1⟩
  rw [he]
  exact ⟨_, rfl, k1.keeps0, bif_not (fun _ => ⟨_, rfl, rfl, h1, k1⟩) (fun hh => by cases hh)⟩
theorem rf18 (h : FRW w O Fq b f H) (o : Fok f) (he : refE f.rl f.k = 10) (i at_ : Int) (q : Option Addr) (n c : Nat) : Rets Tryz.prog 18 #[ptA b 0, .int .i64 i, .int .i64 at_, .slice q n c] w fun v w' => v = .int .i64 10 ∧ FRW w' O Fq b (cnt f) H ∧ Kp (one_ b) w w' := by
  refine ent [_, _, _, _] Tryz.func18 ((vcTryz18 _ _ _ _ _ _ w _).mpr ?_)
  unfold VCTryz18
  refine (c99W h o).mono ?_
  rintro v w1 ⟨rfl, h1, k1⟩
  rw [he]
  exact ⟨_, rfl, k1.keeps0, bif_not (fun _ => ⟨_, rfl, rfl, h1, k1⟩) (fun hh => by cases hh)⟩
theorem rf20 (h : FRW w O Fq b f H) (o : Fok f) (he : refE f.rl f.k = 10) (i : Int) : Rets Tryz.prog 20 #[ptA b 0, .int .i64 i] w fun v w' => v = .int .i64 10 ∧ FRW w' O Fq b (cnt f) H ∧ Kp (one_ b) w w' := by
  refine ent [_, _] Tryz.func20 ((vcTryz20 _ _ w _).mpr ?_)
  unfold VCTryz20
  refine (c99W h o).mono ?_
  rintro v w1 ⟨rfl, h1, k1⟩
  rw [he]
  exact ⟨_, rfl, k1.keeps0, bif_not (fun _ => ⟨_, rfl, rfl, h1, k1⟩) (fun hh => by cases hh)⟩
theorem rf22 (h : FRW w O Fq b f H) (o : Fok f) (he : refE f.rl f.k = 10) : Rets Tryz.prog 22 #[ptA b 0] w fun v w' => v = .int .i64 10 ∧ FRW w' O Fq b (cnt f) H ∧ Kp (one_ b) w w' := by
  refine ent [_] Tryz.func22 ((vcTryz22 _ w _).mpr ?_)
  unfold VCTryz22
  refine (c99W h o).mono ?_
  rintro v w1 ⟨rfl, h1, k1⟩
  rw [he]
  exact ⟨_, rfl, k1.keeps0, bif_not (fun _ => ⟨_, rfl, rfl, h1, k1⟩) (fun hh => by cases hh)⟩
theorem rf24 (h : FRW w O Fq b f H) (o : Fok f) (he : refE f.rl f.k = 10) (a t : List UInt8) : Rets Tryz.prog 24 #[ptA b 0, .string (ba a), .string (ba t)] w fun v w' => v = .int .i64 10 ∧ FRW w' O Fq b (cnt f) H ∧ Kp (one_ b) w w' := by
  refine ent [_, _, _] Tryz.func24 ((vcTryz24 _ _ _ w _).mpr ?_)
  unfold VCTryz24
  refine (c99W h o).mono ?_
  rintro v w1 ⟨rfl, h1, k1⟩
  rw [he]
  exact ⟨_, rfl, k1.keeps0, bif_not (fun _ => ⟨_, rfl, rfl, h1, k1⟩) (fun hh => by cases hh)⟩
theorem rf26 (h : FRW w O Fq b f H) (o : Fok f) (he : refE f.rl f.k = 10) (a : List UInt8) : Rets Tryz.prog 26 #[ptA b 0, .string (ba a)] w fun v w' => v = .int .i64 10 ∧ FRW w' O Fq b (cnt f) H ∧ Kp (one_ b) w w' := by
  refine ent [_, _] Tryz.func26 ((vcTryz26 _ _ w _).mpr ?_)
  unfold VCTryz26
  refine (c99W h o).mono ?_
  rintro v w1 ⟨rfl, h1, k1⟩
  rw [he]
  exact ⟨_, rfl, k1.keeps0, bif_not (fun _ => ⟨_, rfl, rfl, h1, k1⟩) (fun hh => by cases hh)⟩
/-- What is refused is set anew, anywhere. -/
theorem FRW.setRl {E : Nat} (h : FRD E w O b f H) {q : Option Addr} {c : Nat} {nl : List Int} (hn : RowsAt w 1 intC q nl) (hq : 0 < nl.length → ∀ a, q = some a → Fq a.block) (hO : ∀ x, O x → ¬ Fq x) : (∃ v, w.cell? ⟨b, 6, none⟩ = some v) ∧ w.frozen? ⟨b, 6, none⟩ = false ∧ FRW (w.setCell ⟨b, 6, none⟩ (.slice q nl.length c)) O Fq b { f with rl := nl } H ∧ Kp (one_ b) w (w.setCell ⟨b, 6, none⟩ (.slice q nl.length c)) := by
  have lb := h.lt
  obtain ⟨Ds', Of', ⟨dv, own, Od', rq, rc, x1, x2, x3, x4, x5, x6, x7, x8, x9⟩, y2, y3, y4, y5⟩ := h
  have kk : Kp (one_ b) w (w.setCell ⟨b, 6, none⟩ (.slice q nl.length c)) := kp_set _ _ _ _
  have nb : Nb b 3 4 w (w.setCell ⟨b, 6, none⟩ (.slice q nl.length c)) := Nb.set w (b := b) (o := 3) (i := 3) (by omega) _
  have cc := x3.set 3 (.slice q nl.length c)
  exact ⟨(x3.slot 3 (by simp)).1, (x3.slot 3 (by simp)).2, ⟨Ds', Of', ⟨dv, own, Od', q, c, x1.nb kk nb (.inl (by simp)), x2.nb kk nb (.inl (by omega)), cc, x4.kp kk (fun g n cap _ hg e => by have e : g = b := e; rw [e] at hg; exact (x7 b hg).2 x2.lt.2), hn.kp kk (fun h0 a e hh => by have hh : a.block = b := hh; exact hO b lb.2 (hh ▸ hq h0 a e)), hq, x7, x8⟩, y2.kp pkR kk fun x hl hx => ⟨fun e => hx.2 (by have e : x = b := e; rw [e]; exact x8 _ x2.lt.2), hx⟩, y3, hO, y5⟩, kk⟩
end
/-- A call of both that is refused. -/
theorem does_ref {w : World} {Op Om Fq : Nat → Prop} {bp bm : Nat} {f : Fst} {H : List (List Ent)} (hp : FSD w Op bp f) (hm : FRW w Om Fq bm f H) (o : Fok f) (hk : f.k < 100000) (hr : f.r < 100000) (hw : ∀ s ∈ f.ds, s.wait.length ≤ 90000) (he : refE f.rl f.k = 10) (pl : ∀ i, Op i → i < w.heap.size) (dis : ∀ i, Op i → ¬ Om i) (fq : ∀ i, Fq i → ¬ Op i) (fm : ∀ i, Om i → ¬ Fq i) (x : Opz) (hx : 0 ≤ x.k ∧ x.k ≤ 5) {bf : Int → Int} (gb : Ints w .u8 x.qb x.nb bf) (gby : ∀ i : Int, 0 ≤ i → i < x.nb → isByte (bf i)) (nqb : 0 < x.nb → ∀ a, x.qb = some a → ¬ Op a.block) :
    Rets Tryz.prog 9 #[ptA bp 0, ptA bm 0, .agg (opzC x).toArray] w fun v w' =>
    v = .bool true ∧ FSD w' (fun i => Op i ∨ w.heap.size ≤ i) bp (cnt f) ∧ FRW w' Om Fq bm (cnt f) H ∧ Kp (fun i => Op i ∨ i = bm) w w' := by
  obtain ⟨xk, xid, xat, xa, xt, qb, nb, cb, qk, nk, ck, nm, fill, qn, nn, cn⟩ := x
  dsimp only at *
  refine ent [_, _, _] Tryz.func9 ((vcTryz9 _ _ xk xid xat (ba xa) (ba xt) qb nb cb qk nk ck nm fill qn nn cn w _).mpr ?_)
  unfold VCTryz9
  obtain ⟨ka, za, Ba⟩ := alloc_k3 w #[.int .i64 xk, .int .i64 xid, .int .i64 xat, .string (ba xa), .string (ba xt), .slice qb nb cb, .slice qk nk ck, .int .i64 nm, .int .u8 fill, .slice qn nn cn] 36
  generalize w.alloc (.cells #[.int .i64 xk, .int .i64 xid, .int .i64 xat, .string (ba xa), .string (ba xt), .slice qb nb cb, .slice qk nk ck, .int .i64 nm, .int .u8 fill, .slice qn nn cn] 36) = W at *
  have lbm := hm.lt
  have kd : Kp none_ w W.drew := ka.drew
  have keepD : ∀ {w1 : World}, Kp Op W w1 → Keeps W w1 [w.heap.size] := fun k => k.keeps fun i hi => by
    rw [List.mem_singleton] at hi
    subst hi
    exact ⟨by omega, fun hh => by have := pl _ hh; omega⟩
  have keepM : ∀ {w1 w2 : World}, Kp Op W w1 → Kp (one_ bm) w1 w2 → Keeps w1 w2 [w.heap.size] := fun k0 k => k.keeps fun i hi => by
    have := k0.size
    rw [List.mem_singleton] at hi
    subst hi
    exact ⟨by omega, fun hh => by have hh : w.heap.size = bm := hh; omega⟩
  have cell : ∀ {w1 : World} (j : Nat) (v : Value), Kp Op W w1 → ([.int .i64 xk, .int .i64 xid, .int .i64 xat, .string (ba xa), .string (ba xt), .slice qb nb cb, .slice qk nk ck, .int .i64 nm, .int .u8 fill, .slice qn nn cn] : List Value)[j]? = some v → w1.cell? ⟨w.heap.size, j, none⟩ = some v := fun j v k hv => k.cell (by rw [Ba.cell]; exact hv) (fun hh => by have hh : Op w.heap.size := hh; have := pl _ hh; omega)
  have Rk : ∀ {w1 : World}, Kp Op W w1 → FRW w1 Om Fq bm f H := fun k => (hm.kp0 ka).kp k (fun i hi => fq i hi) (fun i _ hi => ⟨fun ho => dis i ho hi, hi⟩) fm
  have fin : ∀ {w1 w2 : World}, FSD w1 (fun i => Op i ∨ W.heap.size ≤ i) bp (cnt f) → Kp Op W w1 → FRW w2 Om Fq bm (cnt f) H → Kp (one_ bm) w1 w2 → FSD w2 (fun i => Op i ∨ w.heap.size ≤ i) bp (cnt f) ∧ FRW w2 Om Fq bm (cnt f) H ∧ Kp (fun i => Op i ∨ i = bm) w w2 := fun {w1 w2} d1 k1 r2 k2 =>
    ⟨d1.kp k2 fun i hil hi => ⟨fun e => by
      have e : i = bm := e
      subst e
      rcases hi with hi | hi
      · exact dis _ hi lbm.2
      · omega, by rcases hi with hi | hi; exact .inl hi; exact .inr (by omega)⟩, r2, (ka.wide.trans (k1.mono fun i _ hi => .inl hi)).trans (k2.mono fun i _ hi => .inr hi)⟩
  have ofd : ∀ {w1 : World}, Kp Op W.drew w1 → Kp Op W w1 := fun k => Kp.of_drew k
  have keepE : ∀ {w1 : World}, Kp Op W w1 → Keeps W.drew w1 [w.heap.size] := fun k => keepD k
  have hpW := hp.kp0 ka
  have hpD := hp.kp0 kd
  have plW : ∀ i, Op i → i < W.heap.size := fun i hi => by have := pl i hi; omega
  have he' : refE f.rl f.k ≠ 0 := by rw [he]; decide
  have e0 : newF f xa = 10 := by unfold newF; rw [if_pos he']
  have e0' : mkF f xa = cnt f := by unfold mkF; rw [if_neg (by rw [e0]; decide)]
  have e1 : wrF f xid xat nb bf = (10, cnt f) := by unfold wrF; rw [if_pos he']
  have e2 : syF f xid = (10, cnt f) := by unfold syF; rw [if_pos he']
  have e3 : sdF f = (10, cnt f) := by unfold sdF; rw [if_pos he']
  have e4 : rnF f xa xt = (10, cnt f) := by unfold rnF; rw [if_pos he']
  have e5 : rmF f xa = (10, cnt f) := by unfold rmF; rw [if_pos he']
  refine bif_eq (fun hx0 _ => ?_) (fun hx0 => bif_eq (fun hx1 _ => ?_) (fun hx1 => bif_eq (fun hx2 _ => ?_) (fun hx2 => bif_eq (fun hx3 _ => ?_) (fun hx3 => bif_eq (fun hx4 _ => ?_) (fun hx4 => bif_eq (fun hx5 _ => ?_) (fun hx5 => by exfalso; omega))))))
  · refine (c28F hpW o plW xa).mono ?_
    rintro v w1 ⟨rfl, d1, k1⟩
    rw [e0'] at d1
    refine ⟨_, _, rfl, keepD k1, fun _ => (rf17 (Rk k1) o he xa).mono ?_⟩
    rintro v w2 ⟨rfl, r2, k2⟩
    rw [e0]
    refine ⟨_, _, rfl, keepM k1 k2, bif_eq (fun _ _ => ⟨_, rfl, by simp, fin d1 k1 r2 k2⟩) (fun hh => absurd rfl hh)⟩
  · refine (c29 hpD o hk hr plW (gb.kp kd fun _ _ _ => id) gby nqb xid xat hw).mono ?_
    rintro v w1 ⟨rfl, d1, kx⟩
    have k1 := ofd kx
    rw [e1] at d1 ⊢
    refine ⟨_, rfl, keepE k1, cell 5 _ k1 rfl, cell 2 _ k1 rfl, cell 1 _ k1 rfl, fun _ => (rf18 (Rk k1) o he xid xat qb nb cb).mono ?_⟩
    rintro v w2 ⟨rfl, r2, k2⟩
    exact ⟨_, rfl, keepM k1 k2, fun _ => ⟨_, rfl, by simp, fin d1 k1 r2 k2⟩⟩
  · refine (c30 hpD o xid).mono ?_
    rintro v w1 ⟨rfl, d1, kx⟩
    have k1 := ofd kx
    rw [e2] at d1 ⊢
    refine ⟨_, rfl, keepE k1, cell 1 _ k1 rfl, fun _ => (rf20 (Rk k1) o he xid).mono ?_⟩
    rintro v w2 ⟨rfl, r2, k2⟩
    exact ⟨_, rfl, keepM k1 k2, fun _ => ⟨_, rfl, by simp, fin d1 k1 r2 k2⟩⟩
  · refine (c31 hpW o plW).mono ?_
    rintro v w1 ⟨rfl, d1, k1⟩
    rw [e3] at d1 ⊢
    refine ⟨_, rfl, keepD k1, fun _ => (rf22 (Rk k1) o he).mono ?_⟩
    rintro v w2 ⟨rfl, r2, k2⟩
    exact ⟨_, rfl, keepM k1 k2, fun _ => ⟨_, rfl, by simp, fin d1 k1 r2 k2⟩⟩
  · refine (c52 hpD o plW xa xt).mono ?_
    rintro v w1 ⟨rfl, d1, kx⟩
    have k1 := ofd kx
    rw [e4] at d1 ⊢
    refine ⟨_, rfl, keepE k1, cell 4 _ k1 rfl, cell 3 _ k1 rfl, fun _ => (rf24 (Rk k1) o he xa xt).mono ?_⟩
    rintro v w2 ⟨rfl, r2, k2⟩
    exact ⟨_, rfl, keepM k1 k2, fun _ => ⟨_, rfl, by simp, fin d1 k1 r2 k2⟩⟩
  · refine (c53 hpD o plW xa).mono ?_
    rintro v w1 ⟨rfl, d1, kx⟩
    have k1 := ofd kx
    rw [e5] at d1 ⊢
    refine ⟨_, rfl, keepE k1, cell 3 _ k1 rfl, fun _ => (rf26 (Rk k1) o he xa).mono ?_⟩
    rintro v w2 ⟨rfl, r2, k2⟩
    exact ⟨_, rfl, keepM k1 k2, fun _ => ⟨_, rfl, by simp, fin d1 k1 r2 k2⟩⟩
end Go.Proofs.YtlgkcbdpaffigaaGreat

namespace Go.Proofs.YtlgkcbdpaffigaaGreat
open Go Go.SX Go.Proofs
set_option maxRecDepth 100000
set_option linter.unusedVariables false
set_option linter.unusedSimpArgs false
theorem refuses4 {w : World} (cap : Int) {q : Option Addr} {c : Nat} {l : List Opz} (h : RowsAt w 10 opzC q l) (hl : ∀ x ∈ l, OpzRaw w x) (x : Opz) (hx : OpzRaw w x) : Rets Tryz.prog 4 #[.int .i64 cap, .slice q l.length c, .agg (opzC x).toArray] w fun v w' => v = .bool true ∧ Kp none_ w w' := by
  have hxr := hx
  obtain ⟨xk, xid, xat, xa, xt, qb, nb, cb, qk, nk, ck, nm, fill, qn, nn, cn⟩ := x
  refine ent [_, _, _] Tryz.func4 ((vcTryz4 cap q l.length c xk xid xat (ba xa) (ba xt) qb nb cb qk nk ck nm fill qn nn cn w _).mpr ?_)
  unfold VCTryz4
  obtain ⟨ka, za, Ba⟩ := alloc_k3 w #[.int .i64 xk, .int .i64 xid, .int .i64 xat, .string (ba xa), .string (ba xt), .slice qb nb cb, .slice qk nk ck, .int .i64 nm, .int .u8 fill, .slice qn nn cn] 36
  generalize w.alloc (.cells #[.int .i64 xk, .int .i64 xid, .int .i64 xat, .string (ba xa), .string (ba xt), .slice qb nb cb, .slice qk nk ck, .int .i64 nm, .int .u8 fill, .slice qn nn cn] 36) = W at *
  intro _
  refine (c22 (h.kp0 ka)).mono ?_
  rintro v w1 ⟨e, t, rfl, ht⟩
  obtain rfl := e.symm
  have b1 : ∀ {w1 : World}, w.heap.size < w1.heap.size → ∀ b ∈ [w.heap.size], b < w1.heap.size := fun hh b hb => by simp at hb; omega
  have K0 : Kp (fun i => w.heap.size ≤ i) w W := ka.wide
  refine ⟨_, rfl, (Kp.refl none_ _).keeps (fun b hb => ⟨b1 (by omega) b hb, id⟩), bif_b (fun _ _ => endz (b1 (by omega)) K0) (fun htf => ?_)⟩
  obtain ⟨hlen, hsm⟩ := ht htf
  obtain ⟨kb, zb, Bb⟩ := alloc_k3 W #[.int .i64 xk, .int .i64 xid, .int .i64 xat, .string (ba xa), .string (ba xt), .slice qb nb cb, .slice qk nk ck, .int .i64 nm, .int .u8 fill, .slice qn nn cn] 36
  generalize W.alloc (.cells #[.int .i64 xk, .int .i64 xid, .int .i64 xat, .string (ba xa), .string (ba xt), .slice qb nb cb, .slice qk nk ck, .int .i64 nm, .int .u8 fill, .slice qn nn cn] 36) = W2 at *
  have row1 : RowsAt W2 10 opzC (some ⟨W.heap.size, 0, none⟩) [(⟨xk, xid, xat, xa, xt, qb, nb, cb, qk, nk, ck, nm, fill, qn, nn, cn⟩ : Opz)] := fun i hi => by
    have : i = 0 := by simpa using hi
    subst this
    refine ⟨_, rfl, fun j u hu => ?_⟩
    simp only [ad_add, Nat.zero_add, Nat.zero_mul]
    exact (Bb.cell j).trans hu
  have K1 : Kp (fun i => w.heap.size ≤ i) w W2 := K0.trans kb.wide
  intro _
  refine (c22 (c := 1) row1).mono ?_
  rintro v w2 ⟨e, t2, rfl, ht2⟩
  obtain rfl := e.symm
  refine ⟨_, rfl, (Kp.refl none_ _).keeps (fun b hb => ⟨b1 (by omega) b hb, id⟩), bif_b (fun _ _ => endz (b1 (by omega)) K1) (fun htf2 => ?_)⟩
  have smx := (ht2 htf2).2 _ List.mem_cons_self
  refine bif_dec (fun _ _ => endz (b1 (by omega)) K1) (fun hk0 => bif_dec (fun _ _ => endz (b1 (by omega)) K1) (fun hk5 => ?_))
  intro _
  refine (c24F cap W2).mono ?_
  rintro v w3 ⟨rfl, d3, k3⟩
  have z3 := k3.size
  refine ⟨_, rfl, k3.keeps (fun b hb => ⟨b1 (by omega) b hb, id⟩), ?_⟩
  intro _
  refine (c25 (E := w.heap.size) cap w3 (by omega)).mono ?_
  rintro v w4 ⟨rfl, r4, k4⟩
  have z4 := k4.size
  have lp := d3.lt
  have lm := r4.lt
  refine ⟨_, rfl, k4.keeps (fun b hb => ⟨b1 (by omega) b hb, id⟩), ?_⟩
  have D0 : Dbl w.heap.size w4 (fun i => w.heap.size < i) W2.heap.size w3.heap.size (newFst cap) := dbl_new (Q := fun i => w.heap.size < i) d3 r4 k3 k4 (by omega) (fun i hi => by omega)
  have K4 : Kp (fun i => w.heap.size < i) W2 w4 := k3.wide.trans k4.wide
  refine ⟨fun i w' => ∃ (j : Nat) (f : Fst), i = j ∧ j ≤ l.length ∧ Dbl w.heap.size w' (fun i => w.heap.size < i) W2.heap.size w3.heap.size f ∧ Fb f j ∧ Idk f ∧ Usd f ∧ Kp (fun i => w.heap.size < i) W2 w', fun i _ => (l.length - i).toNat, ⟨0, _, rfl, by omega, D0, Fb.newc cap, Idk.new cap, Usd.new cap, K4⟩, ?_⟩
  rintro i w5 ⟨j, f, rfl, hj, D5, fb, hid, hus, K5⟩
  have z5 := K5.size
  intro _
  have up : ∀ {wb : World}, Kp (fun i => w.heap.size < i) W2 wb → Kp (fun i => w.heap.size ≤ i) w wb := fun k => K1.trans (k.mono fun i _ hi => Nat.le_of_lt hi)
  have kb4 := fb.k
  have rb4 := fb.r
  have kb0 := fb.ok.k
  have rb0 := fb.ok.r
  have hw5 : ∀ s ∈ f.ds, s.wait.length ≤ 90000 := fun s hs => by have := (fb.st s hs).2; omega
  refine bif_dec (fun hi => ?_) (fun hi => ?_)
  · have hjl : j < l.length := by omega
    have sm := hsm _ (List.getElem_mem hjl)
    obtain ⟨bf', kb', nl', gi⟩ := opzIn_of (hl _ (List.getElem_mem hjl)) sm
    have gi5 := gi.kp (up K5) fun i hi => hi
    refine ⟨⟨by omega, hi⟩, (op_row h (up K5) fun i hi => hi).get hjl fun a ea hc => ⟨_, _, _, _, _, _, _, _, _, _, _, _, _, _, _, _, ⟨hc 0 _ rfl, hc 1 _ rfl, hc 2 _ rfl, hc 3 _ rfl, hc 4 _ rfl, hc 5 _ rfl, hc 6 _ rfl, hc 7 _ rfl, hc 8 _ rfl, hc 9 _ rfl, trivial⟩, ?_⟩⟩
    intro _
    refine (c26 D5 fb.ok (by omega) (by omega) hw5 l[j] gi5).mono ?_
    rintro v w6 ⟨rfl, D6, K6⟩
    have K6' : Kp (fun i => w.heap.size < i) w5 w6 := K6.mono fun i _ hi => hi.1
    have z6 := K6'.size
    have D6' := D6.mono (Q' := fun i => w.heap.size < i) (fun i _ hi => by rcases hi with hi | hi; exact hi; omega)
    have fb6 := fb.op (by omega) l[j] sm bf' kb' nl' gi5.nl
    have id6 := hid.op fb.ok l[j] bf' kb' nl'
    have us6 := hus.op fb.ok l[j] bf' kb' nl'
    generalize opF f l[j] bf' kb' nl' = f6 at *
    obtain ⟨Op, Om, H, hp6, hm6, g3, g4, g5⟩ := D6'
    have k6d : Kp none_ w6 w6.drew := (Kp.refl none_ w6).drew
    obtain ⟨n3, _, _⟩ := ((FRW.of hm6).kp0 k6d).nums
    refine ⟨_, rfl, K6'.keeps (fun b hb => ⟨b1 (by omega) b hb, fun hh => by simp at hb; subst hb; exact Nat.lt_irrefl _ hh⟩), ?_⟩
    simp only [ptr_some, ad3, Nat.zero_add, Nat.add_zero]
    refine ⟨_, n3, ?_⟩
    intro _
    refine (c55 (hp6.kp0 k6d) fb6.ok).mono ?_
    rintro v w7 ⟨rfl, _, k7⟩
    refine ⟨_, rfl, k7.keeps (fun b hb => ⟨b1 (by show _ < w6.heap.size; omega) b hb, id⟩), k7.cell0 n3, bif_dec (fun hh => ?_) (fun _ => ?_)⟩
    · have us6 : usedN f6 f6.ds.length ≤ f6.cap := us6
      exfalso
      omega
    · have k67 := k6d.trans k7
      refine wr64 (by omega) ⟨rfl, ⟨j + 1, f6, by omega, by omega, ⟨Op, Om, H, hp6.kp0 k67, hm6.kp0 k67, g3, fun i hi => ⟨(g4 i hi).1, Nat.lt_of_lt_of_le (g4 i hi).2 k67.size⟩, g5⟩, fb6, id6, us6, (K5.trans K6').trans k67.wide⟩, by first | omega | (dsimp only; omega)⟩
  · obtain ⟨Op, Om, H, hp5, hm5, dis, bnd, gE⟩ := D5
    have hmge := hm5.ge
    intro _
    have hp5' := hp5
    obtain ⟨Dsx, Ofx, hp5x, _, _⟩ := hp5'
    refine (c51 hp5x).mono ?_
    rintro v w6 ⟨rfl, rfl⟩
    have k6 : Kp none_ w5 w5.drew := (Kp.refl none_ w5).drew
    have z6 := k6.size
    refine ⟨_, _, rfl, k6.keeps (fun b hb => ⟨b1 (by omega) b hb, id⟩), wr64 (by omega) ?_⟩
    have hp6 := hp5.kp0 k6
    have hm6 := hm5.kp0 k6
    have K6 := K5.trans k6.wide
    have s6 : w.heap.size < w5.drew.heap.size := by omega
    have bnd6 : ∀ i, Op i ∨ Om i → w.heap.size < i ∧ i < w5.drew.heap.size := fun i hi => bnd i hi
    clear bnd hp5 hm5 hp5x
    generalize w5.drew = w6 at *
    obtain ⟨kc, zc, Bc⟩ := alloc_k3 w6 #[.int .i64 (f.k + 1)] 3
    generalize w6.alloc (.cells #[.int .i64 (f.k + 1)] 3) = w6a at *
    have rowk : RowsAt w6a 1 intC (some ⟨w6.heap.size, 0, none⟩) [f.k + 1] := fun i hi => by
      have : i = 0 := by simpa using hi
      subst this
      refine ⟨_, rfl, fun j u hu => ?_⟩
      simp only [ad_add, Nat.zero_add, Nat.zero_mul]
      exact (Bc.cell j).trans hu
    intro _
    refine (c27F (hp6.kp0 kc) (fun i hi => by have := (bnd6 i (.inl hi)).2; omega) (l := [f.k + 1]) (c := 1) rowk (by simp) (.inr ⟨_, _, rfl⟩)).mono ?_
    rintro v w7 ⟨rfl, d7, k7⟩
    have z7 := k7.size
    have opw : ∀ i, Op i → w.heap.size < i := fun i hi => (bnd6 i (.inl hi)).1
    have y7 : Keeps w6a w7 [w.heap.size] := k7.keeps fun b hb => ⟨b1 (by omega) b hb, fun hh => by simp at hb; subst hb; exact Nat.lt_irrefl _ (opw _ hh)⟩
    refine ⟨rfl, y7, wr64 (by omega) ?_⟩
    have hm7 : FRD w.heap.size w7 Om w3.heap.size f H := (hm6.kp0 kc).kp k7 (fun i hi => gE i hi) (fun i _ hi => ⟨fun ho => dis i ho hi, hi⟩) hmge
    obtain ⟨ke, ze, Be⟩ := alloc_k3 w7 #[.int .i64 (f.k + 1)] 3
    generalize w7.alloc (.cells #[.int .i64 (f.k + 1)] 3) = w7a at *
    have rowm : RowsAt w7a 1 intC (some ⟨w7.heap.size, 0, none⟩) [f.k + 1] := fun i hi => by
      have : i = 0 := by simpa using hi
      subst this
      refine ⟨_, rfl, fun j u hu => ?_⟩
      simp only [ad_add, Nat.zero_add, Nat.zero_mul]
      exact (Be.cell j).trans hu
    obtain ⟨s1, s2, hm8, k8⟩ := FRW.setRl (Fq := fun i => i = w7.heap.size) (c := 1) (hm7.kp0 ke) rowm (fun _ a e => by cases e; rfl) (fun i hi e => by have := (bnd6 i (.inr hi)).2; omega)
    have lbm := hm7.lt
    have omb := (bnd6 _ (.inr lbm.2))
    simp only [ptr_some, ad3, Nat.zero_add, Nat.add_zero]
    refine ⟨s1, s2, .inl fun e => by have e : w3.heap.size = w.heap.size := e; omega, ?_⟩
    have z8 := k8.size
    have hp8 : FSD (w7a.setCell ⟨w3.heap.size, 6, none⟩ (.slice (some ⟨w7.heap.size, 0, none⟩) 1 1)) (fun i => Op i ∨ (w6a.heap.size ≤ i ∧ i < w7.heap.size)) W2.heap.size { f with rl := [f.k + 1] } := (d7.kp ke (O' := fun i => Op i ∨ (w6a.heap.size ≤ i ∧ i < w7.heap.size)) fun i hil hi => ⟨id, hi.imp id fun hh => ⟨hh, hil⟩⟩).kp k8 fun i hil hi => ⟨fun e => by
      have e : i = w3.heap.size := e
      subst e
      rcases hi with hi | hi
      · exact dis _ hi lbm.2
      · omega, hi⟩
    have hm8 : FRW (w7a.setCell ⟨w3.heap.size, 6, none⟩ (.slice (some ⟨w7.heap.size, 0, none⟩) 1 1)) Om (fun i => i = w7.heap.size) w3.heap.size { f with rl := [f.k + 1] } H := hm8
    have k8 : Kp (one_ w3.heap.size) w7a (w7a.setCell ⟨w3.heap.size, 6, none⟩ (.slice (some ⟨w7.heap.size, 0, none⟩) 1 1)) := k8
    have z8 := k8.size
    have K8 : Kp (fun i => w.heap.size < i) W2 (w7a.setCell ⟨w3.heap.size, 6, none⟩ (.slice (some ⟨w7.heap.size, 0, none⟩) 1 1)) := (((K6.trans kc.wide).trans (k7.mono fun i _ hi => opw i hi)).trans ke.wide).trans (k8.mono fun i _ hi => by have hi : i = w3.heap.size := hi; omega)
    generalize w7a.setCell ⟨w3.heap.size, 6, none⟩ (.slice (some ⟨w7.heap.size, 0, none⟩) 1 1) = w8 at *
    have fb8 : Fb { f with rl := [f.k + 1] } j := fb.rl (by simp)
    have id8 : Idk { f with rl := [f.k + 1] } := hid.eq rfl rfl rfl
    have he8 : refE ({ f with rl := [f.k + 1] } : Fst).rl ({ f with rl := [f.k + 1] } : Fst).k = 10 := by unfold refE; rw [if_pos List.mem_cons_self]
    have hn8 : refN ({ f with rl := [f.k + 1] } : Fst).rl ({ f with rl := [f.k + 1] } : Fst).k ({ f with rl := [f.k + 1] } : Fst).r = f.r + 1 := by unfold refN; rw [if_pos List.mem_cons_self]
    have hw8 : ∀ s ∈ ({ f with rl := [f.k + 1] } : Fst).ds, s.wait.length ≤ 90000 := hw5
    intro _
    refine (z14 hp8 fb8.ok hw8).mono ?_
    rintro v w9 ⟨e, rfl⟩
    obtain rfl := e.symm
    refine ⟨_, rfl, (Kp.refl none_ _).keeps (fun b hb => ⟨b1 (by omega) b hb, id⟩), ?_⟩
    intro _
    obtain ⟨bf, kbx, nlx, gx⟩ := opzIn_of hxr smx
    have gx8 := gx.kp (up K8) fun i hi => hi
    refine (does_ref hp8 hm8 fb8.ok (by show f.k < _; omega) (by show f.r < _; omega) hw8 he8 (fun i hi => by
      rcases hi with hi | hi
      · have := (bnd6 i (.inl hi)).2; omega
      · omega) (fun i hi ho => by
      rcases hi with hi | hi
      · exact dis i hi ho
      · have := (bnd6 i (.inr ho)).2; omega) (fun i hi ho => by
      subst hi
      rcases ho with ho | ho
      · have := (bnd6 _ (.inl ho)).2; omega
      · omega) (fun i hi e => by have := (bnd6 i (.inr hi)).2; omega) ⟨xk, xid, xat, xa, xt, qb, nb, cb, qk, nk, ck, nm, fill, qn, nn, cn⟩ (by show 0 ≤ xk ∧ xk ≤ 5; omega) gx8.b gx8.by_ (fun h0 a e ho => by
      have := gx8.qb h0 a e
      rcases ho with ho | ho
      · have := opw _ ho; omega
      · omega)).mono ?_
    rintro v w10 ⟨rfl, d10, m10, k10⟩
    have z10 := k10.size
    have k10' : Kp (fun i => w.heap.size < i) w8 w10 := k10.mono fun i _ hi => by
      rcases hi with (hi | hi) | hi
      · exact opw i hi
      · omega
      · omega
    have fb10 := fb8.cnt (by omega)
    have id10 : Idk (cnt { f with rl := [f.k + 1] }) := hid.eq rfl rfl rfl
    have hw10 : ∀ s ∈ (cnt { f with rl := [f.k + 1] } : Fst).ds, s.wait.length ≤ 90000 := hw5
    refine ⟨_, rfl, k10'.keeps (fun b hb => ⟨b1 (by omega) b hb, fun hh => by simp at hb; subst hb; exact Nat.lt_irrefl _ hh⟩), bif_not (fun hh => by cases hh) fun _ => ?_⟩
    intro _
    refine (Go.Proofs.YtlgkcbdpaffigaaGreat.z10 d10 m10 fb10.ok id10 hw10).mono ?_
    rintro v w11 ⟨rfl, k11⟩
    have z11 := k11.size
    refine ⟨_, rfl, k11.keeps (fun b hb => ⟨b1 (by omega) b hb, id⟩), bif_not (fun hh => by cases hh) fun _ => ?_⟩
    intro _
    refine (z14 (d10.kp0 k11) fb10.ok hw10).mono ?_
    rintro v w12 ⟨e, rfl⟩
    obtain rfl := e.symm
    refine ⟨_, rfl, (Kp.refl none_ _).keeps (fun b hb => ⟨b1 (by omega) b hb, id⟩), bif_ne (fun hh => absurd rfl hh) fun _ => ?_⟩
    intro _
    have d11 := d10.kp0 k11
    obtain ⟨Dsy, Ofy, d11x, _, _⟩ := d11
    refine (c51 d11x).mono ?_
    rintro v w13 ⟨rfl, rfl⟩
    have k13 : Kp none_ w11 w11.drew := (Kp.refl none_ w11).drew
    have K13 : Kp (fun i => w.heap.size < i) W2 w11.drew := ((K8.trans k10').trans k11.wide).trans k13.wide
    have ek : (cnt { f with rl := [f.k + 1] } : Fst).k = f.k + 1 := rfl
    have er : (cnt { f with rl := [f.k + 1] } : Fst).r = f.r + 1 := hn8
    rw [ek, er]
    refine ⟨_, _, rfl, k13.keeps (fun b hb => ⟨b1 (by omega) b hb, id⟩), wr64 (by omega) (bif_eq (fun _ => wr64 (by omega) (bif_eq (fun _ _ => endz (b1 (by show _ < w11.heap.size; omega)) (up K13)) fun hh => absurd rfl hh)) fun hh => absurd rfl hh)⟩
end Go.Proofs.YtlgkcbdpaffigaaGreat

namespace Go.Proofs.YtlgkcbdpaffigaaGreat
open Go Go.SX Go.Proofs Go.ChangeShapes Go.WideShapes Go.ChangeAt Go.ChangeMaps Go.RowKit
set_option maxRecDepth 100000
set_option linter.unusedVariables false
section
variable {H : Type} {enc : TypeId × Value → H} {W : World}
theorem open_op1 {v : Value} {d : DataW H} {ps : List MemPlace} {r : Reach} {b0 : Nat} (hval : Value.okWide Tryz.prog W r b0 36 v) (h : DataW.Trod enc Tryz.prog W 0 (fun _ => true) true 36 v d ps) : ∃ x : Opz, v = .agg (opzC x).toArray ∧ OpzRaw W x := by
  unfold Value.okWide at hval
  rw [Tryz.underlying36] at hval
  obtain ⟨cs, rfl, _⟩ := hval
  obtain ⟨fuel, hf⟩ := h
  obtain ⟨b, e, hb⟩ := dec_opz _ _ _ hf
  refine ⟨b, ?_, hb⟩
  have e : cs.toList = opzC b := e
  rw [← e]
end
end Go.Proofs.YtlgkcbdpaffigaaGreat

