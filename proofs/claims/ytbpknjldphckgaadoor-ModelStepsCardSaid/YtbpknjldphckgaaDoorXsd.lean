/- What the row needs, part 4. -/
import Derived.Test.YtbpknjldphckgaaDoorProg
import Derived.Test.YtbpknjldphckgaaDoorXsc
namespace Go.Proofs.YtbpknjldphckgaaDoor
open Go Go.SX Go.Proofs
set_option maxRecDepth 100000
set_option linter.unusedVariables false
def VCTryd191 (p : Option Addr) (k : Int) (s : ByteArray) (dq : Option Addr) (dn dc : Nat) (N : Int) (kq : Option Addr) (kn kc : Nat) (nm fi : Int) (w : World) (R : Ending → World → Prop) : Prop :=
bif k == (3 : Int) then
 Known (w.alloc (Obj.cells #[Value.int IntKind.i64 k, Value.string s, Value.slice dq dn dc, Value.int IntKind.i64 N, Value.slice kq kn kc, Value.int IntKind.i64 nm, Value.int IntKind.u8 fi] (124 : Nat)))
   [(w.heap.size,
     [((0 : Nat), Value.int IntKind.i64 k), ((1 : Nat), Value.string s), ((2 : Nat), Value.slice dq dn dc), ((3 : Nat), Value.int IntKind.i64 N), ((4 : Nat), Value.slice kq kn kc),
      ((5 : Nat), Value.int IntKind.i64 nm), ((6 : Nat), Value.int IntKind.u8 fi)])] →
  Rets Tryd.prog (203 : Nat) #[Value.pointer p, Value.string s, Value.int IntKind.i64 (↑dn : Int)]
   (w.alloc (Obj.cells #[Value.int IntKind.i64 k, Value.string s, Value.slice dq dn dc, Value.int IntKind.i64 N, Value.slice kq kn kc, Value.int IntKind.i64 nm, Value.int IntKind.u8 fi] (124 : Nat)))
   fun (v0 : Value) (w1 : World) =>
   ∃ (i2 : Int),
    v0 = Value.int IntKind.i64 i2 ∧
     Keeps (w.alloc (Obj.cells #[Value.int IntKind.i64 k, Value.string s, Value.slice dq dn dc, Value.int IntKind.i64 N, Value.slice kq kn kc, Value.int IntKind.i64 nm, Value.int IntKind.u8 fi] (124 : Nat))) w1
       [w.heap.size] ∧
      (Known w1
        [(w.heap.size,
          [((0 : Nat), Value.int IntKind.i64 k), ((1 : Nat), Value.string s), ((2 : Nat), Value.slice dq dn dc), ((3 : Nat), Value.int IntKind.i64 N), ((4 : Nat), Value.slice kq kn kc),
           ((5 : Nat), Value.int IntKind.i64 nm), ((6 : Nat), Value.int IntKind.u8 fi)])] →
       R (Ending.returned (Value.int IntKind.i64 i2)) w1)
else
 bif k == (4 : Int) then
  Known (w.alloc (Obj.cells #[Value.int IntKind.i64 k, Value.string s, Value.slice dq dn dc, Value.int IntKind.i64 N, Value.slice kq kn kc, Value.int IntKind.i64 nm, Value.int IntKind.u8 fi] (124 : Nat)))
    [(w.heap.size,
      [((0 : Nat), Value.int IntKind.i64 k), ((1 : Nat), Value.string s), ((2 : Nat), Value.slice dq dn dc), ((3 : Nat), Value.int IntKind.i64 N), ((4 : Nat), Value.slice kq kn kc),
       ((5 : Nat), Value.int IntKind.i64 nm), ((6 : Nat), Value.int IntKind.u8 fi)])] →
   Rets Tryd.prog (203 : Nat) #[Value.pointer p, Value.string s, Value.int IntKind.i64 (0 : Int)]
    (w.alloc (Obj.cells #[Value.int IntKind.i64 k, Value.string s, Value.slice dq dn dc, Value.int IntKind.i64 N, Value.slice kq kn kc, Value.int IntKind.i64 nm, Value.int IntKind.u8 fi] (124 : Nat)))
    fun (v3 : Value) (w4 : World) =>
    ∃ (i5 : Int),
     v3 = Value.int IntKind.i64 i5 ∧
      Keeps (w.alloc (Obj.cells #[Value.int IntKind.i64 k, Value.string s, Value.slice dq dn dc, Value.int IntKind.i64 N, Value.slice kq kn kc, Value.int IntKind.i64 nm, Value.int IntKind.u8 fi] (124 : Nat))) w4
        [w.heap.size] ∧
       (Known w4
         [(w.heap.size,
           [((0 : Nat), Value.int IntKind.i64 k), ((1 : Nat), Value.string s), ((2 : Nat), Value.slice dq dn dc), ((3 : Nat), Value.int IntKind.i64 N), ((4 : Nat), Value.slice kq kn kc),
            ((5 : Nat), Value.int IntKind.i64 nm), ((6 : Nat), Value.int IntKind.u8 fi)])] →
        R (Ending.returned (Value.int IntKind.i64 i5)) w4)
 else
  bif k == (5 : Int) then
   Known (w.alloc (Obj.cells #[Value.int IntKind.i64 k, Value.string s, Value.slice dq dn dc, Value.int IntKind.i64 N, Value.slice kq kn kc, Value.int IntKind.i64 nm, Value.int IntKind.u8 fi] (124 : Nat)))
     [(w.heap.size,
       [((0 : Nat), Value.int IntKind.i64 k), ((1 : Nat), Value.string s), ((2 : Nat), Value.slice dq dn dc), ((3 : Nat), Value.int IntKind.i64 N), ((4 : Nat), Value.slice kq kn kc),
        ((5 : Nat), Value.int IntKind.i64 nm), ((6 : Nat), Value.int IntKind.u8 fi)])] →
    Rets Tryd.prog (204 : Nat) #[Value.pointer p, Value.int IntKind.i64 (↑dn : Int)]
     (w.alloc (Obj.cells #[Value.int IntKind.i64 k, Value.string s, Value.slice dq dn dc, Value.int IntKind.i64 N, Value.slice kq kn kc, Value.int IntKind.i64 nm, Value.int IntKind.u8 fi] (124 : Nat)))
     fun (v6 : Value) (w7 : World) =>
     ∃ (i8 : Int),
      v6 = Value.int IntKind.i64 i8 ∧
       Keeps (w.alloc (Obj.cells #[Value.int IntKind.i64 k, Value.string s, Value.slice dq dn dc, Value.int IntKind.i64 N, Value.slice kq kn kc, Value.int IntKind.i64 nm, Value.int IntKind.u8 fi] (124 : Nat))) w7
         [w.heap.size] ∧
        (Known w7
          [(w.heap.size,
            [((0 : Nat), Value.int IntKind.i64 k), ((1 : Nat), Value.string s), ((2 : Nat), Value.slice dq dn dc), ((3 : Nat), Value.int IntKind.i64 N), ((4 : Nat), Value.slice kq kn kc),
             ((5 : Nat), Value.int IntKind.i64 nm), ((6 : Nat), Value.int IntKind.u8 fi)])] →
         R (Ending.returned (Value.int IntKind.i64 i8)) w7)
  else
   bif k == (6 : Int) then
    bif k == (6 : Int) then
     Known (w.alloc (Obj.cells #[Value.int IntKind.i64 k, Value.string s, Value.slice dq dn dc, Value.int IntKind.i64 N, Value.slice kq kn kc, Value.int IntKind.i64 nm, Value.int IntKind.u8 fi] (124 : Nat)))
       [(w.heap.size,
         [((0 : Nat), Value.int IntKind.i64 k), ((1 : Nat), Value.string s), ((2 : Nat), Value.slice dq dn dc), ((3 : Nat), Value.int IntKind.i64 N), ((4 : Nat), Value.slice kq kn kc),
          ((5 : Nat), Value.int IntKind.i64 nm), ((6 : Nat), Value.int IntKind.u8 fi)])] →
      Rets Tryd.prog (204 : Nat) #[Value.pointer p, Value.int IntKind.i64 (0 : Int)]
       (w.alloc (Obj.cells #[Value.int IntKind.i64 k, Value.string s, Value.slice dq dn dc, Value.int IntKind.i64 N, Value.slice kq kn kc, Value.int IntKind.i64 nm, Value.int IntKind.u8 fi] (124 : Nat)))
       fun (v9 : Value) (w10 : World) =>
       ∃ (i11 : Int),
        v9 = Value.int IntKind.i64 i11 ∧
         Keeps (w.alloc (Obj.cells #[Value.int IntKind.i64 k, Value.string s, Value.slice dq dn dc, Value.int IntKind.i64 N, Value.slice kq kn kc, Value.int IntKind.i64 nm, Value.int IntKind.u8 fi] (124 : Nat)))
           w10 [w.heap.size] ∧
          (Known w10
            [(w.heap.size,
              [((0 : Nat), Value.int IntKind.i64 k), ((1 : Nat), Value.string s), ((2 : Nat), Value.slice dq dn dc), ((3 : Nat), Value.int IntKind.i64 N), ((4 : Nat), Value.slice kq kn kc),
               ((5 : Nat), Value.int IntKind.i64 nm), ((6 : Nat), Value.int IntKind.u8 fi)])] →
           R (Ending.returned (Value.int IntKind.i64 i11)) w10)
    else
     bif k == (8 : Int) then
      bif k == (8 : Int) then
       Known (w.alloc (Obj.cells #[Value.int IntKind.i64 k, Value.string s, Value.slice dq dn dc, Value.int IntKind.i64 N, Value.slice kq kn kc, Value.int IntKind.i64 nm, Value.int IntKind.u8 fi] (124 : Nat)))
         [(w.heap.size,
           [((0 : Nat), Value.int IntKind.i64 k), ((1 : Nat), Value.string s), ((2 : Nat), Value.slice dq dn dc), ((3 : Nat), Value.int IntKind.i64 N), ((4 : Nat), Value.slice kq kn kc),
            ((5 : Nat), Value.int IntKind.i64 nm), ((6 : Nat), Value.int IntKind.u8 fi)])] →
        Rets Tryd.prog (205 : Nat) #[Value.pointer p, Value.string s]
         (w.alloc (Obj.cells #[Value.int IntKind.i64 k, Value.string s, Value.slice dq dn dc, Value.int IntKind.i64 N, Value.slice kq kn kc, Value.int IntKind.i64 nm, Value.int IntKind.u8 fi] (124 : Nat)))
         fun (v12 : Value) (w13 : World) =>
         ∃ (i14 : Int),
          v12 = Value.int IntKind.i64 i14 ∧
           Keeps
             (w.alloc
              (Obj.cells #[Value.int IntKind.i64 k, Value.string s, Value.slice dq dn dc, Value.int IntKind.i64 N, Value.slice kq kn kc, Value.int IntKind.i64 nm, Value.int IntKind.u8 fi] (124 : Nat)))
             w13 [w.heap.size] ∧
            (Known w13
              [(w.heap.size,
                [((0 : Nat), Value.int IntKind.i64 k), ((1 : Nat), Value.string s), ((2 : Nat), Value.slice dq dn dc), ((3 : Nat), Value.int IntKind.i64 N), ((4 : Nat), Value.slice kq kn kc),
                 ((5 : Nat), Value.int IntKind.i64 nm), ((6 : Nat), Value.int IntKind.u8 fi)])] →
             R (Ending.returned (Value.int IntKind.i64 i14)) w13)
      else
       bif k == (11 : Int) then
        Known (w.alloc (Obj.cells #[Value.int IntKind.i64 k, Value.string s, Value.slice dq dn dc, Value.int IntKind.i64 N, Value.slice kq kn kc, Value.int IntKind.i64 nm, Value.int IntKind.u8 fi] (124 : Nat)))
          [(w.heap.size,
            [((0 : Nat), Value.int IntKind.i64 k), ((1 : Nat), Value.string s), ((2 : Nat), Value.slice dq dn dc), ((3 : Nat), Value.int IntKind.i64 N), ((4 : Nat), Value.slice kq kn kc),
             ((5 : Nat), Value.int IntKind.i64 nm), ((6 : Nat), Value.int IntKind.u8 fi)])] →
         Rets Tryd.prog (206 : Nat) #[Value.pointer p]
          (w.alloc (Obj.cells #[Value.int IntKind.i64 k, Value.string s, Value.slice dq dn dc, Value.int IntKind.i64 N, Value.slice kq kn kc, Value.int IntKind.i64 nm, Value.int IntKind.u8 fi] (124 : Nat)))
          fun (v15 : Value) (w16 : World) =>
          ∃ (i17 : Int),
           v15 = Value.int IntKind.i64 i17 ∧
            Keeps
              (w.alloc
               (Obj.cells #[Value.int IntKind.i64 k, Value.string s, Value.slice dq dn dc, Value.int IntKind.i64 N, Value.slice kq kn kc, Value.int IntKind.i64 nm, Value.int IntKind.u8 fi] (124 : Nat)))
              w16 [w.heap.size] ∧
             bif i17 != (0 : Int) then
              Known w16
                [(w.heap.size,
                  [((0 : Nat), Value.int IntKind.i64 k), ((1 : Nat), Value.string s), ((2 : Nat), Value.slice dq dn dc), ((3 : Nat), Value.int IntKind.i64 N), ((4 : Nat), Value.slice kq kn kc),
                   ((5 : Nat), Value.int IntKind.i64 nm), ((6 : Nat), Value.int IntKind.u8 fi)])] →
               R (Ending.returned (Value.int IntKind.i64 i17)) w16
             else
              Known w16
                [(w.heap.size,
                  [((0 : Nat), Value.int IntKind.i64 k), ((1 : Nat), Value.string s), ((2 : Nat), Value.slice dq dn dc), ((3 : Nat), Value.int IntKind.i64 N), ((4 : Nat), Value.slice kq kn kc),
                   ((5 : Nat), Value.int IntKind.i64 nm), ((6 : Nat), Value.int IntKind.u8 fi)])] →
               Rets Tryd.prog (205 : Nat) #[Value.pointer p, Value.string s] w16 fun (v18 : Value) (w19 : World) =>
                ∃ (i20 : Int),
                 v18 = Value.int IntKind.i64 i20 ∧
                  Keeps w16 w19 [w.heap.size] ∧
                   (Known w19
                     [(w.heap.size,
                      [((0 : Nat), Value.int IntKind.i64 k), ((1 : Nat), Value.string s), ((2 : Nat), Value.slice dq dn dc), ((3 : Nat), Value.int IntKind.i64 N),
                       ((4 : Nat), Value.slice kq kn kc), ((5 : Nat), Value.int IntKind.i64 nm), ((6 : Nat), Value.int IntKind.u8 fi)])] →
                    R (Ending.returned (Value.int IntKind.i64 i20)) w19)
       else
        bif k == (12 : Int) then
         bif k == (12 : Int) then
          Known
            (w.alloc (Obj.cells #[Value.int IntKind.i64 k, Value.string s, Value.slice dq dn dc, Value.int IntKind.i64 N, Value.slice kq kn kc, Value.int IntKind.i64 nm, Value.int IntKind.u8 fi] (124 : Nat)))
            [(w.heap.size,
              [((0 : Nat), Value.int IntKind.i64 k), ((1 : Nat), Value.string s), ((2 : Nat), Value.slice dq dn dc), ((3 : Nat), Value.int IntKind.i64 N), ((4 : Nat), Value.slice kq kn kc),
               ((5 : Nat), Value.int IntKind.i64 nm), ((6 : Nat), Value.int IntKind.u8 fi)])] →
           Rets Tryd.prog (206 : Nat) #[Value.pointer p]
            (w.alloc (Obj.cells #[Value.int IntKind.i64 k, Value.string s, Value.slice dq dn dc, Value.int IntKind.i64 N, Value.slice kq kn kc, Value.int IntKind.i64 nm, Value.int IntKind.u8 fi] (124 : Nat)))
            fun (v21 : Value) (w22 : World) =>
            ∃ (i23 : Int),
             v21 = Value.int IntKind.i64 i23 ∧
              Keeps
                (w.alloc
                 (Obj.cells #[Value.int IntKind.i64 k, Value.string s, Value.slice dq dn dc, Value.int IntKind.i64 N, Value.slice kq kn kc, Value.int IntKind.i64 nm, Value.int IntKind.u8 fi]
                  (124 : Nat)))
                w22 [w.heap.size] ∧
               (Known w22
                 [(w.heap.size,
                   [((0 : Nat), Value.int IntKind.i64 k), ((1 : Nat), Value.string s), ((2 : Nat), Value.slice dq dn dc), ((3 : Nat), Value.int IntKind.i64 N), ((4 : Nat), Value.slice kq kn kc),
                    ((5 : Nat), Value.int IntKind.i64 nm), ((6 : Nat), Value.int IntKind.u8 fi)])] →
                R (Ending.returned (Value.int IntKind.i64 i23)) w22)
         else
          Known
            (w.alloc (Obj.cells #[Value.int IntKind.i64 k, Value.string s, Value.slice dq dn dc, Value.int IntKind.i64 N, Value.slice kq kn kc, Value.int IntKind.i64 nm, Value.int IntKind.u8 fi] (124 : Nat)))
            [(w.heap.size,
              [((0 : Nat), Value.int IntKind.i64 k), ((1 : Nat), Value.string s), ((2 : Nat), Value.slice dq dn dc), ((3 : Nat), Value.int IntKind.i64 N), ((4 : Nat), Value.slice kq kn kc),
               ((5 : Nat), Value.int IntKind.i64 nm), ((6 : Nat), Value.int IntKind.u8 fi)])] →
           R (Ending.returned (Value.int IntKind.i64 (0 : Int)))
            (w.alloc (Obj.cells #[Value.int IntKind.i64 k, Value.string s, Value.slice dq dn dc, Value.int IntKind.i64 N, Value.slice kq kn kc, Value.int IntKind.i64 nm, Value.int IntKind.u8 fi] (124 : Nat)))
        else
         bif k == (13 : Int) then
          bif k == (13 : Int) then
           Known
             (w.alloc
              (Obj.cells #[Value.int IntKind.i64 k, Value.string s, Value.slice dq dn dc, Value.int IntKind.i64 N, Value.slice kq kn kc, Value.int IntKind.i64 nm, Value.int IntKind.u8 fi] (124 : Nat)))
             [(w.heap.size,
               [((0 : Nat), Value.int IntKind.i64 k), ((1 : Nat), Value.string s), ((2 : Nat), Value.slice dq dn dc), ((3 : Nat), Value.int IntKind.i64 N), ((4 : Nat), Value.slice kq kn kc),
                ((5 : Nat), Value.int IntKind.i64 nm), ((6 : Nat), Value.int IntKind.u8 fi)])] →
            Rets Tryd.prog (206 : Nat) #[Value.pointer p]
             (w.alloc
              (Obj.cells #[Value.int IntKind.i64 k, Value.string s, Value.slice dq dn dc, Value.int IntKind.i64 N, Value.slice kq kn kc, Value.int IntKind.i64 nm, Value.int IntKind.u8 fi] (124 : Nat)))
             fun (v24 : Value) (w25 : World) =>
             ∃ (i26 : Int),
              v24 = Value.int IntKind.i64 i26 ∧
               Keeps
                 (w.alloc
                  (Obj.cells #[Value.int IntKind.i64 k, Value.string s, Value.slice dq dn dc, Value.int IntKind.i64 N, Value.slice kq kn kc, Value.int IntKind.i64 nm, Value.int IntKind.u8 fi]
                   (124 : Nat)))
                 w25 [w.heap.size] ∧
                (Known w25
                  [(w.heap.size,
                    [((0 : Nat), Value.int IntKind.i64 k), ((1 : Nat), Value.string s), ((2 : Nat), Value.slice dq dn dc), ((3 : Nat), Value.int IntKind.i64 N), ((4 : Nat), Value.slice kq kn kc),
                     ((5 : Nat), Value.int IntKind.i64 nm), ((6 : Nat), Value.int IntKind.u8 fi)])] →
                 R (Ending.returned (Value.int IntKind.i64 i26)) w25)
          else
           Known
             (w.alloc
              (Obj.cells #[Value.int IntKind.i64 k, Value.string s, Value.slice dq dn dc, Value.int IntKind.i64 N, Value.slice kq kn kc, Value.int IntKind.i64 nm, Value.int IntKind.u8 fi] (124 : Nat)))
             [(w.heap.size,
               [((0 : Nat), Value.int IntKind.i64 k), ((1 : Nat), Value.string s), ((2 : Nat), Value.slice dq dn dc), ((3 : Nat), Value.int IntKind.i64 N), ((4 : Nat), Value.slice kq kn kc),
                ((5 : Nat), Value.int IntKind.i64 nm), ((6 : Nat), Value.int IntKind.u8 fi)])] →
            R (Ending.returned (Value.int IntKind.i64 (0 : Int)))
             (w.alloc
              (Obj.cells #[Value.int IntKind.i64 k, Value.string s, Value.slice dq dn dc, Value.int IntKind.i64 N, Value.slice kq kn kc, Value.int IntKind.i64 nm, Value.int IntKind.u8 fi] (124 : Nat)))
         else
          bif k == (14 : Int) then
           Known
             (w.alloc
              (Obj.cells #[Value.int IntKind.i64 k, Value.string s, Value.slice dq dn dc, Value.int IntKind.i64 N, Value.slice kq kn kc, Value.int IntKind.i64 nm, Value.int IntKind.u8 fi] (124 : Nat)))
             [(w.heap.size,
               [((0 : Nat), Value.int IntKind.i64 k), ((1 : Nat), Value.string s), ((2 : Nat), Value.slice dq dn dc), ((3 : Nat), Value.int IntKind.i64 N), ((4 : Nat), Value.slice kq kn kc),
                ((5 : Nat), Value.int IntKind.i64 nm), ((6 : Nat), Value.int IntKind.u8 fi)])] →
            Rets Tryd.prog (206 : Nat) #[Value.pointer p]
             (w.alloc
              (Obj.cells #[Value.int IntKind.i64 k, Value.string s, Value.slice dq dn dc, Value.int IntKind.i64 N, Value.slice kq kn kc, Value.int IntKind.i64 nm, Value.int IntKind.u8 fi] (124 : Nat)))
             fun (v27 : Value) (w28 : World) =>
             ∃ (i29 : Int),
              v27 = Value.int IntKind.i64 i29 ∧
               Keeps
                 (w.alloc
                  (Obj.cells #[Value.int IntKind.i64 k, Value.string s, Value.slice dq dn dc, Value.int IntKind.i64 N, Value.slice kq kn kc, Value.int IntKind.i64 nm, Value.int IntKind.u8 fi]
                   (124 : Nat)))
                 w28 [w.heap.size] ∧
                (Known w28
                  [(w.heap.size,
                    [((0 : Nat), Value.int IntKind.i64 k), ((1 : Nat), Value.string s), ((2 : Nat), Value.slice dq dn dc), ((3 : Nat), Value.int IntKind.i64 N), ((4 : Nat), Value.slice kq kn kc),
                     ((5 : Nat), Value.int IntKind.i64 nm), ((6 : Nat), Value.int IntKind.u8 fi)])] →
                 R (Ending.returned (Value.int IntKind.i64 i29)) w28)
          else
           Known
             (w.alloc
              (Obj.cells #[Value.int IntKind.i64 k, Value.string s, Value.slice dq dn dc, Value.int IntKind.i64 N, Value.slice kq kn kc, Value.int IntKind.i64 nm, Value.int IntKind.u8 fi] (124 : Nat)))
             [(w.heap.size,
               [((0 : Nat), Value.int IntKind.i64 k), ((1 : Nat), Value.string s), ((2 : Nat), Value.slice dq dn dc), ((3 : Nat), Value.int IntKind.i64 N), ((4 : Nat), Value.slice kq kn kc),
                ((5 : Nat), Value.int IntKind.i64 nm), ((6 : Nat), Value.int IntKind.u8 fi)])] →
            R (Ending.returned (Value.int IntKind.i64 (0 : Int)))
             (w.alloc
              (Obj.cells #[Value.int IntKind.i64 k, Value.string s, Value.slice dq dn dc, Value.int IntKind.i64 N, Value.slice kq kn kc, Value.int IntKind.i64 nm, Value.int IntKind.u8 fi] (124 : Nat)))
     else
      bif k == (9 : Int) then
       Known (w.alloc (Obj.cells #[Value.int IntKind.i64 k, Value.string s, Value.slice dq dn dc, Value.int IntKind.i64 N, Value.slice kq kn kc, Value.int IntKind.i64 nm, Value.int IntKind.u8 fi] (124 : Nat)))
         [(w.heap.size,
           [((0 : Nat), Value.int IntKind.i64 k), ((1 : Nat), Value.string s), ((2 : Nat), Value.slice dq dn dc), ((3 : Nat), Value.int IntKind.i64 N), ((4 : Nat), Value.slice kq kn kc),
            ((5 : Nat), Value.int IntKind.i64 nm), ((6 : Nat), Value.int IntKind.u8 fi)])] →
        Rets Tryd.prog (205 : Nat) #[Value.pointer p, Value.string s]
         (w.alloc (Obj.cells #[Value.int IntKind.i64 k, Value.string s, Value.slice dq dn dc, Value.int IntKind.i64 N, Value.slice kq kn kc, Value.int IntKind.i64 nm, Value.int IntKind.u8 fi] (124 : Nat)))
         fun (v30 : Value) (w31 : World) =>
         ∃ (i32 : Int),
          v30 = Value.int IntKind.i64 i32 ∧
           Keeps
             (w.alloc
              (Obj.cells #[Value.int IntKind.i64 k, Value.string s, Value.slice dq dn dc, Value.int IntKind.i64 N, Value.slice kq kn kc, Value.int IntKind.i64 nm, Value.int IntKind.u8 fi] (124 : Nat)))
             w31 [w.heap.size] ∧
            (Known w31
              [(w.heap.size,
                [((0 : Nat), Value.int IntKind.i64 k), ((1 : Nat), Value.string s), ((2 : Nat), Value.slice dq dn dc), ((3 : Nat), Value.int IntKind.i64 N), ((4 : Nat), Value.slice kq kn kc),
                 ((5 : Nat), Value.int IntKind.i64 nm), ((6 : Nat), Value.int IntKind.u8 fi)])] →
             R (Ending.returned (Value.int IntKind.i64 i32)) w31)
      else
       bif k == (11 : Int) then
        Known (w.alloc (Obj.cells #[Value.int IntKind.i64 k, Value.string s, Value.slice dq dn dc, Value.int IntKind.i64 N, Value.slice kq kn kc, Value.int IntKind.i64 nm, Value.int IntKind.u8 fi] (124 : Nat)))
          [(w.heap.size,
            [((0 : Nat), Value.int IntKind.i64 k), ((1 : Nat), Value.string s), ((2 : Nat), Value.slice dq dn dc), ((3 : Nat), Value.int IntKind.i64 N), ((4 : Nat), Value.slice kq kn kc),
             ((5 : Nat), Value.int IntKind.i64 nm), ((6 : Nat), Value.int IntKind.u8 fi)])] →
         Rets Tryd.prog (206 : Nat) #[Value.pointer p]
          (w.alloc (Obj.cells #[Value.int IntKind.i64 k, Value.string s, Value.slice dq dn dc, Value.int IntKind.i64 N, Value.slice kq kn kc, Value.int IntKind.i64 nm, Value.int IntKind.u8 fi] (124 : Nat)))
          fun (v33 : Value) (w34 : World) =>
          ∃ (i35 : Int),
           v33 = Value.int IntKind.i64 i35 ∧
            Keeps
              (w.alloc
               (Obj.cells #[Value.int IntKind.i64 k, Value.string s, Value.slice dq dn dc, Value.int IntKind.i64 N, Value.slice kq kn kc, Value.int IntKind.i64 nm, Value.int IntKind.u8 fi] (124 : Nat)))
              w34 [w.heap.size] ∧
             bif i35 != (0 : Int) then
              Known w34
                [(w.heap.size,
                  [((0 : Nat), Value.int IntKind.i64 k), ((1 : Nat), Value.string s), ((2 : Nat), Value.slice dq dn dc), ((3 : Nat), Value.int IntKind.i64 N), ((4 : Nat), Value.slice kq kn kc),
                   ((5 : Nat), Value.int IntKind.i64 nm), ((6 : Nat), Value.int IntKind.u8 fi)])] →
               R (Ending.returned (Value.int IntKind.i64 i35)) w34
             else
              Known w34
                [(w.heap.size,
                  [((0 : Nat), Value.int IntKind.i64 k), ((1 : Nat), Value.string s), ((2 : Nat), Value.slice dq dn dc), ((3 : Nat), Value.int IntKind.i64 N), ((4 : Nat), Value.slice kq kn kc),
                   ((5 : Nat), Value.int IntKind.i64 nm), ((6 : Nat), Value.int IntKind.u8 fi)])] →
               Rets Tryd.prog (205 : Nat) #[Value.pointer p, Value.string s] w34 fun (v36 : Value) (w37 : World) =>
                ∃ (i38 : Int),
                 v36 = Value.int IntKind.i64 i38 ∧
                  Keeps w34 w37 [w.heap.size] ∧
                   (Known w37
                     [(w.heap.size,
                      [((0 : Nat), Value.int IntKind.i64 k), ((1 : Nat), Value.string s), ((2 : Nat), Value.slice dq dn dc), ((3 : Nat), Value.int IntKind.i64 N),
                       ((4 : Nat), Value.slice kq kn kc), ((5 : Nat), Value.int IntKind.i64 nm), ((6 : Nat), Value.int IntKind.u8 fi)])] →
                    R (Ending.returned (Value.int IntKind.i64 i38)) w37)
       else
        bif k == (12 : Int) then
         bif k == (12 : Int) then
          Known
            (w.alloc (Obj.cells #[Value.int IntKind.i64 k, Value.string s, Value.slice dq dn dc, Value.int IntKind.i64 N, Value.slice kq kn kc, Value.int IntKind.i64 nm, Value.int IntKind.u8 fi] (124 : Nat)))
            [(w.heap.size,
              [((0 : Nat), Value.int IntKind.i64 k), ((1 : Nat), Value.string s), ((2 : Nat), Value.slice dq dn dc), ((3 : Nat), Value.int IntKind.i64 N), ((4 : Nat), Value.slice kq kn kc),
               ((5 : Nat), Value.int IntKind.i64 nm), ((6 : Nat), Value.int IntKind.u8 fi)])] →
           Rets Tryd.prog (206 : Nat) #[Value.pointer p]
            (w.alloc (Obj.cells #[Value.int IntKind.i64 k, Value.string s, Value.slice dq dn dc, Value.int IntKind.i64 N, Value.slice kq kn kc, Value.int IntKind.i64 nm, Value.int IntKind.u8 fi] (124 : Nat)))
            fun (v39 : Value) (w40 : World) =>
            ∃ (i41 : Int),
             v39 = Value.int IntKind.i64 i41 ∧
              Keeps
                (w.alloc
                 (Obj.cells #[Value.int IntKind.i64 k, Value.string s, Value.slice dq dn dc, Value.int IntKind.i64 N, Value.slice kq kn kc, Value.int IntKind.i64 nm, Value.int IntKind.u8 fi]
                  (124 : Nat)))
                w40 [w.heap.size] ∧
               (Known w40
                 [(w.heap.size,
                   [((0 : Nat), Value.int IntKind.i64 k), ((1 : Nat), Value.string s), ((2 : Nat), Value.slice dq dn dc), ((3 : Nat), Value.int IntKind.i64 N), ((4 : Nat), Value.slice kq kn kc),
                    ((5 : Nat), Value.int IntKind.i64 nm), ((6 : Nat), Value.int IntKind.u8 fi)])] →
                R (Ending.returned (Value.int IntKind.i64 i41)) w40)
         else
          Known
            (w.alloc (Obj.cells #[Value.int IntKind.i64 k, Value.string s, Value.slice dq dn dc, Value.int IntKind.i64 N, Value.slice kq kn kc, Value.int IntKind.i64 nm, Value.int IntKind.u8 fi] (124 : Nat)))
            [(w.heap.size,
              [((0 : Nat), Value.int IntKind.i64 k), ((1 : Nat), Value.string s), ((2 : Nat), Value.slice dq dn dc), ((3 : Nat), Value.int IntKind.i64 N), ((4 : Nat), Value.slice kq kn kc),
               ((5 : Nat), Value.int IntKind.i64 nm), ((6 : Nat), Value.int IntKind.u8 fi)])] →
           R (Ending.returned (Value.int IntKind.i64 (0 : Int)))
            (w.alloc (Obj.cells #[Value.int IntKind.i64 k, Value.string s, Value.slice dq dn dc, Value.int IntKind.i64 N, Value.slice kq kn kc, Value.int IntKind.i64 nm, Value.int IntKind.u8 fi] (124 : Nat)))
        else
         bif k == (13 : Int) then
          bif k == (13 : Int) then
           Known
             (w.alloc
              (Obj.cells #[Value.int IntKind.i64 k, Value.string s, Value.slice dq dn dc, Value.int IntKind.i64 N, Value.slice kq kn kc, Value.int IntKind.i64 nm, Value.int IntKind.u8 fi] (124 : Nat)))
             [(w.heap.size,
               [((0 : Nat), Value.int IntKind.i64 k), ((1 : Nat), Value.string s), ((2 : Nat), Value.slice dq dn dc), ((3 : Nat), Value.int IntKind.i64 N), ((4 : Nat), Value.slice kq kn kc),
                ((5 : Nat), Value.int IntKind.i64 nm), ((6 : Nat), Value.int IntKind.u8 fi)])] →
            Rets Tryd.prog (206 : Nat) #[Value.pointer p]
             (w.alloc
              (Obj.cells #[Value.int IntKind.i64 k, Value.string s, Value.slice dq dn dc, Value.int IntKind.i64 N, Value.slice kq kn kc, Value.int IntKind.i64 nm, Value.int IntKind.u8 fi] (124 : Nat)))
             fun (v42 : Value) (w43 : World) =>
             ∃ (i44 : Int),
              v42 = Value.int IntKind.i64 i44 ∧
               Keeps
                 (w.alloc
                  (Obj.cells #[Value.int IntKind.i64 k, Value.string s, Value.slice dq dn dc, Value.int IntKind.i64 N, Value.slice kq kn kc, Value.int IntKind.i64 nm, Value.int IntKind.u8 fi]
                   (124 : Nat)))
                 w43 [w.heap.size] ∧
                (Known w43
                  [(w.heap.size,
                    [((0 : Nat), Value.int IntKind.i64 k), ((1 : Nat), Value.string s), ((2 : Nat), Value.slice dq dn dc), ((3 : Nat), Value.int IntKind.i64 N), ((4 : Nat), Value.slice kq kn kc),
                     ((5 : Nat), Value.int IntKind.i64 nm), ((6 : Nat), Value.int IntKind.u8 fi)])] →
                 R (Ending.returned (Value.int IntKind.i64 i44)) w43)
          else
           Known
             (w.alloc
              (Obj.cells #[Value.int IntKind.i64 k, Value.string s, Value.slice dq dn dc, Value.int IntKind.i64 N, Value.slice kq kn kc, Value.int IntKind.i64 nm, Value.int IntKind.u8 fi] (124 : Nat)))
             [(w.heap.size,
               [((0 : Nat), Value.int IntKind.i64 k), ((1 : Nat), Value.string s), ((2 : Nat), Value.slice dq dn dc), ((3 : Nat), Value.int IntKind.i64 N), ((4 : Nat), Value.slice kq kn kc),
                ((5 : Nat), Value.int IntKind.i64 nm), ((6 : Nat), Value.int IntKind.u8 fi)])] →
            R (Ending.returned (Value.int IntKind.i64 (0 : Int)))
             (w.alloc
              (Obj.cells #[Value.int IntKind.i64 k, Value.string s, Value.slice dq dn dc, Value.int IntKind.i64 N, Value.slice kq kn kc, Value.int IntKind.i64 nm, Value.int IntKind.u8 fi] (124 : Nat)))
         else
          bif k == (14 : Int) then
           Known
             (w.alloc
              (Obj.cells #[Value.int IntKind.i64 k, Value.string s, Value.slice dq dn dc, Value.int IntKind.i64 N, Value.slice kq kn kc, Value.int IntKind.i64 nm, Value.int IntKind.u8 fi] (124 : Nat)))
             [(w.heap.size,
               [((0 : Nat), Value.int IntKind.i64 k), ((1 : Nat), Value.string s), ((2 : Nat), Value.slice dq dn dc), ((3 : Nat), Value.int IntKind.i64 N), ((4 : Nat), Value.slice kq kn kc),
                ((5 : Nat), Value.int IntKind.i64 nm), ((6 : Nat), Value.int IntKind.u8 fi)])] →
            Rets Tryd.prog (206 : Nat) #[Value.pointer p]
             (w.alloc
              (Obj.cells #[Value.int IntKind.i64 k, Value.string s, Value.slice dq dn dc, Value.int IntKind.i64 N, Value.slice kq kn kc, Value.int IntKind.i64 nm, Value.int IntKind.u8 fi] (124 : Nat)))
             fun (v45 : Value) (w46 : World) =>
             ∃ (i47 : Int),
              v45 = Value.int IntKind.i64 i47 ∧
               Keeps
                 (w.alloc
                  (Obj.cells #[Value.int IntKind.i64 k, Value.string s, Value.slice dq dn dc, Value.int IntKind.i64 N, Value.slice kq kn kc, Value.int IntKind.i64 nm, Value.int IntKind.u8 fi]
                   (124 : Nat)))
                 w46 [w.heap.size] ∧
                (Known w46
                  [(w.heap.size,
                    [((0 : Nat), Value.int IntKind.i64 k), ((1 : Nat), Value.string s), ((2 : Nat), Value.slice dq dn dc), ((3 : Nat), Value.int IntKind.i64 N), ((4 : Nat), Value.slice kq kn kc),
                     ((5 : Nat), Value.int IntKind.i64 nm), ((6 : Nat), Value.int IntKind.u8 fi)])] →
                 R (Ending.returned (Value.int IntKind.i64 i47)) w46)
          else
           Known
             (w.alloc
              (Obj.cells #[Value.int IntKind.i64 k, Value.string s, Value.slice dq dn dc, Value.int IntKind.i64 N, Value.slice kq kn kc, Value.int IntKind.i64 nm, Value.int IntKind.u8 fi] (124 : Nat)))
             [(w.heap.size,
               [((0 : Nat), Value.int IntKind.i64 k), ((1 : Nat), Value.string s), ((2 : Nat), Value.slice dq dn dc), ((3 : Nat), Value.int IntKind.i64 N), ((4 : Nat), Value.slice kq kn kc),
                ((5 : Nat), Value.int IntKind.i64 nm), ((6 : Nat), Value.int IntKind.u8 fi)])] →
            R (Ending.returned (Value.int IntKind.i64 (0 : Int)))
             (w.alloc
              (Obj.cells #[Value.int IntKind.i64 k, Value.string s, Value.slice dq dn dc, Value.int IntKind.i64 N, Value.slice kq kn kc, Value.int IntKind.i64 nm, Value.int IntKind.u8 fi] (124 : Nat)))
   else
    bif k == (7 : Int) then
     Known (w.alloc (Obj.cells #[Value.int IntKind.i64 k, Value.string s, Value.slice dq dn dc, Value.int IntKind.i64 N, Value.slice kq kn kc, Value.int IntKind.i64 nm, Value.int IntKind.u8 fi] (124 : Nat)))
       [(w.heap.size,
         [((0 : Nat), Value.int IntKind.i64 k), ((1 : Nat), Value.string s), ((2 : Nat), Value.slice dq dn dc), ((3 : Nat), Value.int IntKind.i64 N), ((4 : Nat), Value.slice kq kn kc),
          ((5 : Nat), Value.int IntKind.i64 nm), ((6 : Nat), Value.int IntKind.u8 fi)])] →
      Rets Tryd.prog (204 : Nat) #[Value.pointer p, Value.int IntKind.i64 (0 : Int)]
       (w.alloc (Obj.cells #[Value.int IntKind.i64 k, Value.string s, Value.slice dq dn dc, Value.int IntKind.i64 N, Value.slice kq kn kc, Value.int IntKind.i64 nm, Value.int IntKind.u8 fi] (124 : Nat)))
       fun (v48 : Value) (w49 : World) =>
       ∃ (i50 : Int),
        v48 = Value.int IntKind.i64 i50 ∧
         Keeps (w.alloc (Obj.cells #[Value.int IntKind.i64 k, Value.string s, Value.slice dq dn dc, Value.int IntKind.i64 N, Value.slice kq kn kc, Value.int IntKind.i64 nm, Value.int IntKind.u8 fi] (124 : Nat)))
           w49 [w.heap.size] ∧
          (Known w49
            [(w.heap.size,
              [((0 : Nat), Value.int IntKind.i64 k), ((1 : Nat), Value.string s), ((2 : Nat), Value.slice dq dn dc), ((3 : Nat), Value.int IntKind.i64 N), ((4 : Nat), Value.slice kq kn kc),
               ((5 : Nat), Value.int IntKind.i64 nm), ((6 : Nat), Value.int IntKind.u8 fi)])] →
           R (Ending.returned (Value.int IntKind.i64 i50)) w49)
    else
     bif k == (8 : Int) then
      bif k == (8 : Int) then
       Known (w.alloc (Obj.cells #[Value.int IntKind.i64 k, Value.string s, Value.slice dq dn dc, Value.int IntKind.i64 N, Value.slice kq kn kc, Value.int IntKind.i64 nm, Value.int IntKind.u8 fi] (124 : Nat)))
         [(w.heap.size,
           [((0 : Nat), Value.int IntKind.i64 k), ((1 : Nat), Value.string s), ((2 : Nat), Value.slice dq dn dc), ((3 : Nat), Value.int IntKind.i64 N), ((4 : Nat), Value.slice kq kn kc),
            ((5 : Nat), Value.int IntKind.i64 nm), ((6 : Nat), Value.int IntKind.u8 fi)])] →
        Rets Tryd.prog (205 : Nat) #[Value.pointer p, Value.string s]
         (w.alloc (Obj.cells #[Value.int IntKind.i64 k, Value.string s, Value.slice dq dn dc, Value.int IntKind.i64 N, Value.slice kq kn kc, Value.int IntKind.i64 nm, Value.int IntKind.u8 fi] (124 : Nat)))
         fun (v51 : Value) (w52 : World) =>
         ∃ (i53 : Int),
          v51 = Value.int IntKind.i64 i53 ∧
           Keeps
             (w.alloc
              (Obj.cells #[Value.int IntKind.i64 k, Value.string s, Value.slice dq dn dc, Value.int IntKind.i64 N, Value.slice kq kn kc, Value.int IntKind.i64 nm, Value.int IntKind.u8 fi] (124 : Nat)))
             w52 [w.heap.size] ∧
            (Known w52
              [(w.heap.size,
                [((0 : Nat), Value.int IntKind.i64 k), ((1 : Nat), Value.string s), ((2 : Nat), Value.slice dq dn dc), ((3 : Nat), Value.int IntKind.i64 N), ((4 : Nat), Value.slice kq kn kc),
                 ((5 : Nat), Value.int IntKind.i64 nm), ((6 : Nat), Value.int IntKind.u8 fi)])] →
             R (Ending.returned (Value.int IntKind.i64 i53)) w52)
      else
       bif k == (11 : Int) then
        Known (w.alloc (Obj.cells #[Value.int IntKind.i64 k, Value.string s, Value.slice dq dn dc, Value.int IntKind.i64 N, Value.slice kq kn kc, Value.int IntKind.i64 nm, Value.int IntKind.u8 fi] (124 : Nat)))
          [(w.heap.size,
            [((0 : Nat), Value.int IntKind.i64 k), ((1 : Nat), Value.string s), ((2 : Nat), Value.slice dq dn dc), ((3 : Nat), Value.int IntKind.i64 N), ((4 : Nat), Value.slice kq kn kc),
             ((5 : Nat), Value.int IntKind.i64 nm), ((6 : Nat), Value.int IntKind.u8 fi)])] →
         Rets Tryd.prog (206 : Nat) #[Value.pointer p]
          (w.alloc (Obj.cells #[Value.int IntKind.i64 k, Value.string s, Value.slice dq dn dc, Value.int IntKind.i64 N, Value.slice kq kn kc, Value.int IntKind.i64 nm, Value.int IntKind.u8 fi] (124 : Nat)))
          fun (v54 : Value) (w55 : World) =>
          ∃ (i56 : Int),
           v54 = Value.int IntKind.i64 i56 ∧
            Keeps
              (w.alloc
               (Obj.cells #[Value.int IntKind.i64 k, Value.string s, Value.slice dq dn dc, Value.int IntKind.i64 N, Value.slice kq kn kc, Value.int IntKind.i64 nm, Value.int IntKind.u8 fi] (124 : Nat)))
              w55 [w.heap.size] ∧
             bif i56 != (0 : Int) then
              Known w55
                [(w.heap.size,
                  [((0 : Nat), Value.int IntKind.i64 k), ((1 : Nat), Value.string s), ((2 : Nat), Value.slice dq dn dc), ((3 : Nat), Value.int IntKind.i64 N), ((4 : Nat), Value.slice kq kn kc),
                   ((5 : Nat), Value.int IntKind.i64 nm), ((6 : Nat), Value.int IntKind.u8 fi)])] →
               R (Ending.returned (Value.int IntKind.i64 i56)) w55
             else
              Known w55
                [(w.heap.size,
                  [((0 : Nat), Value.int IntKind.i64 k), ((1 : Nat), Value.string s), ((2 : Nat), Value.slice dq dn dc), ((3 : Nat), Value.int IntKind.i64 N), ((4 : Nat), Value.slice kq kn kc),
                   ((5 : Nat), Value.int IntKind.i64 nm), ((6 : Nat), Value.int IntKind.u8 fi)])] →
               Rets Tryd.prog (205 : Nat) #[Value.pointer p, Value.string s] w55 fun (v57 : Value) (w58 : World) =>
                ∃ (i59 : Int),
                 v57 = Value.int IntKind.i64 i59 ∧
                  Keeps w55 w58 [w.heap.size] ∧
                   (Known w58
                     [(w.heap.size,
                      [((0 : Nat), Value.int IntKind.i64 k), ((1 : Nat), Value.string s), ((2 : Nat), Value.slice dq dn dc), ((3 : Nat), Value.int IntKind.i64 N),
                       ((4 : Nat), Value.slice kq kn kc), ((5 : Nat), Value.int IntKind.i64 nm), ((6 : Nat), Value.int IntKind.u8 fi)])] →
                    R (Ending.returned (Value.int IntKind.i64 i59)) w58)
       else
        bif k == (12 : Int) then
         bif k == (12 : Int) then
          Known
            (w.alloc (Obj.cells #[Value.int IntKind.i64 k, Value.string s, Value.slice dq dn dc, Value.int IntKind.i64 N, Value.slice kq kn kc, Value.int IntKind.i64 nm, Value.int IntKind.u8 fi] (124 : Nat)))
            [(w.heap.size,
              [((0 : Nat), Value.int IntKind.i64 k), ((1 : Nat), Value.string s), ((2 : Nat), Value.slice dq dn dc), ((3 : Nat), Value.int IntKind.i64 N), ((4 : Nat), Value.slice kq kn kc),
               ((5 : Nat), Value.int IntKind.i64 nm), ((6 : Nat), Value.int IntKind.u8 fi)])] →
           Rets Tryd.prog (206 : Nat) #[Value.pointer p]
            (w.alloc (Obj.cells #[Value.int IntKind.i64 k, Value.string s, Value.slice dq dn dc, Value.int IntKind.i64 N, Value.slice kq kn kc, Value.int IntKind.i64 nm, Value.int IntKind.u8 fi] (124 : Nat)))
            fun (v60 : Value) (w61 : World) =>
            ∃ (i62 : Int),
             v60 = Value.int IntKind.i64 i62 ∧
              Keeps
                (w.alloc
                 (Obj.cells #[Value.int IntKind.i64 k, Value.string s, Value.slice dq dn dc, Value.int IntKind.i64 N, Value.slice kq kn kc, Value.int IntKind.i64 nm, Value.int IntKind.u8 fi]
                  (124 : Nat)))
                w61 [w.heap.size] ∧
               (Known w61
                 [(w.heap.size,
                   [((0 : Nat), Value.int IntKind.i64 k), ((1 : Nat), Value.string s), ((2 : Nat), Value.slice dq dn dc), ((3 : Nat), Value.int IntKind.i64 N), ((4 : Nat), Value.slice kq kn kc),
                    ((5 : Nat), Value.int IntKind.i64 nm), ((6 : Nat), Value.int IntKind.u8 fi)])] →
                R (Ending.returned (Value.int IntKind.i64 i62)) w61)
         else
          Known
            (w.alloc (Obj.cells #[Value.int IntKind.i64 k, Value.string s, Value.slice dq dn dc, Value.int IntKind.i64 N, Value.slice kq kn kc, Value.int IntKind.i64 nm, Value.int IntKind.u8 fi] (124 : Nat)))
            [(w.heap.size,
              [((0 : Nat), Value.int IntKind.i64 k), ((1 : Nat), Value.string s), ((2 : Nat), Value.slice dq dn dc), ((3 : Nat), Value.int IntKind.i64 N), ((4 : Nat), Value.slice kq kn kc),
               ((5 : Nat), Value.int IntKind.i64 nm), ((6 : Nat), Value.int IntKind.u8 fi)])] →
           R (Ending.returned (Value.int IntKind.i64 (0 : Int)))
            (w.alloc (Obj.cells #[Value.int IntKind.i64 k, Value.string s, Value.slice dq dn dc, Value.int IntKind.i64 N, Value.slice kq kn kc, Value.int IntKind.i64 nm, Value.int IntKind.u8 fi] (124 : Nat)))
        else
         bif k == (13 : Int) then
          bif k == (13 : Int) then
           Known
             (w.alloc
              (Obj.cells #[Value.int IntKind.i64 k, Value.string s, Value.slice dq dn dc, Value.int IntKind.i64 N, Value.slice kq kn kc, Value.int IntKind.i64 nm, Value.int IntKind.u8 fi] (124 : Nat)))
             [(w.heap.size,
               [((0 : Nat), Value.int IntKind.i64 k), ((1 : Nat), Value.string s), ((2 : Nat), Value.slice dq dn dc), ((3 : Nat), Value.int IntKind.i64 N), ((4 : Nat), Value.slice kq kn kc),
                ((5 : Nat), Value.int IntKind.i64 nm), ((6 : Nat), Value.int IntKind.u8 fi)])] →
            Rets Tryd.prog (206 : Nat) #[Value.pointer p]
             (w.alloc
              (Obj.cells #[Value.int IntKind.i64 k, Value.string s, Value.slice dq dn dc, Value.int IntKind.i64 N, Value.slice kq kn kc, Value.int IntKind.i64 nm, Value.int IntKind.u8 fi] (124 : Nat)))
             fun (v63 : Value) (w64 : World) =>
             ∃ (i65 : Int),
              v63 = Value.int IntKind.i64 i65 ∧
               Keeps
                 (w.alloc
                  (Obj.cells #[Value.int IntKind.i64 k, Value.string s, Value.slice dq dn dc, Value.int IntKind.i64 N, Value.slice kq kn kc, Value.int IntKind.i64 nm, Value.int IntKind.u8 fi]
                   (124 : Nat)))
                 w64 [w.heap.size] ∧
                (Known w64
                  [(w.heap.size,
                    [((0 : Nat), Value.int IntKind.i64 k), ((1 : Nat), Value.string s), ((2 : Nat), Value.slice dq dn dc), ((3 : Nat), Value.int IntKind.i64 N), ((4 : Nat), Value.slice kq kn kc),
                     ((5 : Nat), Value.int IntKind.i64 nm), ((6 : Nat), Value.int IntKind.u8 fi)])] →
                 R (Ending.returned (Value.int IntKind.i64 i65)) w64)
          else
           Known
             (w.alloc
              (Obj.cells #[Value.int IntKind.i64 k, Value.string s, Value.slice dq dn dc, Value.int IntKind.i64 N, Value.slice kq kn kc, Value.int IntKind.i64 nm, Value.int IntKind.u8 fi] (124 : Nat)))
             [(w.heap.size,
               [((0 : Nat), Value.int IntKind.i64 k), ((1 : Nat), Value.string s), ((2 : Nat), Value.slice dq dn dc), ((3 : Nat), Value.int IntKind.i64 N), ((4 : Nat), Value.slice kq kn kc),
                ((5 : Nat), Value.int IntKind.i64 nm), ((6 : Nat), Value.int IntKind.u8 fi)])] →
            R (Ending.returned (Value.int IntKind.i64 (0 : Int)))
             (w.alloc
              (Obj.cells #[Value.int IntKind.i64 k, Value.string s, Value.slice dq dn dc, Value.int IntKind.i64 N, Value.slice kq kn kc, Value.int IntKind.i64 nm, Value.int IntKind.u8 fi] (124 : Nat)))
         else
          bif k == (14 : Int) then
           Known
             (w.alloc
              (Obj.cells #[Value.int IntKind.i64 k, Value.string s, Value.slice dq dn dc, Value.int IntKind.i64 N, Value.slice kq kn kc, Value.int IntKind.i64 nm, Value.int IntKind.u8 fi] (124 : Nat)))
             [(w.heap.size,
               [((0 : Nat), Value.int IntKind.i64 k), ((1 : Nat), Value.string s), ((2 : Nat), Value.slice dq dn dc), ((3 : Nat), Value.int IntKind.i64 N), ((4 : Nat), Value.slice kq kn kc),
                ((5 : Nat), Value.int IntKind.i64 nm), ((6 : Nat), Value.int IntKind.u8 fi)])] →
            Rets Tryd.prog (206 : Nat) #[Value.pointer p]
             (w.alloc
              (Obj.cells #[Value.int IntKind.i64 k, Value.string s, Value.slice dq dn dc, Value.int IntKind.i64 N, Value.slice kq kn kc, Value.int IntKind.i64 nm, Value.int IntKind.u8 fi] (124 : Nat)))
             fun (v66 : Value) (w67 : World) =>
             ∃ (i68 : Int),
              v66 = Value.int IntKind.i64 i68 ∧
               Keeps
                 (w.alloc
                  (Obj.cells #[Value.int IntKind.i64 k, Value.string s, Value.slice dq dn dc, Value.int IntKind.i64 N, Value.slice kq kn kc, Value.int IntKind.i64 nm, Value.int IntKind.u8 fi]
                   (124 : Nat)))
                 w67 [w.heap.size] ∧
                (Known w67
                  [(w.heap.size,
                    [((0 : Nat), Value.int IntKind.i64 k), ((1 : Nat), Value.string s), ((2 : Nat), Value.slice dq dn dc), ((3 : Nat), Value.int IntKind.i64 N), ((4 : Nat), Value.slice kq kn kc),
                     ((5 : Nat), Value.int IntKind.i64 nm), ((6 : Nat), Value.int IntKind.u8 fi)])] →
                 R (Ending.returned (Value.int IntKind.i64 i68)) w67)
          else
           Known
             (w.alloc
              (Obj.cells #[Value.int IntKind.i64 k, Value.string s, Value.slice dq dn dc, Value.int IntKind.i64 N, Value.slice kq kn kc, Value.int IntKind.i64 nm, Value.int IntKind.u8 fi] (124 : Nat)))
             [(w.heap.size,
               [((0 : Nat), Value.int IntKind.i64 k), ((1 : Nat), Value.string s), ((2 : Nat), Value.slice dq dn dc), ((3 : Nat), Value.int IntKind.i64 N), ((4 : Nat), Value.slice kq kn kc),
                ((5 : Nat), Value.int IntKind.i64 nm), ((6 : Nat), Value.int IntKind.u8 fi)])] →
            R (Ending.returned (Value.int IntKind.i64 (0 : Int)))
             (w.alloc
              (Obj.cells #[Value.int IntKind.i64 k, Value.string s, Value.slice dq dn dc, Value.int IntKind.i64 N, Value.slice kq kn kc, Value.int IntKind.i64 nm, Value.int IntKind.u8 fi] (124 : Nat)))
     else
      bif k == (9 : Int) then
       Known (w.alloc (Obj.cells #[Value.int IntKind.i64 k, Value.string s, Value.slice dq dn dc, Value.int IntKind.i64 N, Value.slice kq kn kc, Value.int IntKind.i64 nm, Value.int IntKind.u8 fi] (124 : Nat)))
         [(w.heap.size,
           [((0 : Nat), Value.int IntKind.i64 k), ((1 : Nat), Value.string s), ((2 : Nat), Value.slice dq dn dc), ((3 : Nat), Value.int IntKind.i64 N), ((4 : Nat), Value.slice kq kn kc),
            ((5 : Nat), Value.int IntKind.i64 nm), ((6 : Nat), Value.int IntKind.u8 fi)])] →
        Rets Tryd.prog (205 : Nat) #[Value.pointer p, Value.string s]
         (w.alloc (Obj.cells #[Value.int IntKind.i64 k, Value.string s, Value.slice dq dn dc, Value.int IntKind.i64 N, Value.slice kq kn kc, Value.int IntKind.i64 nm, Value.int IntKind.u8 fi] (124 : Nat)))
         fun (v69 : Value) (w70 : World) =>
         ∃ (i71 : Int),
          v69 = Value.int IntKind.i64 i71 ∧
           Keeps
             (w.alloc
              (Obj.cells #[Value.int IntKind.i64 k, Value.string s, Value.slice dq dn dc, Value.int IntKind.i64 N, Value.slice kq kn kc, Value.int IntKind.i64 nm, Value.int IntKind.u8 fi] (124 : Nat)))
             w70 [w.heap.size] ∧
            (Known w70
              [(w.heap.size,
                [((0 : Nat), Value.int IntKind.i64 k), ((1 : Nat), Value.string s), ((2 : Nat), Value.slice dq dn dc), ((3 : Nat), Value.int IntKind.i64 N), ((4 : Nat), Value.slice kq kn kc),
                 ((5 : Nat), Value.int IntKind.i64 nm), ((6 : Nat), Value.int IntKind.u8 fi)])] →
             R (Ending.returned (Value.int IntKind.i64 i71)) w70)
      else
       bif k == (11 : Int) then
        Known (w.alloc (Obj.cells #[Value.int IntKind.i64 k, Value.string s, Value.slice dq dn dc, Value.int IntKind.i64 N, Value.slice kq kn kc, Value.int IntKind.i64 nm, Value.int IntKind.u8 fi] (124 : Nat)))
          [(w.heap.size,
            [((0 : Nat), Value.int IntKind.i64 k), ((1 : Nat), Value.string s), ((2 : Nat), Value.slice dq dn dc), ((3 : Nat), Value.int IntKind.i64 N), ((4 : Nat), Value.slice kq kn kc),
             ((5 : Nat), Value.int IntKind.i64 nm), ((6 : Nat), Value.int IntKind.u8 fi)])] →
         Rets Tryd.prog (206 : Nat) #[Value.pointer p]
          (w.alloc (Obj.cells #[Value.int IntKind.i64 k, Value.string s, Value.slice dq dn dc, Value.int IntKind.i64 N, Value.slice kq kn kc, Value.int IntKind.i64 nm, Value.int IntKind.u8 fi] (124 : Nat)))
          fun (v72 : Value) (w73 : World) =>
          ∃ (i74 : Int),
           v72 = Value.int IntKind.i64 i74 ∧
            Keeps
              (w.alloc
               (Obj.cells #[Value.int IntKind.i64 k, Value.string s, Value.slice dq dn dc, Value.int IntKind.i64 N, Value.slice kq kn kc, Value.int IntKind.i64 nm, Value.int IntKind.u8 fi] (124 : Nat)))
              w73 [w.heap.size] ∧
             bif i74 != (0 : Int) then
              Known w73
                [(w.heap.size,
                  [((0 : Nat), Value.int IntKind.i64 k), ((1 : Nat), Value.string s), ((2 : Nat), Value.slice dq dn dc), ((3 : Nat), Value.int IntKind.i64 N), ((4 : Nat), Value.slice kq kn kc),
                   ((5 : Nat), Value.int IntKind.i64 nm), ((6 : Nat), Value.int IntKind.u8 fi)])] →
               R (Ending.returned (Value.int IntKind.i64 i74)) w73
             else
              Known w73
                [(w.heap.size,
                  [((0 : Nat), Value.int IntKind.i64 k), ((1 : Nat), Value.string s), ((2 : Nat), Value.slice dq dn dc), ((3 : Nat), Value.int IntKind.i64 N), ((4 : Nat), Value.slice kq kn kc),
                   ((5 : Nat), Value.int IntKind.i64 nm), ((6 : Nat), Value.int IntKind.u8 fi)])] →
               Rets Tryd.prog (205 : Nat) #[Value.pointer p, Value.string s] w73 fun (v75 : Value) (w76 : World) =>
                ∃ (i77 : Int),
                 v75 = Value.int IntKind.i64 i77 ∧
                  Keeps w73 w76 [w.heap.size] ∧
                   (Known w76
                     [(w.heap.size,
                      [((0 : Nat), Value.int IntKind.i64 k), ((1 : Nat), Value.string s), ((2 : Nat), Value.slice dq dn dc), ((3 : Nat), Value.int IntKind.i64 N),
                       ((4 : Nat), Value.slice kq kn kc), ((5 : Nat), Value.int IntKind.i64 nm), ((6 : Nat), Value.int IntKind.u8 fi)])] →
                    R (Ending.returned (Value.int IntKind.i64 i77)) w76)
       else
        bif k == (12 : Int) then
         bif k == (12 : Int) then
          Known
            (w.alloc (Obj.cells #[Value.int IntKind.i64 k, Value.string s, Value.slice dq dn dc, Value.int IntKind.i64 N, Value.slice kq kn kc, Value.int IntKind.i64 nm, Value.int IntKind.u8 fi] (124 : Nat)))
            [(w.heap.size,
              [((0 : Nat), Value.int IntKind.i64 k), ((1 : Nat), Value.string s), ((2 : Nat), Value.slice dq dn dc), ((3 : Nat), Value.int IntKind.i64 N), ((4 : Nat), Value.slice kq kn kc),
               ((5 : Nat), Value.int IntKind.i64 nm), ((6 : Nat), Value.int IntKind.u8 fi)])] →
           Rets Tryd.prog (206 : Nat) #[Value.pointer p]
            (w.alloc (Obj.cells #[Value.int IntKind.i64 k, Value.string s, Value.slice dq dn dc, Value.int IntKind.i64 N, Value.slice kq kn kc, Value.int IntKind.i64 nm, Value.int IntKind.u8 fi] (124 : Nat)))
            fun (v78 : Value) (w79 : World) =>
            ∃ (i80 : Int),
             v78 = Value.int IntKind.i64 i80 ∧
              Keeps
                (w.alloc
                 (Obj.cells #[Value.int IntKind.i64 k, Value.string s, Value.slice dq dn dc, Value.int IntKind.i64 N, Value.slice kq kn kc, Value.int IntKind.i64 nm, Value.int IntKind.u8 fi]
                  (124 : Nat)))
                w79 [w.heap.size] ∧
               (Known w79
                 [(w.heap.size,
                   [((0 : Nat), Value.int IntKind.i64 k), ((1 : Nat), Value.string s), ((2 : Nat), Value.slice dq dn dc), ((3 : Nat), Value.int IntKind.i64 N), ((4 : Nat), Value.slice kq kn kc),
                    ((5 : Nat), Value.int IntKind.i64 nm), ((6 : Nat), Value.int IntKind.u8 fi)])] →
                R (Ending.returned (Value.int IntKind.i64 i80)) w79)
         else
          Known
            (w.alloc (Obj.cells #[Value.int IntKind.i64 k, Value.string s, Value.slice dq dn dc, Value.int IntKind.i64 N, Value.slice kq kn kc, Value.int IntKind.i64 nm, Value.int IntKind.u8 fi] (124 : Nat)))
            [(w.heap.size,
              [((0 : Nat), Value.int IntKind.i64 k), ((1 : Nat), Value.string s), ((2 : Nat), Value.slice dq dn dc), ((3 : Nat), Value.int IntKind.i64 N), ((4 : Nat), Value.slice kq kn kc),
               ((5 : Nat), Value.int IntKind.i64 nm), ((6 : Nat), Value.int IntKind.u8 fi)])] →
           R (Ending.returned (Value.int IntKind.i64 (0 : Int)))
            (w.alloc (Obj.cells #[Value.int IntKind.i64 k, Value.string s, Value.slice dq dn dc, Value.int IntKind.i64 N, Value.slice kq kn kc, Value.int IntKind.i64 nm, Value.int IntKind.u8 fi] (124 : Nat)))
        else
         bif k == (13 : Int) then
          bif k == (13 : Int) then
           Known
             (w.alloc
              (Obj.cells #[Value.int IntKind.i64 k, Value.string s, Value.slice dq dn dc, Value.int IntKind.i64 N, Value.slice kq kn kc, Value.int IntKind.i64 nm, Value.int IntKind.u8 fi] (124 : Nat)))
             [(w.heap.size,
               [((0 : Nat), Value.int IntKind.i64 k), ((1 : Nat), Value.string s), ((2 : Nat), Value.slice dq dn dc), ((3 : Nat), Value.int IntKind.i64 N), ((4 : Nat), Value.slice kq kn kc),
                ((5 : Nat), Value.int IntKind.i64 nm), ((6 : Nat), Value.int IntKind.u8 fi)])] →
            Rets Tryd.prog (206 : Nat) #[Value.pointer p]
             (w.alloc
              (Obj.cells #[Value.int IntKind.i64 k, Value.string s, Value.slice dq dn dc, Value.int IntKind.i64 N, Value.slice kq kn kc, Value.int IntKind.i64 nm, Value.int IntKind.u8 fi] (124 : Nat)))
             fun (v81 : Value) (w82 : World) =>
             ∃ (i83 : Int),
              v81 = Value.int IntKind.i64 i83 ∧
               Keeps
                 (w.alloc
                  (Obj.cells #[Value.int IntKind.i64 k, Value.string s, Value.slice dq dn dc, Value.int IntKind.i64 N, Value.slice kq kn kc, Value.int IntKind.i64 nm, Value.int IntKind.u8 fi]
                   (124 : Nat)))
                 w82 [w.heap.size] ∧
                (Known w82
                  [(w.heap.size,
                    [((0 : Nat), Value.int IntKind.i64 k), ((1 : Nat), Value.string s), ((2 : Nat), Value.slice dq dn dc), ((3 : Nat), Value.int IntKind.i64 N), ((4 : Nat), Value.slice kq kn kc),
                     ((5 : Nat), Value.int IntKind.i64 nm), ((6 : Nat), Value.int IntKind.u8 fi)])] →
                 R (Ending.returned (Value.int IntKind.i64 i83)) w82)
          else
           Known
             (w.alloc
              (Obj.cells #[Value.int IntKind.i64 k, Value.string s, Value.slice dq dn dc, Value.int IntKind.i64 N, Value.slice kq kn kc, Value.int IntKind.i64 nm, Value.int IntKind.u8 fi] (124 : Nat)))
             [(w.heap.size,
               [((0 : Nat), Value.int IntKind.i64 k), ((1 : Nat), Value.string s), ((2 : Nat), Value.slice dq dn dc), ((3 : Nat), Value.int IntKind.i64 N), ((4 : Nat), Value.slice kq kn kc),
                ((5 : Nat), Value.int IntKind.i64 nm), ((6 : Nat), Value.int IntKind.u8 fi)])] →
            R (Ending.returned (Value.int IntKind.i64 (0 : Int)))
             (w.alloc
              (Obj.cells #[Value.int IntKind.i64 k, Value.string s, Value.slice dq dn dc, Value.int IntKind.i64 N, Value.slice kq kn kc, Value.int IntKind.i64 nm, Value.int IntKind.u8 fi] (124 : Nat)))
         else
          bif k == (14 : Int) then
           Known
             (w.alloc
              (Obj.cells #[Value.int IntKind.i64 k, Value.string s, Value.slice dq dn dc, Value.int IntKind.i64 N, Value.slice kq kn kc, Value.int IntKind.i64 nm, Value.int IntKind.u8 fi] (124 : Nat)))
             [(w.heap.size,
               [((0 : Nat), Value.int IntKind.i64 k), ((1 : Nat), Value.string s), ((2 : Nat), Value.slice dq dn dc), ((3 : Nat), Value.int IntKind.i64 N), ((4 : Nat), Value.slice kq kn kc),
                ((5 : Nat), Value.int IntKind.i64 nm), ((6 : Nat), Value.int IntKind.u8 fi)])] →
            Rets Tryd.prog (206 : Nat) #[Value.pointer p]
             (w.alloc
              (Obj.cells #[Value.int IntKind.i64 k, Value.string s, Value.slice dq dn dc, Value.int IntKind.i64 N, Value.slice kq kn kc, Value.int IntKind.i64 nm, Value.int IntKind.u8 fi] (124 : Nat)))
             fun (v84 : Value) (w85 : World) =>
             ∃ (i86 : Int),
              v84 = Value.int IntKind.i64 i86 ∧
               Keeps
                 (w.alloc
                  (Obj.cells #[Value.int IntKind.i64 k, Value.string s, Value.slice dq dn dc, Value.int IntKind.i64 N, Value.slice kq kn kc, Value.int IntKind.i64 nm, Value.int IntKind.u8 fi]
                   (124 : Nat)))
                 w85 [w.heap.size] ∧
                (Known w85
                  [(w.heap.size,
                    [((0 : Nat), Value.int IntKind.i64 k), ((1 : Nat), Value.string s), ((2 : Nat), Value.slice dq dn dc), ((3 : Nat), Value.int IntKind.i64 N), ((4 : Nat), Value.slice kq kn kc),
                     ((5 : Nat), Value.int IntKind.i64 nm), ((6 : Nat), Value.int IntKind.u8 fi)])] →
                 R (Ending.returned (Value.int IntKind.i64 i86)) w85)
          else
           Known
             (w.alloc
              (Obj.cells #[Value.int IntKind.i64 k, Value.string s, Value.slice dq dn dc, Value.int IntKind.i64 N, Value.slice kq kn kc, Value.int IntKind.i64 nm, Value.int IntKind.u8 fi] (124 : Nat)))
             [(w.heap.size,
               [((0 : Nat), Value.int IntKind.i64 k), ((1 : Nat), Value.string s), ((2 : Nat), Value.slice dq dn dc), ((3 : Nat), Value.int IntKind.i64 N), ((4 : Nat), Value.slice kq kn kc),
                ((5 : Nat), Value.int IntKind.i64 nm), ((6 : Nat), Value.int IntKind.u8 fi)])] →
            R (Ending.returned (Value.int IntKind.i64 (0 : Int)))
             (w.alloc
              (Obj.cells #[Value.int IntKind.i64 k, Value.string s, Value.slice dq dn dc, Value.int IntKind.i64 N, Value.slice kq kn kc, Value.int IntKind.i64 nm, Value.int IntKind.u8 fi] (124 : Nat)))
theorem vcTryd191 (p : Option Addr) (k : Int) (s : ByteArray) (dq : Option Addr) (dn dc : Nat) (N : Int) (kq : Option Addr) (kn kc : Nat) (nm fi : Int) (w : World) (R : Ending → World → Prop) : SX.vcFn Tryd.prog [] Tryd.f191 [.v (.pointer p), .v (.agg #[.int .i64 k, .string s, .slice dq dn dc, .int .i64 N, .slice kq kn kc, .int .i64 nm, .int .u8 fi])] [] w R = VCTryd191 p k s dq dn dc N kq kn kc nm fi w R := by kernel_rfl
def VCTryd176 (p : Option Addr) (k : Int) (s : ByteArray) (dq : Option Addr) (dn dc : Nat) (N : Int) (kq : Option Addr) (kn kc : Nat) (nm fi : Int) (x : Int) (w : World) (R : Ending → World → Prop) : Prop :=
bif decide (k < (1 : Int)) then
 Known (w.alloc (Obj.cells #[Value.int IntKind.i64 k, Value.string s, Value.slice dq dn dc, Value.int IntKind.i64 N, Value.slice kq kn kc, Value.int IntKind.i64 nm, Value.int IntKind.u8 fi] (124 : Nat)))
   [(w.heap.size,
     [((0 : Nat), Value.int IntKind.i64 k), ((1 : Nat), Value.string s), ((2 : Nat), Value.slice dq dn dc), ((3 : Nat), Value.int IntKind.i64 N), ((4 : Nat), Value.slice kq kn kc),
      ((5 : Nat), Value.int IntKind.i64 nm), ((6 : Nat), Value.int IntKind.u8 fi)])] →
  R (Ending.returned (Value.bool (x == (1 : Int))))
   (w.alloc (Obj.cells #[Value.int IntKind.i64 k, Value.string s, Value.slice dq dn dc, Value.int IntKind.i64 N, Value.slice kq kn kc, Value.int IntKind.i64 nm, Value.int IntKind.u8 fi] (124 : Nat)))
else
 bif decide (k > (18 : Int)) then
  Known (w.alloc (Obj.cells #[Value.int IntKind.i64 k, Value.string s, Value.slice dq dn dc, Value.int IntKind.i64 N, Value.slice kq kn kc, Value.int IntKind.i64 nm, Value.int IntKind.u8 fi] (124 : Nat)))
    [(w.heap.size,
      [((0 : Nat), Value.int IntKind.i64 k), ((1 : Nat), Value.string s), ((2 : Nat), Value.slice dq dn dc), ((3 : Nat), Value.int IntKind.i64 N), ((4 : Nat), Value.slice kq kn kc),
       ((5 : Nat), Value.int IntKind.i64 nm), ((6 : Nat), Value.int IntKind.u8 fi)])] →
   R (Ending.returned (Value.bool (x == (1 : Int))))
    (w.alloc (Obj.cells #[Value.int IntKind.i64 k, Value.string s, Value.slice dq dn dc, Value.int IntKind.i64 N, Value.slice kq kn kc, Value.int IntKind.i64 nm, Value.int IntKind.u8 fi] (124 : Nat)))
 else
  bif decide (k ≥ (16 : Int)) then
   Known (w.alloc (Obj.cells #[Value.int IntKind.i64 k, Value.string s, Value.slice dq dn dc, Value.int IntKind.i64 N, Value.slice kq kn kc, Value.int IntKind.i64 nm, Value.int IntKind.u8 fi] (124 : Nat)))
     [(w.heap.size,
       [((0 : Nat), Value.int IntKind.i64 k), ((1 : Nat), Value.string s), ((2 : Nat), Value.slice dq dn dc), ((3 : Nat), Value.int IntKind.i64 N), ((4 : Nat), Value.slice kq kn kc),
        ((5 : Nat), Value.int IntKind.i64 nm), ((6 : Nat), Value.int IntKind.u8 fi)])] →
    R (Ending.returned (Value.bool (x == (0 : Int))))
     (w.alloc (Obj.cells #[Value.int IntKind.i64 k, Value.string s, Value.slice dq dn dc, Value.int IntKind.i64 N, Value.slice kq kn kc, Value.int IntKind.i64 nm, Value.int IntKind.u8 fi] (124 : Nat)))
  else
   bif k == (1 : Int) then
    Known (w.alloc (Obj.cells #[Value.int IntKind.i64 k, Value.string s, Value.slice dq dn dc, Value.int IntKind.i64 N, Value.slice kq kn kc, Value.int IntKind.i64 nm, Value.int IntKind.u8 fi] (124 : Nat)))
      [(w.heap.size,
        [((0 : Nat), Value.int IntKind.i64 k), ((1 : Nat), Value.string s), ((2 : Nat), Value.slice dq dn dc), ((3 : Nat), Value.int IntKind.i64 N), ((4 : Nat), Value.slice kq kn kc),
         ((5 : Nat), Value.int IntKind.i64 nm), ((6 : Nat), Value.int IntKind.u8 fi)])] →
     Rets Tryd.prog (190 : Nat) #[Value.pointer p, Value.int IntKind.i64 x, Value.int IntKind.i64 (16 : Int), Value.int IntKind.i64 (0 : Int)]
      (w.alloc (Obj.cells #[Value.int IntKind.i64 k, Value.string s, Value.slice dq dn dc, Value.int IntKind.i64 N, Value.slice kq kn kc, Value.int IntKind.i64 nm, Value.int IntKind.u8 fi] (124 : Nat)))
      fun (v0 : Value) (w1 : World) =>
      ∃ (t2 : Bool),
       v0 = Value.bool t2 ∧
        Keeps (w.alloc (Obj.cells #[Value.int IntKind.i64 k, Value.string s, Value.slice dq dn dc, Value.int IntKind.i64 N, Value.slice kq kn kc, Value.int IntKind.i64 nm, Value.int IntKind.u8 fi] (124 : Nat)))
          w1 [w.heap.size] ∧
         (Known w1
           [(w.heap.size,
             [((0 : Nat), Value.int IntKind.i64 k), ((1 : Nat), Value.string s), ((2 : Nat), Value.slice dq dn dc), ((3 : Nat), Value.int IntKind.i64 N), ((4 : Nat), Value.slice kq kn kc),
              ((5 : Nat), Value.int IntKind.i64 nm), ((6 : Nat), Value.int IntKind.u8 fi)])] →
          R (Ending.returned (Value.bool t2)) w1)
   else
    bif k == (2 : Int) then
     SX.Ptr p fun (a3 : Addr) =>
      ∃ (t4 : Bool),
       (w.alloc (Obj.cells #[Value.int IntKind.i64 k, Value.string s, Value.slice dq dn dc, Value.int IntKind.i64 N, Value.slice kq kn kc, Value.int IntKind.i64 nm, Value.int IntKind.u8 fi] (124 : Nat))).cell?
          (a3.add (1 : Nat)) =
         some (Value.bool t4) ∧
        bif t4 then
         Known (w.alloc (Obj.cells #[Value.int IntKind.i64 k, Value.string s, Value.slice dq dn dc, Value.int IntKind.i64 N, Value.slice kq kn kc, Value.int IntKind.i64 nm, Value.int IntKind.u8 fi] (124 : Nat)))
           [(w.heap.size,
             [((0 : Nat), Value.int IntKind.i64 k), ((1 : Nat), Value.string s), ((2 : Nat), Value.slice dq dn dc), ((3 : Nat), Value.int IntKind.i64 N), ((4 : Nat), Value.slice kq kn kc),
              ((5 : Nat), Value.int IntKind.i64 nm), ((6 : Nat), Value.int IntKind.u8 fi)])] →
          R (Ending.returned (Value.bool (x == (8 : Int))))
           (w.alloc (Obj.cells #[Value.int IntKind.i64 k, Value.string s, Value.slice dq dn dc, Value.int IntKind.i64 N, Value.slice kq kn kc, Value.int IntKind.i64 nm, Value.int IntKind.u8 fi] (124 : Nat)))
        else
         bif k == (2 : Int) then
          Known
            (w.alloc (Obj.cells #[Value.int IntKind.i64 k, Value.string s, Value.slice dq dn dc, Value.int IntKind.i64 N, Value.slice kq kn kc, Value.int IntKind.i64 nm, Value.int IntKind.u8 fi] (124 : Nat)))
            [(w.heap.size,
              [((0 : Nat), Value.int IntKind.i64 k), ((1 : Nat), Value.string s), ((2 : Nat), Value.slice dq dn dc), ((3 : Nat), Value.int IntKind.i64 N), ((4 : Nat), Value.slice kq kn kc),
               ((5 : Nat), Value.int IntKind.i64 nm), ((6 : Nat), Value.int IntKind.u8 fi)])] →
           Rets Tryd.prog (190 : Nat) #[Value.pointer p, Value.int IntKind.i64 x, Value.int IntKind.i64 (0 : Int), Value.int IntKind.i64 (7 : Int)]
            (w.alloc (Obj.cells #[Value.int IntKind.i64 k, Value.string s, Value.slice dq dn dc, Value.int IntKind.i64 N, Value.slice kq kn kc, Value.int IntKind.i64 nm, Value.int IntKind.u8 fi] (124 : Nat)))
            fun (v5 : Value) (w6 : World) =>
            ∃ (t7 : Bool),
             v5 = Value.bool t7 ∧
              Keeps
                (w.alloc
                 (Obj.cells #[Value.int IntKind.i64 k, Value.string s, Value.slice dq dn dc, Value.int IntKind.i64 N, Value.slice kq kn kc, Value.int IntKind.i64 nm, Value.int IntKind.u8 fi]
                  (124 : Nat)))
                w6 [w.heap.size] ∧
               (Known w6
                 [(w.heap.size,
                   [((0 : Nat), Value.int IntKind.i64 k), ((1 : Nat), Value.string s), ((2 : Nat), Value.slice dq dn dc), ((3 : Nat), Value.int IntKind.i64 N), ((4 : Nat), Value.slice kq kn kc),
                    ((5 : Nat), Value.int IntKind.i64 nm), ((6 : Nat), Value.int IntKind.u8 fi)])] →
                R (Ending.returned (Value.bool t7)) w6)
         else
          bif k == (15 : Int) then
           Known
             (w.alloc
              (Obj.cells #[Value.int IntKind.i64 k, Value.string s, Value.slice dq dn dc, Value.int IntKind.i64 N, Value.slice kq kn kc, Value.int IntKind.i64 nm, Value.int IntKind.u8 fi] (124 : Nat)))
             [(w.heap.size,
               [((0 : Nat), Value.int IntKind.i64 k), ((1 : Nat), Value.string s), ((2 : Nat), Value.slice dq dn dc), ((3 : Nat), Value.int IntKind.i64 N), ((4 : Nat), Value.slice kq kn kc),
                ((5 : Nat), Value.int IntKind.i64 nm), ((6 : Nat), Value.int IntKind.u8 fi)])] →
            Rets Tryd.prog (190 : Nat) #[Value.pointer p, Value.int IntKind.i64 x, Value.int IntKind.i64 (0 : Int), Value.int IntKind.i64 (7 : Int)]
             (w.alloc
              (Obj.cells #[Value.int IntKind.i64 k, Value.string s, Value.slice dq dn dc, Value.int IntKind.i64 N, Value.slice kq kn kc, Value.int IntKind.i64 nm, Value.int IntKind.u8 fi] (124 : Nat)))
             fun (v8 : Value) (w9 : World) =>
             ∃ (t10 : Bool),
              v8 = Value.bool t10 ∧
               Keeps
                 (w.alloc
                  (Obj.cells #[Value.int IntKind.i64 k, Value.string s, Value.slice dq dn dc, Value.int IntKind.i64 N, Value.slice kq kn kc, Value.int IntKind.i64 nm, Value.int IntKind.u8 fi]
                   (124 : Nat)))
                 w9 [w.heap.size] ∧
                (Known w9
                  [(w.heap.size,
                    [((0 : Nat), Value.int IntKind.i64 k), ((1 : Nat), Value.string s), ((2 : Nat), Value.slice dq dn dc), ((3 : Nat), Value.int IntKind.i64 N), ((4 : Nat), Value.slice kq kn kc),
                     ((5 : Nat), Value.int IntKind.i64 nm), ((6 : Nat), Value.int IntKind.u8 fi)])] →
                 R (Ending.returned (Value.bool t10)) w9)
          else
           SX.Ptr p fun (a11 : Addr) =>
            ∃ (t12 : Bool),
             (w.alloc
                  (Obj.cells #[Value.int IntKind.i64 k, Value.string s, Value.slice dq dn dc, Value.int IntKind.i64 N, Value.slice kq kn kc, Value.int IntKind.i64 nm, Value.int IntKind.u8 fi]
                   (124 : Nat))).cell?
                (a11.add (1 : Nat)) =
               some (Value.bool t12) ∧
              bif !t12 then
               Known
                 (w.alloc
                  (Obj.cells #[Value.int IntKind.i64 k, Value.string s, Value.slice dq dn dc, Value.int IntKind.i64 N, Value.slice kq kn kc, Value.int IntKind.i64 nm, Value.int IntKind.u8 fi]
                   (124 : Nat)))
                 [(w.heap.size,
                   [((0 : Nat), Value.int IntKind.i64 k), ((1 : Nat), Value.string s), ((2 : Nat), Value.slice dq dn dc), ((3 : Nat), Value.int IntKind.i64 N), ((4 : Nat), Value.slice kq kn kc),
                    ((5 : Nat), Value.int IntKind.i64 nm), ((6 : Nat), Value.int IntKind.u8 fi)])] →
                R (Ending.returned (Value.bool (x == (12 : Int))))
                 (w.alloc
                  (Obj.cells #[Value.int IntKind.i64 k, Value.string s, Value.slice dq dn dc, Value.int IntKind.i64 N, Value.slice kq kn kc, Value.int IntKind.i64 nm, Value.int IntKind.u8 fi]
                   (124 : Nat)))
              else
               Known
                 (w.alloc
                  (Obj.cells #[Value.int IntKind.i64 k, Value.string s, Value.slice dq dn dc, Value.int IntKind.i64 N, Value.slice kq kn kc, Value.int IntKind.i64 nm, Value.int IntKind.u8 fi]
                   (124 : Nat)))
                 [(w.heap.size,
                   [((0 : Nat), Value.int IntKind.i64 k), ((1 : Nat), Value.string s), ((2 : Nat), Value.slice dq dn dc), ((3 : Nat), Value.int IntKind.i64 N), ((4 : Nat), Value.slice kq kn kc),
                    ((5 : Nat), Value.int IntKind.i64 nm), ((6 : Nat), Value.int IntKind.u8 fi)])] →
                Rets Tryd.prog (191 : Nat)
                 #[Value.pointer p,
                  Value.agg #[Value.int IntKind.i64 k, Value.string s, Value.slice dq dn dc, Value.int IntKind.i64 N, Value.slice kq kn kc, Value.int IntKind.i64 nm, Value.int IntKind.u8 fi]]
                 (w.alloc
                  (Obj.cells #[Value.int IntKind.i64 k, Value.string s, Value.slice dq dn dc, Value.int IntKind.i64 N, Value.slice kq kn kc, Value.int IntKind.i64 nm, Value.int IntKind.u8 fi]
                   (124 : Nat)))
                 fun (v13 : Value) (w14 : World) =>
                 ∃ (i15 : Int),
                  v13 = Value.int IntKind.i64 i15 ∧
                   Keeps
                     (w.alloc
                      (Obj.cells #[Value.int IntKind.i64 k, Value.string s, Value.slice dq dn dc, Value.int IntKind.i64 N, Value.slice kq kn kc, Value.int IntKind.i64 nm, Value.int IntKind.u8 fi]
                       (124 : Nat)))
                     w14 [w.heap.size] ∧
                    (Known w14
                      [(w.heap.size,
                        [((0 : Nat), Value.int IntKind.i64 k), ((1 : Nat), Value.string s), ((2 : Nat), Value.slice dq dn dc), ((3 : Nat), Value.int IntKind.i64 N),
                         ((4 : Nat), Value.slice kq kn kc), ((5 : Nat), Value.int IntKind.i64 nm), ((6 : Nat), Value.int IntKind.u8 fi)])] →
                     R (Ending.returned (Value.bool (x == i15))) w14)
    else
     bif k == (2 : Int) then
      Known (w.alloc (Obj.cells #[Value.int IntKind.i64 k, Value.string s, Value.slice dq dn dc, Value.int IntKind.i64 N, Value.slice kq kn kc, Value.int IntKind.i64 nm, Value.int IntKind.u8 fi] (124 : Nat)))
        [(w.heap.size,
          [((0 : Nat), Value.int IntKind.i64 k), ((1 : Nat), Value.string s), ((2 : Nat), Value.slice dq dn dc), ((3 : Nat), Value.int IntKind.i64 N), ((4 : Nat), Value.slice kq kn kc),
           ((5 : Nat), Value.int IntKind.i64 nm), ((6 : Nat), Value.int IntKind.u8 fi)])] →
       Rets Tryd.prog (190 : Nat) #[Value.pointer p, Value.int IntKind.i64 x, Value.int IntKind.i64 (0 : Int), Value.int IntKind.i64 (7 : Int)]
        (w.alloc (Obj.cells #[Value.int IntKind.i64 k, Value.string s, Value.slice dq dn dc, Value.int IntKind.i64 N, Value.slice kq kn kc, Value.int IntKind.i64 nm, Value.int IntKind.u8 fi] (124 : Nat)))
        fun (v16 : Value) (w17 : World) =>
        ∃ (t18 : Bool),
         v16 = Value.bool t18 ∧
          Keeps
            (w.alloc (Obj.cells #[Value.int IntKind.i64 k, Value.string s, Value.slice dq dn dc, Value.int IntKind.i64 N, Value.slice kq kn kc, Value.int IntKind.i64 nm, Value.int IntKind.u8 fi] (124 : Nat)))
            w17 [w.heap.size] ∧
           (Known w17
             [(w.heap.size,
               [((0 : Nat), Value.int IntKind.i64 k), ((1 : Nat), Value.string s), ((2 : Nat), Value.slice dq dn dc), ((3 : Nat), Value.int IntKind.i64 N), ((4 : Nat), Value.slice kq kn kc),
                ((5 : Nat), Value.int IntKind.i64 nm), ((6 : Nat), Value.int IntKind.u8 fi)])] →
            R (Ending.returned (Value.bool t18)) w17)
     else
      bif k == (15 : Int) then
       Known (w.alloc (Obj.cells #[Value.int IntKind.i64 k, Value.string s, Value.slice dq dn dc, Value.int IntKind.i64 N, Value.slice kq kn kc, Value.int IntKind.i64 nm, Value.int IntKind.u8 fi] (124 : Nat)))
         [(w.heap.size,
           [((0 : Nat), Value.int IntKind.i64 k), ((1 : Nat), Value.string s), ((2 : Nat), Value.slice dq dn dc), ((3 : Nat), Value.int IntKind.i64 N), ((4 : Nat), Value.slice kq kn kc),
            ((5 : Nat), Value.int IntKind.i64 nm), ((6 : Nat), Value.int IntKind.u8 fi)])] →
        Rets Tryd.prog (190 : Nat) #[Value.pointer p, Value.int IntKind.i64 x, Value.int IntKind.i64 (0 : Int), Value.int IntKind.i64 (7 : Int)]
         (w.alloc (Obj.cells #[Value.int IntKind.i64 k, Value.string s, Value.slice dq dn dc, Value.int IntKind.i64 N, Value.slice kq kn kc, Value.int IntKind.i64 nm, Value.int IntKind.u8 fi] (124 : Nat)))
         fun (v19 : Value) (w20 : World) =>
         ∃ (t21 : Bool),
          v19 = Value.bool t21 ∧
           Keeps
             (w.alloc
              (Obj.cells #[Value.int IntKind.i64 k, Value.string s, Value.slice dq dn dc, Value.int IntKind.i64 N, Value.slice kq kn kc, Value.int IntKind.i64 nm, Value.int IntKind.u8 fi] (124 : Nat)))
             w20 [w.heap.size] ∧
            (Known w20
              [(w.heap.size,
                [((0 : Nat), Value.int IntKind.i64 k), ((1 : Nat), Value.string s), ((2 : Nat), Value.slice dq dn dc), ((3 : Nat), Value.int IntKind.i64 N), ((4 : Nat), Value.slice kq kn kc),
                 ((5 : Nat), Value.int IntKind.i64 nm), ((6 : Nat), Value.int IntKind.u8 fi)])] →
             R (Ending.returned (Value.bool t21)) w20)
      else
       SX.Ptr p fun (a22 : Addr) =>
        ∃ (t23 : Bool),
         (w.alloc (Obj.cells #[Value.int IntKind.i64 k, Value.string s, Value.slice dq dn dc, Value.int IntKind.i64 N, Value.slice kq kn kc, Value.int IntKind.i64 nm, Value.int IntKind.u8 fi] (124 : Nat))).cell?
            (a22.add (1 : Nat)) =
           some (Value.bool t23) ∧
          bif !t23 then
           Known
             (w.alloc
              (Obj.cells #[Value.int IntKind.i64 k, Value.string s, Value.slice dq dn dc, Value.int IntKind.i64 N, Value.slice kq kn kc, Value.int IntKind.i64 nm, Value.int IntKind.u8 fi] (124 : Nat)))
             [(w.heap.size,
               [((0 : Nat), Value.int IntKind.i64 k), ((1 : Nat), Value.string s), ((2 : Nat), Value.slice dq dn dc), ((3 : Nat), Value.int IntKind.i64 N), ((4 : Nat), Value.slice kq kn kc),
                ((5 : Nat), Value.int IntKind.i64 nm), ((6 : Nat), Value.int IntKind.u8 fi)])] →
            R (Ending.returned (Value.bool (x == (12 : Int))))
             (w.alloc
              (Obj.cells #[Value.int IntKind.i64 k, Value.string s, Value.slice dq dn dc, Value.int IntKind.i64 N, Value.slice kq kn kc, Value.int IntKind.i64 nm, Value.int IntKind.u8 fi] (124 : Nat)))
          else
           Known
             (w.alloc
              (Obj.cells #[Value.int IntKind.i64 k, Value.string s, Value.slice dq dn dc, Value.int IntKind.i64 N, Value.slice kq kn kc, Value.int IntKind.i64 nm, Value.int IntKind.u8 fi] (124 : Nat)))
             [(w.heap.size,
               [((0 : Nat), Value.int IntKind.i64 k), ((1 : Nat), Value.string s), ((2 : Nat), Value.slice dq dn dc), ((3 : Nat), Value.int IntKind.i64 N), ((4 : Nat), Value.slice kq kn kc),
                ((5 : Nat), Value.int IntKind.i64 nm), ((6 : Nat), Value.int IntKind.u8 fi)])] →
            Rets Tryd.prog (191 : Nat)
             #[Value.pointer p, Value.agg #[Value.int IntKind.i64 k, Value.string s, Value.slice dq dn dc, Value.int IntKind.i64 N, Value.slice kq kn kc, Value.int IntKind.i64 nm, Value.int IntKind.u8 fi]]
             (w.alloc
              (Obj.cells #[Value.int IntKind.i64 k, Value.string s, Value.slice dq dn dc, Value.int IntKind.i64 N, Value.slice kq kn kc, Value.int IntKind.i64 nm, Value.int IntKind.u8 fi] (124 : Nat)))
             fun (v24 : Value) (w25 : World) =>
             ∃ (i26 : Int),
              v24 = Value.int IntKind.i64 i26 ∧
               Keeps
                 (w.alloc
                  (Obj.cells #[Value.int IntKind.i64 k, Value.string s, Value.slice dq dn dc, Value.int IntKind.i64 N, Value.slice kq kn kc, Value.int IntKind.i64 nm, Value.int IntKind.u8 fi]
                   (124 : Nat)))
                 w25 [w.heap.size] ∧
                (Known w25
                  [(w.heap.size,
                    [((0 : Nat), Value.int IntKind.i64 k), ((1 : Nat), Value.string s), ((2 : Nat), Value.slice dq dn dc), ((3 : Nat), Value.int IntKind.i64 N), ((4 : Nat), Value.slice kq kn kc),
                     ((5 : Nat), Value.int IntKind.i64 nm), ((6 : Nat), Value.int IntKind.u8 fi)])] →
                 R (Ending.returned (Value.bool (x == i26))) w25)
theorem vcTryd176 (p : Option Addr) (k : Int) (s : ByteArray) (dq : Option Addr) (dn dc : Nat) (N : Int) (kq : Option Addr) (kn kc : Nat) (nm fi : Int) (x : Int) (w : World) (R : Ending → World → Prop) : SX.vcFn Tryd.prog [] Tryd.f176 [.v (.pointer p), .v (.agg #[.int .i64 k, .string s, .slice dq dn dc, .int .i64 N, .slice kq kn kc, .int .i64 nm, .int .u8 fi]), .v (.int .i64 x)] [] w R = VCTryd176 p k s dq dn dc N kq kn kc nm fi x w R := by kernel_rfl
def VCTryd178 (p : Option Addr) (k : Int) (s : ByteArray) (dq : Option Addr) (dn dc : Nat) (N : Int) (kq : Option Addr) (kn kc : Nat) (nm fi : Int) (e : Int) (aq : Option Addr) (an ac : Nat) (z : Int) (nq : Option Addr) (nn nc : Nat) (lq : Option Addr) (ln lc : Nat) (re po : Bool) (w : World) (R : Ending → World → Prop) : Prop :=
bif k == (8 : Int) then
 SX.Ptr p fun (a0 : Addr) =>
  ∃ (q1 : Option Addr),
   ∃ (n2 : Nat),
    ∃ (n3 : Nat),
     ((w.alloc (Obj.cells #[Value.int IntKind.i64 k, Value.string s, Value.slice dq dn dc, Value.int IntKind.i64 N, Value.slice kq kn kc, Value.int IntKind.i64 nm, Value.int IntKind.u8 fi] (124 : Nat))).alloc
           (Obj.cells #[Value.int IntKind.i64 e, Value.slice aq an ac, Value.int IntKind.i64 z, Value.slice nq nn nc, Value.slice lq ln lc, Value.bool re, Value.bool po] (126 : Nat))).drew.cell?
        (a0.add (4 : Nat)) =
       some (Value.slice q1 n2 n3) ∧
      (Known
        ((w.alloc (Obj.cells #[Value.int IntKind.i64 k, Value.string s, Value.slice dq dn dc, Value.int IntKind.i64 N, Value.slice kq kn kc, Value.int IntKind.i64 nm, Value.int IntKind.u8 fi] (124 : Nat))).alloc
          (Obj.cells #[Value.int IntKind.i64 e, Value.slice aq an ac, Value.int IntKind.i64 z, Value.slice nq nn nc, Value.slice lq ln lc, Value.bool re, Value.bool po] (126 : Nat))).drew
        [(w.heap.size,
          [((0 : Nat), Value.int IntKind.i64 k), ((1 : Nat), Value.string s), ((2 : Nat), Value.slice dq dn dc), ((3 : Nat), Value.int IntKind.i64 N), ((4 : Nat), Value.slice kq kn kc),
           ((5 : Nat), Value.int IntKind.i64 nm), ((6 : Nat), Value.int IntKind.u8 fi)]),
         ((w.alloc
             (Obj.cells #[Value.int IntKind.i64 k, Value.string s, Value.slice dq dn dc, Value.int IntKind.i64 N, Value.slice kq kn kc, Value.int IntKind.i64 nm, Value.int IntKind.u8 fi]
              (124 : Nat))).heap.size,
          [((0 : Nat), Value.int IntKind.i64 e), ((1 : Nat), Value.slice aq an ac), ((2 : Nat), Value.int IntKind.i64 z), ((3 : Nat), Value.slice nq nn nc), ((4 : Nat), Value.slice lq ln lc),
           ((5 : Nat), Value.bool re), ((6 : Nat), Value.bool po)])] →
       Rets Tryd.prog (88 : Nat) #[Value.slice q1 n2 n3, Value.string s]
        ((w.alloc (Obj.cells #[Value.int IntKind.i64 k, Value.string s, Value.slice dq dn dc, Value.int IntKind.i64 N, Value.slice kq kn kc, Value.int IntKind.i64 nm, Value.int IntKind.u8 fi] (124 : Nat))).alloc
          (Obj.cells #[Value.int IntKind.i64 e, Value.slice aq an ac, Value.int IntKind.i64 z, Value.slice nq nn nc, Value.slice lq ln lc, Value.bool re, Value.bool po] (126 : Nat))).drew
        fun (v4 : Value) (w5 : World) =>
        ∃ (q6 : Option Addr),
         ∃ (n7 : Nat),
          ∃ (n8 : Nat),
           ∃ (t9 : Bool),
            v4 = Value.tuple #[Value.slice q6 n7 n8, Value.bool t9] ∧
             Keeps
               ((w.alloc
                   (Obj.cells #[Value.int IntKind.i64 k, Value.string s, Value.slice dq dn dc, Value.int IntKind.i64 N, Value.slice kq kn kc, Value.int IntKind.i64 nm, Value.int IntKind.u8 fi]
                    (124 : Nat))).alloc
                 (Obj.cells #[Value.int IntKind.i64 e, Value.slice aq an ac, Value.int IntKind.i64 z, Value.slice nq nn nc, Value.slice lq ln lc, Value.bool re, Value.bool po] (126 : Nat))).drew
               w5
               [w.heap.size,
                (w.alloc
                   (Obj.cells #[Value.int IntKind.i64 k, Value.string s, Value.slice dq dn dc, Value.int IntKind.i64 N, Value.slice kq kn kc, Value.int IntKind.i64 nm, Value.int IntKind.u8 fi]
                    (124 : Nat))).heap.size] ∧
              ∃ (s10 : ByteArray),
               s10.size = n7 ∧
                BytesAt w5 q6 s10 ∧
                 ∃ (s11 : ByteArray),
                  s11.size = an ∧
                   BytesAt w5 aq s11 ∧
                    bif s10.toList == s11.toList then
                     Known
                       (w5.setCell
                        {
                         block :=
                          (w.alloc
                             (Obj.cells
                              #[Value.int IntKind.i64 k, Value.string s, Value.slice dq dn dc, Value.int IntKind.i64 N, Value.slice kq kn kc, Value.int IntKind.i64 nm,
                               Value.int IntKind.u8 fi]
                              (124 : Nat))).heap.size,
                         off := (1 : Nat) }
                        (Value.slice none (0 : Nat) (0 : Nat)))
                       [(w.heap.size,
                         [((0 : Nat), Value.int IntKind.i64 k), ((1 : Nat), Value.string s), ((2 : Nat), Value.slice dq dn dc), ((3 : Nat), Value.int IntKind.i64 N),
                          ((4 : Nat), Value.slice kq kn kc), ((5 : Nat), Value.int IntKind.i64 nm), ((6 : Nat), Value.int IntKind.u8 fi)]),
                        ((w.alloc
                            (Obj.cells
                             #[Value.int IntKind.i64 k, Value.string s, Value.slice dq dn dc, Value.int IntKind.i64 N, Value.slice kq kn kc, Value.int IntKind.i64 nm, Value.int IntKind.u8 fi]
                             (124 : Nat))).heap.size,
                         [((0 : Nat), Value.int IntKind.i64 e), ((1 : Nat), Value.slice none (0 : Nat) (0 : Nat)), ((2 : Nat), Value.int IntKind.i64 z), ((3 : Nat), Value.slice nq nn nc),
                          ((4 : Nat), Value.slice lq ln lc), ((5 : Nat), Value.bool re), ((6 : Nat), Value.bool po)])] →
                      Rets Tryd.prog (177 : Nat)
                       #[Value.agg
                         #[Value.int IntKind.i64 e, Value.slice none (0 : Nat) (0 : Nat), Value.int IntKind.i64 z, Value.slice nq nn nc, Value.slice lq ln lc, Value.bool re, Value.bool po]]
                       (w5.setCell
                        {
                         block :=
                          (w.alloc
                             (Obj.cells
                              #[Value.int IntKind.i64 k, Value.string s, Value.slice dq dn dc, Value.int IntKind.i64 N, Value.slice kq kn kc, Value.int IntKind.i64 nm,
                               Value.int IntKind.u8 fi]
                              (124 : Nat))).heap.size,
                         off := (1 : Nat) }
                        (Value.slice none (0 : Nat) (0 : Nat)))
                       fun (v12 : Value) (w13 : World) =>
                       ∃ (t14 : Bool),
                        v12 = Value.bool t14 ∧
                         Keeps
                           (w5.setCell
                            {
                             block :=
                              (w.alloc
                                 (Obj.cells
                                  #[Value.int IntKind.i64 k, Value.string s, Value.slice dq dn dc, Value.int IntKind.i64 N, Value.slice kq kn kc, Value.int IntKind.i64 nm,
                                   Value.int IntKind.u8 fi]
                                  (124 : Nat))).heap.size,
                             off := (1 : Nat) }
                            (Value.slice none (0 : Nat) (0 : Nat)))
                           w13
                           [w.heap.size,
                            (w.alloc
                               (Obj.cells
                                #[Value.int IntKind.i64 k, Value.string s, Value.slice dq dn dc, Value.int IntKind.i64 N, Value.slice kq kn kc, Value.int IntKind.i64 nm,
                                 Value.int IntKind.u8 fi]
                                (124 : Nat))).heap.size] ∧
                          (Known w13
                            [(w.heap.size,
                              [((0 : Nat), Value.int IntKind.i64 k), ((1 : Nat), Value.string s), ((2 : Nat), Value.slice dq dn dc), ((3 : Nat), Value.int IntKind.i64 N),
                               ((4 : Nat), Value.slice kq kn kc), ((5 : Nat), Value.int IntKind.i64 nm), ((6 : Nat), Value.int IntKind.u8 fi)]),
                             ((w.alloc
                                 (Obj.cells
                                  #[Value.int IntKind.i64 k, Value.string s, Value.slice dq dn dc, Value.int IntKind.i64 N, Value.slice kq kn kc, Value.int IntKind.i64 nm,
                                   Value.int IntKind.u8 fi]
                                  (124 : Nat))).heap.size,
                              [((0 : Nat), Value.int IntKind.i64 e), ((1 : Nat), Value.slice none (0 : Nat) (0 : Nat)), ((2 : Nat), Value.int IntKind.i64 z),
                               ((3 : Nat), Value.slice nq nn nc), ((4 : Nat), Value.slice lq ln lc), ((5 : Nat), Value.bool re), ((6 : Nat), Value.bool po)])] →
                           R (Ending.returned (Value.bool t14)) w13)
                    else
                     Known
                       (w5.setCell
                        {
                         block :=
                          (w.alloc
                             (Obj.cells
                              #[Value.int IntKind.i64 k, Value.string s, Value.slice dq dn dc, Value.int IntKind.i64 N, Value.slice kq kn kc, Value.int IntKind.i64 nm,
                               Value.int IntKind.u8 fi]
                              (124 : Nat))).heap.size,
                         off := (1 : Nat) }
                        (Value.slice none (0 : Nat) (0 : Nat)))
                       [(w.heap.size,
                         [((0 : Nat), Value.int IntKind.i64 k), ((1 : Nat), Value.string s), ((2 : Nat), Value.slice dq dn dc), ((3 : Nat), Value.int IntKind.i64 N),
                          ((4 : Nat), Value.slice kq kn kc), ((5 : Nat), Value.int IntKind.i64 nm), ((6 : Nat), Value.int IntKind.u8 fi)]),
                        ((w.alloc
                            (Obj.cells
                             #[Value.int IntKind.i64 k, Value.string s, Value.slice dq dn dc, Value.int IntKind.i64 N, Value.slice kq kn kc, Value.int IntKind.i64 nm, Value.int IntKind.u8 fi]
                             (124 : Nat))).heap.size,
                         [((0 : Nat), Value.int IntKind.i64 e), ((1 : Nat), Value.slice none (0 : Nat) (0 : Nat)), ((2 : Nat), Value.int IntKind.i64 z), ((3 : Nat), Value.slice nq nn nc),
                          ((4 : Nat), Value.slice lq ln lc), ((5 : Nat), Value.bool re), ((6 : Nat), Value.bool po)])] →
                      R (Ending.returned (Value.bool false))
                       (w5.setCell
                        {
                         block :=
                          (w.alloc
                             (Obj.cells
                              #[Value.int IntKind.i64 k, Value.string s, Value.slice dq dn dc, Value.int IntKind.i64 N, Value.slice kq kn kc, Value.int IntKind.i64 nm,
                               Value.int IntKind.u8 fi]
                              (124 : Nat))).heap.size,
                         off := (1 : Nat) }
                        (Value.slice none (0 : Nat) (0 : Nat))))
else
 bif k == (9 : Int) then
  SX.Ptr p fun (a15 : Addr) =>
   ∃ (q16 : Option Addr),
    ∃ (n17 : Nat),
     ∃ (n18 : Nat),
      ((w.alloc (Obj.cells #[Value.int IntKind.i64 k, Value.string s, Value.slice dq dn dc, Value.int IntKind.i64 N, Value.slice kq kn kc, Value.int IntKind.i64 nm, Value.int IntKind.u8 fi] (124 : Nat))).alloc
            (Obj.cells #[Value.int IntKind.i64 e, Value.slice aq an ac, Value.int IntKind.i64 z, Value.slice nq nn nc, Value.slice lq ln lc, Value.bool re, Value.bool po] (126 : Nat))).drew.cell?
         (a15.add (4 : Nat)) =
        some (Value.slice q16 n17 n18) ∧
       (Known
         ((w.alloc
             (Obj.cells #[Value.int IntKind.i64 k, Value.string s, Value.slice dq dn dc, Value.int IntKind.i64 N, Value.slice kq kn kc, Value.int IntKind.i64 nm, Value.int IntKind.u8 fi] (124 : Nat))).alloc
           (Obj.cells #[Value.int IntKind.i64 e, Value.slice aq an ac, Value.int IntKind.i64 z, Value.slice nq nn nc, Value.slice lq ln lc, Value.bool re, Value.bool po] (126 : Nat))).drew
         [(w.heap.size,
           [((0 : Nat), Value.int IntKind.i64 k), ((1 : Nat), Value.string s), ((2 : Nat), Value.slice dq dn dc), ((3 : Nat), Value.int IntKind.i64 N), ((4 : Nat), Value.slice kq kn kc),
            ((5 : Nat), Value.int IntKind.i64 nm), ((6 : Nat), Value.int IntKind.u8 fi)]),
          ((w.alloc
              (Obj.cells #[Value.int IntKind.i64 k, Value.string s, Value.slice dq dn dc, Value.int IntKind.i64 N, Value.slice kq kn kc, Value.int IntKind.i64 nm, Value.int IntKind.u8 fi]
               (124 : Nat))).heap.size,
           [((0 : Nat), Value.int IntKind.i64 e), ((1 : Nat), Value.slice aq an ac), ((2 : Nat), Value.int IntKind.i64 z), ((3 : Nat), Value.slice nq nn nc), ((4 : Nat), Value.slice lq ln lc),
            ((5 : Nat), Value.bool re), ((6 : Nat), Value.bool po)])] →
        Rets Tryd.prog (88 : Nat) #[Value.slice q16 n17 n18, Value.string s]
         ((w.alloc
             (Obj.cells #[Value.int IntKind.i64 k, Value.string s, Value.slice dq dn dc, Value.int IntKind.i64 N, Value.slice kq kn kc, Value.int IntKind.i64 nm, Value.int IntKind.u8 fi] (124 : Nat))).alloc
           (Obj.cells #[Value.int IntKind.i64 e, Value.slice aq an ac, Value.int IntKind.i64 z, Value.slice nq nn nc, Value.slice lq ln lc, Value.bool re, Value.bool po] (126 : Nat))).drew
         fun (v19 : Value) (w20 : World) =>
         ∃ (q21 : Option Addr),
          ∃ (n22 : Nat),
           ∃ (n23 : Nat),
            ∃ (t24 : Bool),
             v19 = Value.tuple #[Value.slice q21 n22 n23, Value.bool t24] ∧
              Keeps
                ((w.alloc
                    (Obj.cells #[Value.int IntKind.i64 k, Value.string s, Value.slice dq dn dc, Value.int IntKind.i64 N, Value.slice kq kn kc, Value.int IntKind.i64 nm, Value.int IntKind.u8 fi]
                     (124 : Nat))).alloc
                  (Obj.cells #[Value.int IntKind.i64 e, Value.slice aq an ac, Value.int IntKind.i64 z, Value.slice nq nn nc, Value.slice lq ln lc, Value.bool re, Value.bool po] (126 : Nat))).drew
                w20
                [w.heap.size,
                 (w.alloc
                    (Obj.cells #[Value.int IntKind.i64 k, Value.string s, Value.slice dq dn dc, Value.int IntKind.i64 N, Value.slice kq kn kc, Value.int IntKind.i64 nm, Value.int IntKind.u8 fi]
                     (124 : Nat))).heap.size] ∧
               bif z == (↑n22 : Int) then
                Known
                  (w20.setCell
                   {
                    block :=
                     (w.alloc
                        (Obj.cells
                         #[Value.int IntKind.i64 k, Value.string s, Value.slice dq dn dc, Value.int IntKind.i64 N, Value.slice kq kn kc, Value.int IntKind.i64 nm, Value.int IntKind.u8 fi]
                         (124 : Nat))).heap.size,
                    off := (2 : Nat) }
                   (Value.int IntKind.i64 (0 : Int)))
                  [(w.heap.size,
                    [((0 : Nat), Value.int IntKind.i64 k), ((1 : Nat), Value.string s), ((2 : Nat), Value.slice dq dn dc), ((3 : Nat), Value.int IntKind.i64 N), ((4 : Nat), Value.slice kq kn kc),
                     ((5 : Nat), Value.int IntKind.i64 nm), ((6 : Nat), Value.int IntKind.u8 fi)]),
                   ((w.alloc
                       (Obj.cells #[Value.int IntKind.i64 k, Value.string s, Value.slice dq dn dc, Value.int IntKind.i64 N, Value.slice kq kn kc, Value.int IntKind.i64 nm, Value.int IntKind.u8 fi]
                        (124 : Nat))).heap.size,
                    [((0 : Nat), Value.int IntKind.i64 e), ((1 : Nat), Value.slice aq an ac), ((2 : Nat), Value.int IntKind.i64 (0 : Int)), ((3 : Nat), Value.slice nq nn nc),
                     ((4 : Nat), Value.slice lq ln lc), ((5 : Nat), Value.bool re), ((6 : Nat), Value.bool po)])] →
                 Rets Tryd.prog (177 : Nat)
                  #[Value.agg #[Value.int IntKind.i64 e, Value.slice aq an ac, Value.int IntKind.i64 (0 : Int), Value.slice nq nn nc, Value.slice lq ln lc, Value.bool re, Value.bool po]]
                  (w20.setCell
                   {
                    block :=
                     (w.alloc
                        (Obj.cells
                         #[Value.int IntKind.i64 k, Value.string s, Value.slice dq dn dc, Value.int IntKind.i64 N, Value.slice kq kn kc, Value.int IntKind.i64 nm, Value.int IntKind.u8 fi]
                         (124 : Nat))).heap.size,
                    off := (2 : Nat) }
                   (Value.int IntKind.i64 (0 : Int)))
                  fun (v25 : Value) (w26 : World) =>
                  ∃ (t27 : Bool),
                   v25 = Value.bool t27 ∧
                    Keeps
                      (w20.setCell
                       {
                        block :=
                         (w.alloc
                            (Obj.cells
                             #[Value.int IntKind.i64 k, Value.string s, Value.slice dq dn dc, Value.int IntKind.i64 N, Value.slice kq kn kc, Value.int IntKind.i64 nm, Value.int IntKind.u8 fi]
                             (124 : Nat))).heap.size,
                        off := (2 : Nat) }
                       (Value.int IntKind.i64 (0 : Int)))
                      w26
                      [w.heap.size,
                       (w.alloc
                          (Obj.cells
                           #[Value.int IntKind.i64 k, Value.string s, Value.slice dq dn dc, Value.int IntKind.i64 N, Value.slice kq kn kc, Value.int IntKind.i64 nm, Value.int IntKind.u8 fi]
                           (124 : Nat))).heap.size] ∧
                     (Known w26
                       [(w.heap.size,
                         [((0 : Nat), Value.int IntKind.i64 k), ((1 : Nat), Value.string s), ((2 : Nat), Value.slice dq dn dc), ((3 : Nat), Value.int IntKind.i64 N),
                          ((4 : Nat), Value.slice kq kn kc), ((5 : Nat), Value.int IntKind.i64 nm), ((6 : Nat), Value.int IntKind.u8 fi)]),
                        ((w.alloc
                            (Obj.cells
                             #[Value.int IntKind.i64 k, Value.string s, Value.slice dq dn dc, Value.int IntKind.i64 N, Value.slice kq kn kc, Value.int IntKind.i64 nm, Value.int IntKind.u8 fi]
                             (124 : Nat))).heap.size,
                         [((0 : Nat), Value.int IntKind.i64 e), ((1 : Nat), Value.slice aq an ac), ((2 : Nat), Value.int IntKind.i64 (0 : Int)), ((3 : Nat), Value.slice nq nn nc),
                          ((4 : Nat), Value.slice lq ln lc), ((5 : Nat), Value.bool re), ((6 : Nat), Value.bool po)])] →
                      R (Ending.returned (Value.bool t27)) w26)
               else
                Known
                  (w20.setCell
                   {
                    block :=
                     (w.alloc
                        (Obj.cells
                         #[Value.int IntKind.i64 k, Value.string s, Value.slice dq dn dc, Value.int IntKind.i64 N, Value.slice kq kn kc, Value.int IntKind.i64 nm, Value.int IntKind.u8 fi]
                         (124 : Nat))).heap.size,
                    off := (2 : Nat) }
                   (Value.int IntKind.i64 (0 : Int)))
                  [(w.heap.size,
                    [((0 : Nat), Value.int IntKind.i64 k), ((1 : Nat), Value.string s), ((2 : Nat), Value.slice dq dn dc), ((3 : Nat), Value.int IntKind.i64 N), ((4 : Nat), Value.slice kq kn kc),
                     ((5 : Nat), Value.int IntKind.i64 nm), ((6 : Nat), Value.int IntKind.u8 fi)]),
                   ((w.alloc
                       (Obj.cells #[Value.int IntKind.i64 k, Value.string s, Value.slice dq dn dc, Value.int IntKind.i64 N, Value.slice kq kn kc, Value.int IntKind.i64 nm, Value.int IntKind.u8 fi]
                        (124 : Nat))).heap.size,
                    [((0 : Nat), Value.int IntKind.i64 e), ((1 : Nat), Value.slice aq an ac), ((2 : Nat), Value.int IntKind.i64 (0 : Int)), ((3 : Nat), Value.slice nq nn nc),
                     ((4 : Nat), Value.slice lq ln lc), ((5 : Nat), Value.bool re), ((6 : Nat), Value.bool po)])] →
                 R (Ending.returned (Value.bool false))
                  (w20.setCell
                   {
                    block :=
                     (w.alloc
                        (Obj.cells
                         #[Value.int IntKind.i64 k, Value.string s, Value.slice dq dn dc, Value.int IntKind.i64 N, Value.slice kq kn kc, Value.int IntKind.i64 nm, Value.int IntKind.u8 fi]
                         (124 : Nat))).heap.size,
                    off := (2 : Nat) }
                   (Value.int IntKind.i64 (0 : Int))))
 else
  bif k == (10 : Int) then
   SX.Ptr p fun (a28 : Addr) =>
    ∃ (q29 : Option Addr),
     ∃ (n30 : Nat),
      ∃ (n31 : Nat),
       ((w.alloc (Obj.cells #[Value.int IntKind.i64 k, Value.string s, Value.slice dq dn dc, Value.int IntKind.i64 N, Value.slice kq kn kc, Value.int IntKind.i64 nm, Value.int IntKind.u8 fi] (124 : Nat))).alloc
             (Obj.cells #[Value.int IntKind.i64 e, Value.slice aq an ac, Value.int IntKind.i64 z, Value.slice nq nn nc, Value.slice lq ln lc, Value.bool re, Value.bool po] (126 : Nat))).drew.cell?
          (a28.add (4 : Nat)) =
         some (Value.slice q29 n30 n31) ∧
        (Known
          ((w.alloc
              (Obj.cells #[Value.int IntKind.i64 k, Value.string s, Value.slice dq dn dc, Value.int IntKind.i64 N, Value.slice kq kn kc, Value.int IntKind.i64 nm, Value.int IntKind.u8 fi]
               (124 : Nat))).alloc
            (Obj.cells #[Value.int IntKind.i64 e, Value.slice aq an ac, Value.int IntKind.i64 z, Value.slice nq nn nc, Value.slice lq ln lc, Value.bool re, Value.bool po] (126 : Nat))).drew
          [(w.heap.size,
            [((0 : Nat), Value.int IntKind.i64 k), ((1 : Nat), Value.string s), ((2 : Nat), Value.slice dq dn dc), ((3 : Nat), Value.int IntKind.i64 N), ((4 : Nat), Value.slice kq kn kc),
             ((5 : Nat), Value.int IntKind.i64 nm), ((6 : Nat), Value.int IntKind.u8 fi)]),
           ((w.alloc
               (Obj.cells #[Value.int IntKind.i64 k, Value.string s, Value.slice dq dn dc, Value.int IntKind.i64 N, Value.slice kq kn kc, Value.int IntKind.i64 nm, Value.int IntKind.u8 fi]
                (124 : Nat))).heap.size,
            [((0 : Nat), Value.int IntKind.i64 e), ((1 : Nat), Value.slice aq an ac), ((2 : Nat), Value.int IntKind.i64 z), ((3 : Nat), Value.slice nq nn nc), ((4 : Nat), Value.slice lq ln lc),
             ((5 : Nat), Value.bool re), ((6 : Nat), Value.bool po)])] →
         Rets Tryd.prog (193 : Nat) #[Value.slice q29 n30 n31, Value.string s]
          ((w.alloc
              (Obj.cells #[Value.int IntKind.i64 k, Value.string s, Value.slice dq dn dc, Value.int IntKind.i64 N, Value.slice kq kn kc, Value.int IntKind.i64 nm, Value.int IntKind.u8 fi]
               (124 : Nat))).alloc
            (Obj.cells #[Value.int IntKind.i64 e, Value.slice aq an ac, Value.int IntKind.i64 z, Value.slice nq nn nc, Value.slice lq ln lc, Value.bool re, Value.bool po] (126 : Nat))).drew
          fun (v32 : Value) (w33 : World) =>
          ∃ (q34 : Option Addr),
           ∃ (n35 : Nat),
            ∃ (n36 : Nat),
             v32 = Value.slice q34 n35 n36 ∧
              Keeps
                ((w.alloc
                    (Obj.cells #[Value.int IntKind.i64 k, Value.string s, Value.slice dq dn dc, Value.int IntKind.i64 N, Value.slice kq kn kc, Value.int IntKind.i64 nm, Value.int IntKind.u8 fi]
                     (124 : Nat))).alloc
                  (Obj.cells #[Value.int IntKind.i64 e, Value.slice aq an ac, Value.int IntKind.i64 z, Value.slice nq nn nc, Value.slice lq ln lc, Value.bool re, Value.bool po] (126 : Nat))).drew
                w33
                [w.heap.size,
                 (w.alloc
                    (Obj.cells #[Value.int IntKind.i64 k, Value.string s, Value.slice dq dn dc, Value.int IntKind.i64 N, Value.slice kq kn kc, Value.int IntKind.i64 nm, Value.int IntKind.u8 fi]
                     (124 : Nat))).heap.size] ∧
               w33.cell?
                  {
                   block :=
                    (w.alloc
                       (Obj.cells #[Value.int IntKind.i64 k, Value.string s, Value.slice dq dn dc, Value.int IntKind.i64 N, Value.slice kq kn kc, Value.int IntKind.i64 nm, Value.int IntKind.u8 fi]
                        (124 : Nat))).heap.size,
                   off := (3 : Nat) } =
                 some (Value.slice nq nn nc) ∧
                (Known w33
                  [(w.heap.size,
                    [((0 : Nat), Value.int IntKind.i64 k), ((1 : Nat), Value.string s), ((2 : Nat), Value.slice dq dn dc), ((3 : Nat), Value.int IntKind.i64 N), ((4 : Nat), Value.slice kq kn kc),
                     ((5 : Nat), Value.int IntKind.i64 nm), ((6 : Nat), Value.int IntKind.u8 fi)]),
                   ((w.alloc
                       (Obj.cells #[Value.int IntKind.i64 k, Value.string s, Value.slice dq dn dc, Value.int IntKind.i64 N, Value.slice kq kn kc, Value.int IntKind.i64 nm, Value.int IntKind.u8 fi]
                        (124 : Nat))).heap.size,
                    [((0 : Nat), Value.int IntKind.i64 e), ((1 : Nat), Value.slice aq an ac), ((2 : Nat), Value.int IntKind.i64 z), ((3 : Nat), Value.slice nq nn nc),
                     ((4 : Nat), Value.slice lq ln lc), ((5 : Nat), Value.bool re), ((6 : Nat), Value.bool po)])] →
                 Rets Tryd.prog (192 : Nat) #[Value.slice nq nn nc, Value.slice q34 n35 n36] w33 fun (v37 : Value) (w38 : World) =>
                  ∃ (t39 : Bool),
                   v37 = Value.bool t39 ∧
                    Keeps w33 w38
                      [w.heap.size,
                       (w.alloc
                          (Obj.cells
                           #[Value.int IntKind.i64 k, Value.string s, Value.slice dq dn dc, Value.int IntKind.i64 N, Value.slice kq kn kc, Value.int IntKind.i64 nm, Value.int IntKind.u8 fi]
                           (124 : Nat))).heap.size] ∧
                     bif t39 then
                      Known
                        (w38.setCell
                         {
                          block :=
                           (w.alloc
                              (Obj.cells
                               #[Value.int IntKind.i64 k, Value.string s, Value.slice dq dn dc, Value.int IntKind.i64 N, Value.slice kq kn kc, Value.int IntKind.i64 nm,
                                Value.int IntKind.u8 fi]
                               (124 : Nat))).heap.size,
                          off := (3 : Nat) }
                         (Value.slice none (0 : Nat) (0 : Nat)))
                        [(w.heap.size,
                          [((0 : Nat), Value.int IntKind.i64 k), ((1 : Nat), Value.string s), ((2 : Nat), Value.slice dq dn dc), ((3 : Nat), Value.int IntKind.i64 N),
                           ((4 : Nat), Value.slice kq kn kc), ((5 : Nat), Value.int IntKind.i64 nm), ((6 : Nat), Value.int IntKind.u8 fi)]),
                         ((w.alloc
                             (Obj.cells
                              #[Value.int IntKind.i64 k, Value.string s, Value.slice dq dn dc, Value.int IntKind.i64 N, Value.slice kq kn kc, Value.int IntKind.i64 nm,
                               Value.int IntKind.u8 fi]
                              (124 : Nat))).heap.size,
                          [((0 : Nat), Value.int IntKind.i64 e), ((1 : Nat), Value.slice aq an ac), ((2 : Nat), Value.int IntKind.i64 z), ((3 : Nat), Value.slice none (0 : Nat) (0 : Nat)),
                           ((4 : Nat), Value.slice lq ln lc), ((5 : Nat), Value.bool re), ((6 : Nat), Value.bool po)])] →
                       Rets Tryd.prog (177 : Nat)
                        #[Value.agg
                          #[Value.int IntKind.i64 e, Value.slice aq an ac, Value.int IntKind.i64 z, Value.slice none (0 : Nat) (0 : Nat), Value.slice lq ln lc, Value.bool re, Value.bool po]]
                        (w38.setCell
                         {
                          block :=
                           (w.alloc
                              (Obj.cells
                               #[Value.int IntKind.i64 k, Value.string s, Value.slice dq dn dc, Value.int IntKind.i64 N, Value.slice kq kn kc, Value.int IntKind.i64 nm,
                                Value.int IntKind.u8 fi]
                               (124 : Nat))).heap.size,
                          off := (3 : Nat) }
                         (Value.slice none (0 : Nat) (0 : Nat)))
                        fun (v40 : Value) (w41 : World) =>
                        ∃ (t42 : Bool),
                         v40 = Value.bool t42 ∧
                          Keeps
                            (w38.setCell
                             {
                              block :=
                               (w.alloc
                                  (Obj.cells
                                   #[Value.int IntKind.i64 k, Value.string s, Value.slice dq dn dc, Value.int IntKind.i64 N, Value.slice kq kn kc, Value.int IntKind.i64 nm,
                                    Value.int IntKind.u8 fi]
                                   (124 : Nat))).heap.size,
                              off := (3 : Nat) }
                             (Value.slice none (0 : Nat) (0 : Nat)))
                            w41
                            [w.heap.size,
                             (w.alloc
                                (Obj.cells
                                 #[Value.int IntKind.i64 k, Value.string s, Value.slice dq dn dc, Value.int IntKind.i64 N, Value.slice kq kn kc, Value.int IntKind.i64 nm,
                                  Value.int IntKind.u8 fi]
                                 (124 : Nat))).heap.size] ∧
                           (Known w41
                             [(w.heap.size,
                               [((0 : Nat), Value.int IntKind.i64 k), ((1 : Nat), Value.string s), ((2 : Nat), Value.slice dq dn dc), ((3 : Nat), Value.int IntKind.i64 N),
                                ((4 : Nat), Value.slice kq kn kc), ((5 : Nat), Value.int IntKind.i64 nm), ((6 : Nat), Value.int IntKind.u8 fi)]),
                              ((w.alloc
                                  (Obj.cells
                                   #[Value.int IntKind.i64 k, Value.string s, Value.slice dq dn dc, Value.int IntKind.i64 N, Value.slice kq kn kc, Value.int IntKind.i64 nm,
                                    Value.int IntKind.u8 fi]
                                   (124 : Nat))).heap.size,
                               [((0 : Nat), Value.int IntKind.i64 e), ((1 : Nat), Value.slice aq an ac), ((2 : Nat), Value.int IntKind.i64 z),
                                ((3 : Nat), Value.slice none (0 : Nat) (0 : Nat)), ((4 : Nat), Value.slice lq ln lc), ((5 : Nat), Value.bool re), ((6 : Nat), Value.bool po)])] →
                            R (Ending.returned (Value.bool t42)) w41)
                     else
                      Known
                        (w38.setCell
                         {
                          block :=
                           (w.alloc
                              (Obj.cells
                               #[Value.int IntKind.i64 k, Value.string s, Value.slice dq dn dc, Value.int IntKind.i64 N, Value.slice kq kn kc, Value.int IntKind.i64 nm,
                                Value.int IntKind.u8 fi]
                               (124 : Nat))).heap.size,
                          off := (3 : Nat) }
                         (Value.slice none (0 : Nat) (0 : Nat)))
                        [(w.heap.size,
                          [((0 : Nat), Value.int IntKind.i64 k), ((1 : Nat), Value.string s), ((2 : Nat), Value.slice dq dn dc), ((3 : Nat), Value.int IntKind.i64 N),
                           ((4 : Nat), Value.slice kq kn kc), ((5 : Nat), Value.int IntKind.i64 nm), ((6 : Nat), Value.int IntKind.u8 fi)]),
                         ((w.alloc
                             (Obj.cells
                              #[Value.int IntKind.i64 k, Value.string s, Value.slice dq dn dc, Value.int IntKind.i64 N, Value.slice kq kn kc, Value.int IntKind.i64 nm,
                               Value.int IntKind.u8 fi]
                              (124 : Nat))).heap.size,
                          [((0 : Nat), Value.int IntKind.i64 e), ((1 : Nat), Value.slice aq an ac), ((2 : Nat), Value.int IntKind.i64 z), ((3 : Nat), Value.slice none (0 : Nat) (0 : Nat)),
                           ((4 : Nat), Value.slice lq ln lc), ((5 : Nat), Value.bool re), ((6 : Nat), Value.bool po)])] →
                       R (Ending.returned (Value.bool false))
                        (w38.setCell
                         {
                          block :=
                           (w.alloc
                              (Obj.cells
                               #[Value.int IntKind.i64 k, Value.string s, Value.slice dq dn dc, Value.int IntKind.i64 N, Value.slice kq kn kc, Value.int IntKind.i64 nm,
                                Value.int IntKind.u8 fi]
                               (124 : Nat))).heap.size,
                          off := (3 : Nat) }
                         (Value.slice none (0 : Nat) (0 : Nat)))))
  else
   bif k == (2 : Int) then
    bif k == (2 : Int) then
     Known
       ((w.alloc (Obj.cells #[Value.int IntKind.i64 k, Value.string s, Value.slice dq dn dc, Value.int IntKind.i64 N, Value.slice kq kn kc, Value.int IntKind.i64 nm, Value.int IntKind.u8 fi] (124 : Nat))).alloc
        (Obj.cells #[Value.int IntKind.i64 e, Value.slice aq an ac, Value.int IntKind.i64 z, Value.slice nq nn nc, Value.slice lq ln lc, Value.bool re, Value.bool po] (126 : Nat)))
       [(w.heap.size,
         [((0 : Nat), Value.int IntKind.i64 k), ((1 : Nat), Value.string s), ((2 : Nat), Value.slice dq dn dc), ((3 : Nat), Value.int IntKind.i64 N), ((4 : Nat), Value.slice kq kn kc),
          ((5 : Nat), Value.int IntKind.i64 nm), ((6 : Nat), Value.int IntKind.u8 fi)]),
        ((w.alloc
            (Obj.cells #[Value.int IntKind.i64 k, Value.string s, Value.slice dq dn dc, Value.int IntKind.i64 N, Value.slice kq kn kc, Value.int IntKind.i64 nm, Value.int IntKind.u8 fi]
             (124 : Nat))).heap.size,
         [((0 : Nat), Value.int IntKind.i64 e), ((1 : Nat), Value.slice aq an ac), ((2 : Nat), Value.int IntKind.i64 z), ((3 : Nat), Value.slice nq nn nc), ((4 : Nat), Value.slice lq ln lc),
          ((5 : Nat), Value.bool re), ((6 : Nat), Value.bool po)])] →
      Rets Tryd.prog (95 : Nat) #[Value.pointer p, Value.agg #[Value.bool true, Value.slice lq ln lc]]
       ((w.alloc (Obj.cells #[Value.int IntKind.i64 k, Value.string s, Value.slice dq dn dc, Value.int IntKind.i64 N, Value.slice kq kn kc, Value.int IntKind.i64 nm, Value.int IntKind.u8 fi] (124 : Nat))).alloc
        (Obj.cells #[Value.int IntKind.i64 e, Value.slice aq an ac, Value.int IntKind.i64 z, Value.slice nq nn nc, Value.slice lq ln lc, Value.bool re, Value.bool po] (126 : Nat)))
       fun (v43 : Value) (w44 : World) =>
       ∃ (t45 : Bool),
        v43 = Value.bool t45 ∧
         Keeps
           ((w.alloc
              (Obj.cells #[Value.int IntKind.i64 k, Value.string s, Value.slice dq dn dc, Value.int IntKind.i64 N, Value.slice kq kn kc, Value.int IntKind.i64 nm, Value.int IntKind.u8 fi]
               (124 : Nat))).alloc
            (Obj.cells #[Value.int IntKind.i64 e, Value.slice aq an ac, Value.int IntKind.i64 z, Value.slice nq nn nc, Value.slice lq ln lc, Value.bool re, Value.bool po] (126 : Nat)))
           w44
           [w.heap.size,
            (w.alloc
               (Obj.cells #[Value.int IntKind.i64 k, Value.string s, Value.slice dq dn dc, Value.int IntKind.i64 N, Value.slice kq kn kc, Value.int IntKind.i64 nm, Value.int IntKind.u8 fi]
                (124 : Nat))).heap.size] ∧
          bif t45 then
           Known
             (w44.setCell
              {
               block :=
                (w.alloc
                   (Obj.cells #[Value.int IntKind.i64 k, Value.string s, Value.slice dq dn dc, Value.int IntKind.i64 N, Value.slice kq kn kc, Value.int IntKind.i64 nm, Value.int IntKind.u8 fi]
                    (124 : Nat))).heap.size,
               off := (4 : Nat) }
              (Value.slice none (0 : Nat) (0 : Nat)))
             [(w.heap.size,
               [((0 : Nat), Value.int IntKind.i64 k), ((1 : Nat), Value.string s), ((2 : Nat), Value.slice dq dn dc), ((3 : Nat), Value.int IntKind.i64 N), ((4 : Nat), Value.slice kq kn kc),
                ((5 : Nat), Value.int IntKind.i64 nm), ((6 : Nat), Value.int IntKind.u8 fi)]),
              ((w.alloc
                  (Obj.cells #[Value.int IntKind.i64 k, Value.string s, Value.slice dq dn dc, Value.int IntKind.i64 N, Value.slice kq kn kc, Value.int IntKind.i64 nm, Value.int IntKind.u8 fi]
                   (124 : Nat))).heap.size,
               [((0 : Nat), Value.int IntKind.i64 e), ((1 : Nat), Value.slice aq an ac), ((2 : Nat), Value.int IntKind.i64 z), ((3 : Nat), Value.slice nq nn nc),
                ((4 : Nat), Value.slice none (0 : Nat) (0 : Nat)), ((5 : Nat), Value.bool re), ((6 : Nat), Value.bool po)])] →
            Rets Tryd.prog (177 : Nat)
             #[Value.agg #[Value.int IntKind.i64 e, Value.slice aq an ac, Value.int IntKind.i64 z, Value.slice nq nn nc, Value.slice none (0 : Nat) (0 : Nat), Value.bool re, Value.bool po]]
             (w44.setCell
              {
               block :=
                (w.alloc
                   (Obj.cells #[Value.int IntKind.i64 k, Value.string s, Value.slice dq dn dc, Value.int IntKind.i64 N, Value.slice kq kn kc, Value.int IntKind.i64 nm, Value.int IntKind.u8 fi]
                    (124 : Nat))).heap.size,
               off := (4 : Nat) }
              (Value.slice none (0 : Nat) (0 : Nat)))
             fun (v46 : Value) (w47 : World) =>
             ∃ (t48 : Bool),
              v46 = Value.bool t48 ∧
               Keeps
                 (w44.setCell
                  {
                   block :=
                    (w.alloc
                       (Obj.cells #[Value.int IntKind.i64 k, Value.string s, Value.slice dq dn dc, Value.int IntKind.i64 N, Value.slice kq kn kc, Value.int IntKind.i64 nm, Value.int IntKind.u8 fi]
                        (124 : Nat))).heap.size,
                   off := (4 : Nat) }
                  (Value.slice none (0 : Nat) (0 : Nat)))
                 w47
                 [w.heap.size,
                  (w.alloc
                     (Obj.cells #[Value.int IntKind.i64 k, Value.string s, Value.slice dq dn dc, Value.int IntKind.i64 N, Value.slice kq kn kc, Value.int IntKind.i64 nm, Value.int IntKind.u8 fi]
                      (124 : Nat))).heap.size] ∧
                (Known w47
                  [(w.heap.size,
                    [((0 : Nat), Value.int IntKind.i64 k), ((1 : Nat), Value.string s), ((2 : Nat), Value.slice dq dn dc), ((3 : Nat), Value.int IntKind.i64 N), ((4 : Nat), Value.slice kq kn kc),
                     ((5 : Nat), Value.int IntKind.i64 nm), ((6 : Nat), Value.int IntKind.u8 fi)]),
                   ((w.alloc
                       (Obj.cells #[Value.int IntKind.i64 k, Value.string s, Value.slice dq dn dc, Value.int IntKind.i64 N, Value.slice kq kn kc, Value.int IntKind.i64 nm, Value.int IntKind.u8 fi]
                        (124 : Nat))).heap.size,
                    [((0 : Nat), Value.int IntKind.i64 e), ((1 : Nat), Value.slice aq an ac), ((2 : Nat), Value.int IntKind.i64 z), ((3 : Nat), Value.slice nq nn nc),
                     ((4 : Nat), Value.slice none (0 : Nat) (0 : Nat)), ((5 : Nat), Value.bool re), ((6 : Nat), Value.bool po)])] →
                 R (Ending.returned (Value.bool t48)) w47)
          else
           Known
             (w44.setCell
              {
               block :=
                (w.alloc
                   (Obj.cells #[Value.int IntKind.i64 k, Value.string s, Value.slice dq dn dc, Value.int IntKind.i64 N, Value.slice kq kn kc, Value.int IntKind.i64 nm, Value.int IntKind.u8 fi]
                    (124 : Nat))).heap.size,
               off := (4 : Nat) }
              (Value.slice none (0 : Nat) (0 : Nat)))
             [(w.heap.size,
               [((0 : Nat), Value.int IntKind.i64 k), ((1 : Nat), Value.string s), ((2 : Nat), Value.slice dq dn dc), ((3 : Nat), Value.int IntKind.i64 N), ((4 : Nat), Value.slice kq kn kc),
                ((5 : Nat), Value.int IntKind.i64 nm), ((6 : Nat), Value.int IntKind.u8 fi)]),
              ((w.alloc
                  (Obj.cells #[Value.int IntKind.i64 k, Value.string s, Value.slice dq dn dc, Value.int IntKind.i64 N, Value.slice kq kn kc, Value.int IntKind.i64 nm, Value.int IntKind.u8 fi]
                   (124 : Nat))).heap.size,
               [((0 : Nat), Value.int IntKind.i64 e), ((1 : Nat), Value.slice aq an ac), ((2 : Nat), Value.int IntKind.i64 z), ((3 : Nat), Value.slice nq nn nc),
                ((4 : Nat), Value.slice none (0 : Nat) (0 : Nat)), ((5 : Nat), Value.bool re), ((6 : Nat), Value.bool po)])] →
            R (Ending.returned (Value.bool false))
             (w44.setCell
              {
               block :=
                (w.alloc
                   (Obj.cells #[Value.int IntKind.i64 k, Value.string s, Value.slice dq dn dc, Value.int IntKind.i64 N, Value.slice kq kn kc, Value.int IntKind.i64 nm, Value.int IntKind.u8 fi]
                    (124 : Nat))).heap.size,
               off := (4 : Nat) }
              (Value.slice none (0 : Nat) (0 : Nat)))
    else
     Known
       ((w.alloc (Obj.cells #[Value.int IntKind.i64 k, Value.string s, Value.slice dq dn dc, Value.int IntKind.i64 N, Value.slice kq kn kc, Value.int IntKind.i64 nm, Value.int IntKind.u8 fi] (124 : Nat))).alloc
        (Obj.cells #[Value.int IntKind.i64 e, Value.slice aq an ac, Value.int IntKind.i64 z, Value.slice nq nn nc, Value.slice lq ln lc, Value.bool re, Value.bool po] (126 : Nat)))
       [(w.heap.size,
         [((0 : Nat), Value.int IntKind.i64 k), ((1 : Nat), Value.string s), ((2 : Nat), Value.slice dq dn dc), ((3 : Nat), Value.int IntKind.i64 N), ((4 : Nat), Value.slice kq kn kc),
          ((5 : Nat), Value.int IntKind.i64 nm), ((6 : Nat), Value.int IntKind.u8 fi)]),
        ((w.alloc
            (Obj.cells #[Value.int IntKind.i64 k, Value.string s, Value.slice dq dn dc, Value.int IntKind.i64 N, Value.slice kq kn kc, Value.int IntKind.i64 nm, Value.int IntKind.u8 fi]
             (124 : Nat))).heap.size,
         [((0 : Nat), Value.int IntKind.i64 e), ((1 : Nat), Value.slice aq an ac), ((2 : Nat), Value.int IntKind.i64 z), ((3 : Nat), Value.slice nq nn nc), ((4 : Nat), Value.slice lq ln lc),
          ((5 : Nat), Value.bool re), ((6 : Nat), Value.bool po)])] →
      Rets Tryd.prog (177 : Nat) #[Value.agg #[Value.int IntKind.i64 e, Value.slice aq an ac, Value.int IntKind.i64 z, Value.slice nq nn nc, Value.slice lq ln lc, Value.bool re, Value.bool po]]
       ((w.alloc (Obj.cells #[Value.int IntKind.i64 k, Value.string s, Value.slice dq dn dc, Value.int IntKind.i64 N, Value.slice kq kn kc, Value.int IntKind.i64 nm, Value.int IntKind.u8 fi] (124 : Nat))).alloc
        (Obj.cells #[Value.int IntKind.i64 e, Value.slice aq an ac, Value.int IntKind.i64 z, Value.slice nq nn nc, Value.slice lq ln lc, Value.bool re, Value.bool po] (126 : Nat)))
       fun (v49 : Value) (w50 : World) =>
       ∃ (t51 : Bool),
        v49 = Value.bool t51 ∧
         Keeps
           ((w.alloc
              (Obj.cells #[Value.int IntKind.i64 k, Value.string s, Value.slice dq dn dc, Value.int IntKind.i64 N, Value.slice kq kn kc, Value.int IntKind.i64 nm, Value.int IntKind.u8 fi]
               (124 : Nat))).alloc
            (Obj.cells #[Value.int IntKind.i64 e, Value.slice aq an ac, Value.int IntKind.i64 z, Value.slice nq nn nc, Value.slice lq ln lc, Value.bool re, Value.bool po] (126 : Nat)))
           w50
           [w.heap.size,
            (w.alloc
               (Obj.cells #[Value.int IntKind.i64 k, Value.string s, Value.slice dq dn dc, Value.int IntKind.i64 N, Value.slice kq kn kc, Value.int IntKind.i64 nm, Value.int IntKind.u8 fi]
                (124 : Nat))).heap.size] ∧
          (Known w50
            [(w.heap.size,
              [((0 : Nat), Value.int IntKind.i64 k), ((1 : Nat), Value.string s), ((2 : Nat), Value.slice dq dn dc), ((3 : Nat), Value.int IntKind.i64 N), ((4 : Nat), Value.slice kq kn kc),
               ((5 : Nat), Value.int IntKind.i64 nm), ((6 : Nat), Value.int IntKind.u8 fi)]),
             ((w.alloc
                 (Obj.cells #[Value.int IntKind.i64 k, Value.string s, Value.slice dq dn dc, Value.int IntKind.i64 N, Value.slice kq kn kc, Value.int IntKind.i64 nm, Value.int IntKind.u8 fi]
                  (124 : Nat))).heap.size,
              [((0 : Nat), Value.int IntKind.i64 e), ((1 : Nat), Value.slice aq an ac), ((2 : Nat), Value.int IntKind.i64 z), ((3 : Nat), Value.slice nq nn nc), ((4 : Nat), Value.slice lq ln lc),
               ((5 : Nat), Value.bool re), ((6 : Nat), Value.bool po)])] →
           R (Ending.returned (Value.bool t51)) w50)
   else
    bif k == (15 : Int) then
     Known
       ((w.alloc (Obj.cells #[Value.int IntKind.i64 k, Value.string s, Value.slice dq dn dc, Value.int IntKind.i64 N, Value.slice kq kn kc, Value.int IntKind.i64 nm, Value.int IntKind.u8 fi] (124 : Nat))).alloc
        (Obj.cells #[Value.int IntKind.i64 e, Value.slice aq an ac, Value.int IntKind.i64 z, Value.slice nq nn nc, Value.slice lq ln lc, Value.bool re, Value.bool po] (126 : Nat)))
       [(w.heap.size,
         [((0 : Nat), Value.int IntKind.i64 k), ((1 : Nat), Value.string s), ((2 : Nat), Value.slice dq dn dc), ((3 : Nat), Value.int IntKind.i64 N), ((4 : Nat), Value.slice kq kn kc),
          ((5 : Nat), Value.int IntKind.i64 nm), ((6 : Nat), Value.int IntKind.u8 fi)]),
        ((w.alloc
            (Obj.cells #[Value.int IntKind.i64 k, Value.string s, Value.slice dq dn dc, Value.int IntKind.i64 N, Value.slice kq kn kc, Value.int IntKind.i64 nm, Value.int IntKind.u8 fi]
             (124 : Nat))).heap.size,
         [((0 : Nat), Value.int IntKind.i64 e), ((1 : Nat), Value.slice aq an ac), ((2 : Nat), Value.int IntKind.i64 z), ((3 : Nat), Value.slice nq nn nc), ((4 : Nat), Value.slice lq ln lc),
          ((5 : Nat), Value.bool re), ((6 : Nat), Value.bool po)])] →
      Rets Tryd.prog (95 : Nat) #[Value.pointer p, Value.agg #[Value.bool true, Value.slice lq ln lc]]
       ((w.alloc (Obj.cells #[Value.int IntKind.i64 k, Value.string s, Value.slice dq dn dc, Value.int IntKind.i64 N, Value.slice kq kn kc, Value.int IntKind.i64 nm, Value.int IntKind.u8 fi] (124 : Nat))).alloc
        (Obj.cells #[Value.int IntKind.i64 e, Value.slice aq an ac, Value.int IntKind.i64 z, Value.slice nq nn nc, Value.slice lq ln lc, Value.bool re, Value.bool po] (126 : Nat)))
       fun (v52 : Value) (w53 : World) =>
       ∃ (t54 : Bool),
        v52 = Value.bool t54 ∧
         Keeps
           ((w.alloc
              (Obj.cells #[Value.int IntKind.i64 k, Value.string s, Value.slice dq dn dc, Value.int IntKind.i64 N, Value.slice kq kn kc, Value.int IntKind.i64 nm, Value.int IntKind.u8 fi]
               (124 : Nat))).alloc
            (Obj.cells #[Value.int IntKind.i64 e, Value.slice aq an ac, Value.int IntKind.i64 z, Value.slice nq nn nc, Value.slice lq ln lc, Value.bool re, Value.bool po] (126 : Nat)))
           w53
           [w.heap.size,
            (w.alloc
               (Obj.cells #[Value.int IntKind.i64 k, Value.string s, Value.slice dq dn dc, Value.int IntKind.i64 N, Value.slice kq kn kc, Value.int IntKind.i64 nm, Value.int IntKind.u8 fi]
                (124 : Nat))).heap.size] ∧
          bif t54 then
           Known
             (w53.setCell
              {
               block :=
                (w.alloc
                   (Obj.cells #[Value.int IntKind.i64 k, Value.string s, Value.slice dq dn dc, Value.int IntKind.i64 N, Value.slice kq kn kc, Value.int IntKind.i64 nm, Value.int IntKind.u8 fi]
                    (124 : Nat))).heap.size,
               off := (4 : Nat) }
              (Value.slice none (0 : Nat) (0 : Nat)))
             [(w.heap.size,
               [((0 : Nat), Value.int IntKind.i64 k), ((1 : Nat), Value.string s), ((2 : Nat), Value.slice dq dn dc), ((3 : Nat), Value.int IntKind.i64 N), ((4 : Nat), Value.slice kq kn kc),
                ((5 : Nat), Value.int IntKind.i64 nm), ((6 : Nat), Value.int IntKind.u8 fi)]),
              ((w.alloc
                  (Obj.cells #[Value.int IntKind.i64 k, Value.string s, Value.slice dq dn dc, Value.int IntKind.i64 N, Value.slice kq kn kc, Value.int IntKind.i64 nm, Value.int IntKind.u8 fi]
                   (124 : Nat))).heap.size,
               [((0 : Nat), Value.int IntKind.i64 e), ((1 : Nat), Value.slice aq an ac), ((2 : Nat), Value.int IntKind.i64 z), ((3 : Nat), Value.slice nq nn nc),
                ((4 : Nat), Value.slice none (0 : Nat) (0 : Nat)), ((5 : Nat), Value.bool re), ((6 : Nat), Value.bool po)])] →
            Rets Tryd.prog (177 : Nat)
             #[Value.agg #[Value.int IntKind.i64 e, Value.slice aq an ac, Value.int IntKind.i64 z, Value.slice nq nn nc, Value.slice none (0 : Nat) (0 : Nat), Value.bool re, Value.bool po]]
             (w53.setCell
              {
               block :=
                (w.alloc
                   (Obj.cells #[Value.int IntKind.i64 k, Value.string s, Value.slice dq dn dc, Value.int IntKind.i64 N, Value.slice kq kn kc, Value.int IntKind.i64 nm, Value.int IntKind.u8 fi]
                    (124 : Nat))).heap.size,
               off := (4 : Nat) }
              (Value.slice none (0 : Nat) (0 : Nat)))
             fun (v55 : Value) (w56 : World) =>
             ∃ (t57 : Bool),
              v55 = Value.bool t57 ∧
               Keeps
                 (w53.setCell
                  {
                   block :=
                    (w.alloc
                       (Obj.cells #[Value.int IntKind.i64 k, Value.string s, Value.slice dq dn dc, Value.int IntKind.i64 N, Value.slice kq kn kc, Value.int IntKind.i64 nm, Value.int IntKind.u8 fi]
                        (124 : Nat))).heap.size,
                   off := (4 : Nat) }
                  (Value.slice none (0 : Nat) (0 : Nat)))
                 w56
                 [w.heap.size,
                  (w.alloc
                     (Obj.cells #[Value.int IntKind.i64 k, Value.string s, Value.slice dq dn dc, Value.int IntKind.i64 N, Value.slice kq kn kc, Value.int IntKind.i64 nm, Value.int IntKind.u8 fi]
                      (124 : Nat))).heap.size] ∧
                (Known w56
                  [(w.heap.size,
                    [((0 : Nat), Value.int IntKind.i64 k), ((1 : Nat), Value.string s), ((2 : Nat), Value.slice dq dn dc), ((3 : Nat), Value.int IntKind.i64 N), ((4 : Nat), Value.slice kq kn kc),
                     ((5 : Nat), Value.int IntKind.i64 nm), ((6 : Nat), Value.int IntKind.u8 fi)]),
                   ((w.alloc
                       (Obj.cells #[Value.int IntKind.i64 k, Value.string s, Value.slice dq dn dc, Value.int IntKind.i64 N, Value.slice kq kn kc, Value.int IntKind.i64 nm, Value.int IntKind.u8 fi]
                        (124 : Nat))).heap.size,
                    [((0 : Nat), Value.int IntKind.i64 e), ((1 : Nat), Value.slice aq an ac), ((2 : Nat), Value.int IntKind.i64 z), ((3 : Nat), Value.slice nq nn nc),
                     ((4 : Nat), Value.slice none (0 : Nat) (0 : Nat)), ((5 : Nat), Value.bool re), ((6 : Nat), Value.bool po)])] →
                 R (Ending.returned (Value.bool t57)) w56)
          else
           Known
             (w53.setCell
              {
               block :=
                (w.alloc
                   (Obj.cells #[Value.int IntKind.i64 k, Value.string s, Value.slice dq dn dc, Value.int IntKind.i64 N, Value.slice kq kn kc, Value.int IntKind.i64 nm, Value.int IntKind.u8 fi]
                    (124 : Nat))).heap.size,
               off := (4 : Nat) }
              (Value.slice none (0 : Nat) (0 : Nat)))
             [(w.heap.size,
               [((0 : Nat), Value.int IntKind.i64 k), ((1 : Nat), Value.string s), ((2 : Nat), Value.slice dq dn dc), ((3 : Nat), Value.int IntKind.i64 N), ((4 : Nat), Value.slice kq kn kc),
                ((5 : Nat), Value.int IntKind.i64 nm), ((6 : Nat), Value.int IntKind.u8 fi)]),
              ((w.alloc
                  (Obj.cells #[Value.int IntKind.i64 k, Value.string s, Value.slice dq dn dc, Value.int IntKind.i64 N, Value.slice kq kn kc, Value.int IntKind.i64 nm, Value.int IntKind.u8 fi]
                   (124 : Nat))).heap.size,
               [((0 : Nat), Value.int IntKind.i64 e), ((1 : Nat), Value.slice aq an ac), ((2 : Nat), Value.int IntKind.i64 z), ((3 : Nat), Value.slice nq nn nc),
                ((4 : Nat), Value.slice none (0 : Nat) (0 : Nat)), ((5 : Nat), Value.bool re), ((6 : Nat), Value.bool po)])] →
            R (Ending.returned (Value.bool false))
             (w53.setCell
              {
               block :=
                (w.alloc
                   (Obj.cells #[Value.int IntKind.i64 k, Value.string s, Value.slice dq dn dc, Value.int IntKind.i64 N, Value.slice kq kn kc, Value.int IntKind.i64 nm, Value.int IntKind.u8 fi]
                    (124 : Nat))).heap.size,
               off := (4 : Nat) }
              (Value.slice none (0 : Nat) (0 : Nat)))
    else
     Known
       ((w.alloc (Obj.cells #[Value.int IntKind.i64 k, Value.string s, Value.slice dq dn dc, Value.int IntKind.i64 N, Value.slice kq kn kc, Value.int IntKind.i64 nm, Value.int IntKind.u8 fi] (124 : Nat))).alloc
        (Obj.cells #[Value.int IntKind.i64 e, Value.slice aq an ac, Value.int IntKind.i64 z, Value.slice nq nn nc, Value.slice lq ln lc, Value.bool re, Value.bool po] (126 : Nat)))
       [(w.heap.size,
         [((0 : Nat), Value.int IntKind.i64 k), ((1 : Nat), Value.string s), ((2 : Nat), Value.slice dq dn dc), ((3 : Nat), Value.int IntKind.i64 N), ((4 : Nat), Value.slice kq kn kc),
          ((5 : Nat), Value.int IntKind.i64 nm), ((6 : Nat), Value.int IntKind.u8 fi)]),
        ((w.alloc
            (Obj.cells #[Value.int IntKind.i64 k, Value.string s, Value.slice dq dn dc, Value.int IntKind.i64 N, Value.slice kq kn kc, Value.int IntKind.i64 nm, Value.int IntKind.u8 fi]
             (124 : Nat))).heap.size,
         [((0 : Nat), Value.int IntKind.i64 e), ((1 : Nat), Value.slice aq an ac), ((2 : Nat), Value.int IntKind.i64 z), ((3 : Nat), Value.slice nq nn nc), ((4 : Nat), Value.slice lq ln lc),
          ((5 : Nat), Value.bool re), ((6 : Nat), Value.bool po)])] →
      Rets Tryd.prog (177 : Nat) #[Value.agg #[Value.int IntKind.i64 e, Value.slice aq an ac, Value.int IntKind.i64 z, Value.slice nq nn nc, Value.slice lq ln lc, Value.bool re, Value.bool po]]
       ((w.alloc (Obj.cells #[Value.int IntKind.i64 k, Value.string s, Value.slice dq dn dc, Value.int IntKind.i64 N, Value.slice kq kn kc, Value.int IntKind.i64 nm, Value.int IntKind.u8 fi] (124 : Nat))).alloc
        (Obj.cells #[Value.int IntKind.i64 e, Value.slice aq an ac, Value.int IntKind.i64 z, Value.slice nq nn nc, Value.slice lq ln lc, Value.bool re, Value.bool po] (126 : Nat)))
       fun (v58 : Value) (w59 : World) =>
       ∃ (t60 : Bool),
        v58 = Value.bool t60 ∧
         Keeps
           ((w.alloc
              (Obj.cells #[Value.int IntKind.i64 k, Value.string s, Value.slice dq dn dc, Value.int IntKind.i64 N, Value.slice kq kn kc, Value.int IntKind.i64 nm, Value.int IntKind.u8 fi]
               (124 : Nat))).alloc
            (Obj.cells #[Value.int IntKind.i64 e, Value.slice aq an ac, Value.int IntKind.i64 z, Value.slice nq nn nc, Value.slice lq ln lc, Value.bool re, Value.bool po] (126 : Nat)))
           w59
           [w.heap.size,
            (w.alloc
               (Obj.cells #[Value.int IntKind.i64 k, Value.string s, Value.slice dq dn dc, Value.int IntKind.i64 N, Value.slice kq kn kc, Value.int IntKind.i64 nm, Value.int IntKind.u8 fi]
                (124 : Nat))).heap.size] ∧
          (Known w59
            [(w.heap.size,
              [((0 : Nat), Value.int IntKind.i64 k), ((1 : Nat), Value.string s), ((2 : Nat), Value.slice dq dn dc), ((3 : Nat), Value.int IntKind.i64 N), ((4 : Nat), Value.slice kq kn kc),
               ((5 : Nat), Value.int IntKind.i64 nm), ((6 : Nat), Value.int IntKind.u8 fi)]),
             ((w.alloc
                 (Obj.cells #[Value.int IntKind.i64 k, Value.string s, Value.slice dq dn dc, Value.int IntKind.i64 N, Value.slice kq kn kc, Value.int IntKind.i64 nm, Value.int IntKind.u8 fi]
                  (124 : Nat))).heap.size,
              [((0 : Nat), Value.int IntKind.i64 e), ((1 : Nat), Value.slice aq an ac), ((2 : Nat), Value.int IntKind.i64 z), ((3 : Nat), Value.slice nq nn nc), ((4 : Nat), Value.slice lq ln lc),
               ((5 : Nat), Value.bool re), ((6 : Nat), Value.bool po)])] →
           R (Ending.returned (Value.bool t60)) w59)
theorem vcTryd178 (p : Option Addr) (k : Int) (s : ByteArray) (dq : Option Addr) (dn dc : Nat) (N : Int) (kq : Option Addr) (kn kc : Nat) (nm fi : Int) (e : Int) (aq : Option Addr) (an ac : Nat) (z : Int) (nq : Option Addr) (nn nc : Nat) (lq : Option Addr) (ln lc : Nat) (re po : Bool) (w : World) (R : Ending → World → Prop) : SX.vcFn Tryd.prog [] Tryd.f178 [.v (.pointer p), .v (.agg #[.int .i64 k, .string s, .slice dq dn dc, .int .i64 N, .slice kq kn kc, .int .i64 nm, .int .u8 fi]), .v (.agg #[.int .i64 e, .slice aq an ac, .int .i64 z, .slice nq nn nc, .slice lq ln lc, .bool re, .bool po])] [] w R = VCTryd178 p k s dq dn dc N kq kn kc nm fi e aq an ac z nq nn nc lq ln lc re po w R := by kernel_rfl
def VCTryd142 (p : Option Addr) (k : Int) (s : ByteArray) (dq : Option Addr) (dn dc : Nat) (N : Int) (kq : Option Addr) (kn kc : Nat) (nm fi : Int) (e : Int) (aq : Option Addr) (an ac : Nat) (z : Int) (nq : Option Addr) (nn nc : Nat) (lq : Option Addr) (ln lc : Nat) (re po : Bool) (w : World) (R : Ending → World → Prop) : Prop :=
bif re then
 Known
   ((w.alloc (Obj.cells #[Value.int IntKind.i64 k, Value.string s, Value.slice dq dn dc, Value.int IntKind.i64 N, Value.slice kq kn kc, Value.int IntKind.i64 nm, Value.int IntKind.u8 fi] (124 : Nat))).alloc
    (Obj.cells #[Value.int IntKind.i64 e, Value.slice aq an ac, Value.int IntKind.i64 z, Value.slice nq nn nc, Value.slice lq ln lc, Value.bool re, Value.bool po] (126 : Nat)))
   [(w.heap.size,
     [((0 : Nat), Value.int IntKind.i64 k), ((1 : Nat), Value.string s), ((2 : Nat), Value.slice dq dn dc), ((3 : Nat), Value.int IntKind.i64 N), ((4 : Nat), Value.slice kq kn kc),
      ((5 : Nat), Value.int IntKind.i64 nm), ((6 : Nat), Value.int IntKind.u8 fi)]),
    ((w.alloc (Obj.cells #[Value.int IntKind.i64 k, Value.string s, Value.slice dq dn dc, Value.int IntKind.i64 N, Value.slice kq kn kc, Value.int IntKind.i64 nm, Value.int IntKind.u8 fi] (124 : Nat))).heap.size,
     [((0 : Nat), Value.int IntKind.i64 e), ((1 : Nat), Value.slice aq an ac), ((2 : Nat), Value.int IntKind.i64 z), ((3 : Nat), Value.slice nq nn nc), ((4 : Nat), Value.slice lq ln lc), ((5 : Nat), Value.bool re),
      ((6 : Nat), Value.bool po)])] →
  Rets Tryd.prog (175 : Nat) #[Value.int IntKind.i64 k]
   ((w.alloc (Obj.cells #[Value.int IntKind.i64 k, Value.string s, Value.slice dq dn dc, Value.int IntKind.i64 N, Value.slice kq kn kc, Value.int IntKind.i64 nm, Value.int IntKind.u8 fi] (124 : Nat))).alloc
    (Obj.cells #[Value.int IntKind.i64 e, Value.slice aq an ac, Value.int IntKind.i64 z, Value.slice nq nn nc, Value.slice lq ln lc, Value.bool re, Value.bool po] (126 : Nat)))
   fun (v0 : Value) (w1 : World) =>
   ∃ (t2 : Bool),
    v0 = Value.bool t2 ∧
     Keeps
       ((w.alloc (Obj.cells #[Value.int IntKind.i64 k, Value.string s, Value.slice dq dn dc, Value.int IntKind.i64 N, Value.slice kq kn kc, Value.int IntKind.i64 nm, Value.int IntKind.u8 fi] (124 : Nat))).alloc
        (Obj.cells #[Value.int IntKind.i64 e, Value.slice aq an ac, Value.int IntKind.i64 z, Value.slice nq nn nc, Value.slice lq ln lc, Value.bool re, Value.bool po] (126 : Nat)))
       w1
       [w.heap.size,
        (w.alloc
           (Obj.cells #[Value.int IntKind.i64 k, Value.string s, Value.slice dq dn dc, Value.int IntKind.i64 N, Value.slice kq kn kc, Value.int IntKind.i64 nm, Value.int IntKind.u8 fi]
            (124 : Nat))).heap.size] ∧
      bif t2 then
       Known w1
         [(w.heap.size,
           [((0 : Nat), Value.int IntKind.i64 k), ((1 : Nat), Value.string s), ((2 : Nat), Value.slice dq dn dc), ((3 : Nat), Value.int IntKind.i64 N), ((4 : Nat), Value.slice kq kn kc),
            ((5 : Nat), Value.int IntKind.i64 nm), ((6 : Nat), Value.int IntKind.u8 fi)]),
          ((w.alloc
              (Obj.cells #[Value.int IntKind.i64 k, Value.string s, Value.slice dq dn dc, Value.int IntKind.i64 N, Value.slice kq kn kc, Value.int IntKind.i64 nm, Value.int IntKind.u8 fi]
               (124 : Nat))).heap.size,
           [((0 : Nat), Value.int IntKind.i64 e), ((1 : Nat), Value.slice aq an ac), ((2 : Nat), Value.int IntKind.i64 z), ((3 : Nat), Value.slice nq nn nc), ((4 : Nat), Value.slice lq ln lc),
            ((5 : Nat), Value.bool re), ((6 : Nat), Value.bool po)])] →
        Rets Tryd.prog (176 : Nat)
         #[Value.pointer p, Value.agg #[Value.int IntKind.i64 k, Value.string s, Value.slice dq dn dc, Value.int IntKind.i64 N, Value.slice kq kn kc, Value.int IntKind.i64 nm, Value.int IntKind.u8 fi],
          Value.int IntKind.i64 (0 : Int)]
         w1 fun (v3 : Value) (w4 : World) =>
         ∃ (t5 : Bool),
          v3 = Value.bool t5 ∧
           Keeps w1 w4
             [w.heap.size,
              (w.alloc
                 (Obj.cells #[Value.int IntKind.i64 k, Value.string s, Value.slice dq dn dc, Value.int IntKind.i64 N, Value.slice kq kn kc, Value.int IntKind.i64 nm, Value.int IntKind.u8 fi]
                  (124 : Nat))).heap.size] ∧
            bif t5 then
             bif e == (10 : Int) then
              Known w4
                [(w.heap.size,
                  [((0 : Nat), Value.int IntKind.i64 k), ((1 : Nat), Value.string s), ((2 : Nat), Value.slice dq dn dc), ((3 : Nat), Value.int IntKind.i64 N), ((4 : Nat), Value.slice kq kn kc),
                   ((5 : Nat), Value.int IntKind.i64 nm), ((6 : Nat), Value.int IntKind.u8 fi)]),
                 ((w.alloc
                     (Obj.cells #[Value.int IntKind.i64 k, Value.string s, Value.slice dq dn dc, Value.int IntKind.i64 N, Value.slice kq kn kc, Value.int IntKind.i64 nm, Value.int IntKind.u8 fi]
                      (124 : Nat))).heap.size,
                  [((0 : Nat), Value.int IntKind.i64 e), ((1 : Nat), Value.slice aq an ac), ((2 : Nat), Value.int IntKind.i64 z), ((3 : Nat), Value.slice nq nn nc), ((4 : Nat), Value.slice lq ln lc),
                   ((5 : Nat), Value.bool re), ((6 : Nat), Value.bool po)])] →
               Rets Tryd.prog (177 : Nat) #[Value.agg #[Value.int IntKind.i64 e, Value.slice aq an ac, Value.int IntKind.i64 z, Value.slice nq nn nc, Value.slice lq ln lc, Value.bool re, Value.bool po]] w4
                fun (v6 : Value) (w7 : World) =>
                ∃ (t8 : Bool),
                 v6 = Value.bool t8 ∧
                  Keeps w4 w7
                    [w.heap.size,
                     (w.alloc
                        (Obj.cells
                         #[Value.int IntKind.i64 k, Value.string s, Value.slice dq dn dc, Value.int IntKind.i64 N, Value.slice kq kn kc, Value.int IntKind.i64 nm, Value.int IntKind.u8 fi]
                         (124 : Nat))).heap.size] ∧
                   (Known w7
                     [(w.heap.size,
                       [((0 : Nat), Value.int IntKind.i64 k), ((1 : Nat), Value.string s), ((2 : Nat), Value.slice dq dn dc), ((3 : Nat), Value.int IntKind.i64 N),
                        ((4 : Nat), Value.slice kq kn kc), ((5 : Nat), Value.int IntKind.i64 nm), ((6 : Nat), Value.int IntKind.u8 fi)]),
                      ((w.alloc
                          (Obj.cells
                           #[Value.int IntKind.i64 k, Value.string s, Value.slice dq dn dc, Value.int IntKind.i64 N, Value.slice kq kn kc, Value.int IntKind.i64 nm, Value.int IntKind.u8 fi]
                           (124 : Nat))).heap.size,
                       [((0 : Nat), Value.int IntKind.i64 e), ((1 : Nat), Value.slice aq an ac), ((2 : Nat), Value.int IntKind.i64 z), ((3 : Nat), Value.slice nq nn nc),
                        ((4 : Nat), Value.slice lq ln lc), ((5 : Nat), Value.bool re), ((6 : Nat), Value.bool po)])] →
                    R (Ending.returned (Value.bool t8)) w7)
             else
              bif e == (9 : Int) then
               Known w4
                 [(w.heap.size,
                   [((0 : Nat), Value.int IntKind.i64 k), ((1 : Nat), Value.string s), ((2 : Nat), Value.slice dq dn dc), ((3 : Nat), Value.int IntKind.i64 N), ((4 : Nat), Value.slice kq kn kc),
                    ((5 : Nat), Value.int IntKind.i64 nm), ((6 : Nat), Value.int IntKind.u8 fi)]),
                  ((w.alloc
                      (Obj.cells #[Value.int IntKind.i64 k, Value.string s, Value.slice dq dn dc, Value.int IntKind.i64 N, Value.slice kq kn kc, Value.int IntKind.i64 nm, Value.int IntKind.u8 fi]
                       (124 : Nat))).heap.size,
                   [((0 : Nat), Value.int IntKind.i64 e), ((1 : Nat), Value.slice aq an ac), ((2 : Nat), Value.int IntKind.i64 z), ((3 : Nat), Value.slice nq nn nc), ((4 : Nat), Value.slice lq ln lc),
                    ((5 : Nat), Value.bool re), ((6 : Nat), Value.bool po)])] →
                Rets Tryd.prog (177 : Nat) #[Value.agg #[Value.int IntKind.i64 e, Value.slice aq an ac, Value.int IntKind.i64 z, Value.slice nq nn nc, Value.slice lq ln lc, Value.bool re, Value.bool po]]
                 w4 fun (v9 : Value) (w10 : World) =>
                 ∃ (t11 : Bool),
                  v9 = Value.bool t11 ∧
                   Keeps w4 w10
                     [w.heap.size,
                      (w.alloc
                         (Obj.cells
                          #[Value.int IntKind.i64 k, Value.string s, Value.slice dq dn dc, Value.int IntKind.i64 N, Value.slice kq kn kc, Value.int IntKind.i64 nm, Value.int IntKind.u8 fi]
                          (124 : Nat))).heap.size] ∧
                    (Known w10
                      [(w.heap.size,
                        [((0 : Nat), Value.int IntKind.i64 k), ((1 : Nat), Value.string s), ((2 : Nat), Value.slice dq dn dc), ((3 : Nat), Value.int IntKind.i64 N),
                         ((4 : Nat), Value.slice kq kn kc), ((5 : Nat), Value.int IntKind.i64 nm), ((6 : Nat), Value.int IntKind.u8 fi)]),
                       ((w.alloc
                           (Obj.cells
                            #[Value.int IntKind.i64 k, Value.string s, Value.slice dq dn dc, Value.int IntKind.i64 N, Value.slice kq kn kc, Value.int IntKind.i64 nm, Value.int IntKind.u8 fi]
                            (124 : Nat))).heap.size,
                        [((0 : Nat), Value.int IntKind.i64 e), ((1 : Nat), Value.slice aq an ac), ((2 : Nat), Value.int IntKind.i64 z), ((3 : Nat), Value.slice nq nn nc),
                         ((4 : Nat), Value.slice lq ln lc), ((5 : Nat), Value.bool re), ((6 : Nat), Value.bool po)])] →
                     R (Ending.returned (Value.bool t11)) w10)
              else
               Known w4
                 [(w.heap.size,
                   [((0 : Nat), Value.int IntKind.i64 k), ((1 : Nat), Value.string s), ((2 : Nat), Value.slice dq dn dc), ((3 : Nat), Value.int IntKind.i64 N), ((4 : Nat), Value.slice kq kn kc),
                    ((5 : Nat), Value.int IntKind.i64 nm), ((6 : Nat), Value.int IntKind.u8 fi)]),
                  ((w.alloc
                      (Obj.cells #[Value.int IntKind.i64 k, Value.string s, Value.slice dq dn dc, Value.int IntKind.i64 N, Value.slice kq kn kc, Value.int IntKind.i64 nm, Value.int IntKind.u8 fi]
                       (124 : Nat))).heap.size,
                   [((0 : Nat), Value.int IntKind.i64 e), ((1 : Nat), Value.slice aq an ac), ((2 : Nat), Value.int IntKind.i64 z), ((3 : Nat), Value.slice nq nn nc), ((4 : Nat), Value.slice lq ln lc),
                    ((5 : Nat), Value.bool re), ((6 : Nat), Value.bool po)])] →
                R (Ending.returned (Value.bool false)) w4
            else
             Known w4
               [(w.heap.size,
                 [((0 : Nat), Value.int IntKind.i64 k), ((1 : Nat), Value.string s), ((2 : Nat), Value.slice dq dn dc), ((3 : Nat), Value.int IntKind.i64 N), ((4 : Nat), Value.slice kq kn kc),
                  ((5 : Nat), Value.int IntKind.i64 nm), ((6 : Nat), Value.int IntKind.u8 fi)]),
                ((w.alloc
                    (Obj.cells #[Value.int IntKind.i64 k, Value.string s, Value.slice dq dn dc, Value.int IntKind.i64 N, Value.slice kq kn kc, Value.int IntKind.i64 nm, Value.int IntKind.u8 fi]
                     (124 : Nat))).heap.size,
                 [((0 : Nat), Value.int IntKind.i64 e), ((1 : Nat), Value.slice aq an ac), ((2 : Nat), Value.int IntKind.i64 z), ((3 : Nat), Value.slice nq nn nc), ((4 : Nat), Value.slice lq ln lc),
                  ((5 : Nat), Value.bool re), ((6 : Nat), Value.bool po)])] →
              R (Ending.returned (Value.bool false)) w4
      else
       Known w1
         [(w.heap.size,
           [((0 : Nat), Value.int IntKind.i64 k), ((1 : Nat), Value.string s), ((2 : Nat), Value.slice dq dn dc), ((3 : Nat), Value.int IntKind.i64 N), ((4 : Nat), Value.slice kq kn kc),
            ((5 : Nat), Value.int IntKind.i64 nm), ((6 : Nat), Value.int IntKind.u8 fi)]),
          ((w.alloc
              (Obj.cells #[Value.int IntKind.i64 k, Value.string s, Value.slice dq dn dc, Value.int IntKind.i64 N, Value.slice kq kn kc, Value.int IntKind.i64 nm, Value.int IntKind.u8 fi]
               (124 : Nat))).heap.size,
           [((0 : Nat), Value.int IntKind.i64 e), ((1 : Nat), Value.slice aq an ac), ((2 : Nat), Value.int IntKind.i64 z), ((3 : Nat), Value.slice nq nn nc), ((4 : Nat), Value.slice lq ln lc),
            ((5 : Nat), Value.bool re), ((6 : Nat), Value.bool po)])] →
        R (Ending.returned (Value.bool false)) w1
else
 Known
   ((w.alloc (Obj.cells #[Value.int IntKind.i64 k, Value.string s, Value.slice dq dn dc, Value.int IntKind.i64 N, Value.slice kq kn kc, Value.int IntKind.i64 nm, Value.int IntKind.u8 fi] (124 : Nat))).alloc
    (Obj.cells #[Value.int IntKind.i64 e, Value.slice aq an ac, Value.int IntKind.i64 z, Value.slice nq nn nc, Value.slice lq ln lc, Value.bool re, Value.bool po] (126 : Nat)))
   [(w.heap.size,
     [((0 : Nat), Value.int IntKind.i64 k), ((1 : Nat), Value.string s), ((2 : Nat), Value.slice dq dn dc), ((3 : Nat), Value.int IntKind.i64 N), ((4 : Nat), Value.slice kq kn kc),
      ((5 : Nat), Value.int IntKind.i64 nm), ((6 : Nat), Value.int IntKind.u8 fi)]),
    ((w.alloc (Obj.cells #[Value.int IntKind.i64 k, Value.string s, Value.slice dq dn dc, Value.int IntKind.i64 N, Value.slice kq kn kc, Value.int IntKind.i64 nm, Value.int IntKind.u8 fi] (124 : Nat))).heap.size,
     [((0 : Nat), Value.int IntKind.i64 e), ((1 : Nat), Value.slice aq an ac), ((2 : Nat), Value.int IntKind.i64 z), ((3 : Nat), Value.slice nq nn nc), ((4 : Nat), Value.slice lq ln lc), ((5 : Nat), Value.bool re),
      ((6 : Nat), Value.bool po)])] →
  Rets Tryd.prog (176 : Nat)
   #[Value.pointer p, Value.agg #[Value.int IntKind.i64 k, Value.string s, Value.slice dq dn dc, Value.int IntKind.i64 N, Value.slice kq kn kc, Value.int IntKind.i64 nm, Value.int IntKind.u8 fi],
    Value.int IntKind.i64 e]
   ((w.alloc (Obj.cells #[Value.int IntKind.i64 k, Value.string s, Value.slice dq dn dc, Value.int IntKind.i64 N, Value.slice kq kn kc, Value.int IntKind.i64 nm, Value.int IntKind.u8 fi] (124 : Nat))).alloc
    (Obj.cells #[Value.int IntKind.i64 e, Value.slice aq an ac, Value.int IntKind.i64 z, Value.slice nq nn nc, Value.slice lq ln lc, Value.bool re, Value.bool po] (126 : Nat)))
   fun (v12 : Value) (w13 : World) =>
   ∃ (t14 : Bool),
    v12 = Value.bool t14 ∧
     Keeps
       ((w.alloc (Obj.cells #[Value.int IntKind.i64 k, Value.string s, Value.slice dq dn dc, Value.int IntKind.i64 N, Value.slice kq kn kc, Value.int IntKind.i64 nm, Value.int IntKind.u8 fi] (124 : Nat))).alloc
        (Obj.cells #[Value.int IntKind.i64 e, Value.slice aq an ac, Value.int IntKind.i64 z, Value.slice nq nn nc, Value.slice lq ln lc, Value.bool re, Value.bool po] (126 : Nat)))
       w13
       [w.heap.size,
        (w.alloc
           (Obj.cells #[Value.int IntKind.i64 k, Value.string s, Value.slice dq dn dc, Value.int IntKind.i64 N, Value.slice kq kn kc, Value.int IntKind.i64 nm, Value.int IntKind.u8 fi]
            (124 : Nat))).heap.size] ∧
      bif !t14 then
       Known w13
         [(w.heap.size,
           [((0 : Nat), Value.int IntKind.i64 k), ((1 : Nat), Value.string s), ((2 : Nat), Value.slice dq dn dc), ((3 : Nat), Value.int IntKind.i64 N), ((4 : Nat), Value.slice kq kn kc),
            ((5 : Nat), Value.int IntKind.i64 nm), ((6 : Nat), Value.int IntKind.u8 fi)]),
          ((w.alloc
              (Obj.cells #[Value.int IntKind.i64 k, Value.string s, Value.slice dq dn dc, Value.int IntKind.i64 N, Value.slice kq kn kc, Value.int IntKind.i64 nm, Value.int IntKind.u8 fi]
               (124 : Nat))).heap.size,
           [((0 : Nat), Value.int IntKind.i64 e), ((1 : Nat), Value.slice aq an ac), ((2 : Nat), Value.int IntKind.i64 z), ((3 : Nat), Value.slice nq nn nc), ((4 : Nat), Value.slice lq ln lc),
            ((5 : Nat), Value.bool re), ((6 : Nat), Value.bool po)])] →
        R (Ending.returned (Value.bool false)) w13
      else
       bif e != (0 : Int) then
        Known w13
          [(w.heap.size,
            [((0 : Nat), Value.int IntKind.i64 k), ((1 : Nat), Value.string s), ((2 : Nat), Value.slice dq dn dc), ((3 : Nat), Value.int IntKind.i64 N), ((4 : Nat), Value.slice kq kn kc),
             ((5 : Nat), Value.int IntKind.i64 nm), ((6 : Nat), Value.int IntKind.u8 fi)]),
           ((w.alloc
               (Obj.cells #[Value.int IntKind.i64 k, Value.string s, Value.slice dq dn dc, Value.int IntKind.i64 N, Value.slice kq kn kc, Value.int IntKind.i64 nm, Value.int IntKind.u8 fi]
                (124 : Nat))).heap.size,
            [((0 : Nat), Value.int IntKind.i64 e), ((1 : Nat), Value.slice aq an ac), ((2 : Nat), Value.int IntKind.i64 z), ((3 : Nat), Value.slice nq nn nc), ((4 : Nat), Value.slice lq ln lc),
             ((5 : Nat), Value.bool re), ((6 : Nat), Value.bool po)])] →
         Rets Tryd.prog (177 : Nat) #[Value.agg #[Value.int IntKind.i64 e, Value.slice aq an ac, Value.int IntKind.i64 z, Value.slice nq nn nc, Value.slice lq ln lc, Value.bool re, Value.bool po]] w13
          fun (v15 : Value) (w16 : World) =>
          ∃ (t17 : Bool),
           v15 = Value.bool t17 ∧
            Keeps w13 w16
              [w.heap.size,
               (w.alloc
                  (Obj.cells #[Value.int IntKind.i64 k, Value.string s, Value.slice dq dn dc, Value.int IntKind.i64 N, Value.slice kq kn kc, Value.int IntKind.i64 nm, Value.int IntKind.u8 fi]
                   (124 : Nat))).heap.size] ∧
             (Known w16
               [(w.heap.size,
                 [((0 : Nat), Value.int IntKind.i64 k), ((1 : Nat), Value.string s), ((2 : Nat), Value.slice dq dn dc), ((3 : Nat), Value.int IntKind.i64 N), ((4 : Nat), Value.slice kq kn kc),
                  ((5 : Nat), Value.int IntKind.i64 nm), ((6 : Nat), Value.int IntKind.u8 fi)]),
                ((w.alloc
                    (Obj.cells #[Value.int IntKind.i64 k, Value.string s, Value.slice dq dn dc, Value.int IntKind.i64 N, Value.slice kq kn kc, Value.int IntKind.i64 nm, Value.int IntKind.u8 fi]
                     (124 : Nat))).heap.size,
                 [((0 : Nat), Value.int IntKind.i64 e), ((1 : Nat), Value.slice aq an ac), ((2 : Nat), Value.int IntKind.i64 z), ((3 : Nat), Value.slice nq nn nc), ((4 : Nat), Value.slice lq ln lc),
                  ((5 : Nat), Value.bool re), ((6 : Nat), Value.bool po)])] →
              R (Ending.returned (Value.bool t17)) w16)
       else
        Known w13
          [(w.heap.size,
            [((0 : Nat), Value.int IntKind.i64 k), ((1 : Nat), Value.string s), ((2 : Nat), Value.slice dq dn dc), ((3 : Nat), Value.int IntKind.i64 N), ((4 : Nat), Value.slice kq kn kc),
             ((5 : Nat), Value.int IntKind.i64 nm), ((6 : Nat), Value.int IntKind.u8 fi)]),
           ((w.alloc
               (Obj.cells #[Value.int IntKind.i64 k, Value.string s, Value.slice dq dn dc, Value.int IntKind.i64 N, Value.slice kq kn kc, Value.int IntKind.i64 nm, Value.int IntKind.u8 fi]
                (124 : Nat))).heap.size,
            [((0 : Nat), Value.int IntKind.i64 e), ((1 : Nat), Value.slice aq an ac), ((2 : Nat), Value.int IntKind.i64 z), ((3 : Nat), Value.slice nq nn nc), ((4 : Nat), Value.slice lq ln lc),
             ((5 : Nat), Value.bool re), ((6 : Nat), Value.bool po)])] →
         Rets Tryd.prog (178 : Nat)
          #[Value.pointer p, Value.agg #[Value.int IntKind.i64 k, Value.string s, Value.slice dq dn dc, Value.int IntKind.i64 N, Value.slice kq kn kc, Value.int IntKind.i64 nm, Value.int IntKind.u8 fi],
           Value.agg #[Value.int IntKind.i64 e, Value.slice aq an ac, Value.int IntKind.i64 z, Value.slice nq nn nc, Value.slice lq ln lc, Value.bool re, Value.bool po]]
          w13 fun (v18 : Value) (w19 : World) =>
          ∃ (t20 : Bool),
           v18 = Value.bool t20 ∧
            Keeps w13 w19
              [w.heap.size,
               (w.alloc
                  (Obj.cells #[Value.int IntKind.i64 k, Value.string s, Value.slice dq dn dc, Value.int IntKind.i64 N, Value.slice kq kn kc, Value.int IntKind.i64 nm, Value.int IntKind.u8 fi]
                   (124 : Nat))).heap.size] ∧
             (Known w19
               [(w.heap.size,
                 [((0 : Nat), Value.int IntKind.i64 k), ((1 : Nat), Value.string s), ((2 : Nat), Value.slice dq dn dc), ((3 : Nat), Value.int IntKind.i64 N), ((4 : Nat), Value.slice kq kn kc),
                  ((5 : Nat), Value.int IntKind.i64 nm), ((6 : Nat), Value.int IntKind.u8 fi)]),
                ((w.alloc
                    (Obj.cells #[Value.int IntKind.i64 k, Value.string s, Value.slice dq dn dc, Value.int IntKind.i64 N, Value.slice kq kn kc, Value.int IntKind.i64 nm, Value.int IntKind.u8 fi]
                     (124 : Nat))).heap.size,
                 [((0 : Nat), Value.int IntKind.i64 e), ((1 : Nat), Value.slice aq an ac), ((2 : Nat), Value.int IntKind.i64 z), ((3 : Nat), Value.slice nq nn nc), ((4 : Nat), Value.slice lq ln lc),
                  ((5 : Nat), Value.bool re), ((6 : Nat), Value.bool po)])] →
              R (Ending.returned (Value.bool t20)) w19)
theorem vcTryd142 (p : Option Addr) (k : Int) (s : ByteArray) (dq : Option Addr) (dn dc : Nat) (N : Int) (kq : Option Addr) (kn kc : Nat) (nm fi : Int) (e : Int) (aq : Option Addr) (an ac : Nat) (z : Int) (nq : Option Addr) (nn nc : Nat) (lq : Option Addr) (ln lc : Nat) (re po : Bool) (w : World) (R : Ending → World → Prop) : SX.vcFn Tryd.prog [] Tryd.f142 [.v (.pointer p), .v (.agg #[.int .i64 k, .string s, .slice dq dn dc, .int .i64 N, .slice kq kn kc, .int .i64 nm, .int .u8 fi]), .v (.agg #[.int .i64 e, .slice aq an ac, .int .i64 z, .slice nq nn nc, .slice lq ln lc, .bool re, .bool po])] [] w R = VCTryd142 p k s dq dn dc N kq kn kc nm fi e aq an ac z nq nn nc lq ln lc re po w R := by kernel_rfl
def VCTryd143 (p : Option Addr) (k : Int) (s : ByteArray) (dq : Option Addr) (dn dc : Nat) (N : Int) (kq : Option Addr) (kn kc : Nat) (nm fi : Int) (e : Int) (aq : Option Addr) (an ac : Nat) (z : Int) (nq : Option Addr) (nn nc : Nat) (lq : Option Addr) (ln lc : Nat) (re po : Bool) (w : World) (R : Ending → World → Prop) : Prop :=
Known
  ((w.alloc (Obj.cells #[Value.int IntKind.i64 k, Value.string s, Value.slice dq dn dc, Value.int IntKind.i64 N, Value.slice kq kn kc, Value.int IntKind.i64 nm, Value.int IntKind.u8 fi] (124 : Nat))).alloc
   (Obj.cells #[Value.int IntKind.i64 e, Value.slice aq an ac, Value.int IntKind.i64 z, Value.slice nq nn nc, Value.slice lq ln lc, Value.bool re, Value.bool po] (126 : Nat)))
  [(w.heap.size,
    [((0 : Nat), Value.int IntKind.i64 k), ((1 : Nat), Value.string s), ((2 : Nat), Value.slice dq dn dc), ((3 : Nat), Value.int IntKind.i64 N), ((4 : Nat), Value.slice kq kn kc),
     ((5 : Nat), Value.int IntKind.i64 nm), ((6 : Nat), Value.int IntKind.u8 fi)]),
   ((w.alloc (Obj.cells #[Value.int IntKind.i64 k, Value.string s, Value.slice dq dn dc, Value.int IntKind.i64 N, Value.slice kq kn kc, Value.int IntKind.i64 nm, Value.int IntKind.u8 fi] (124 : Nat))).heap.size,
    [((0 : Nat), Value.int IntKind.i64 e), ((1 : Nat), Value.slice aq an ac), ((2 : Nat), Value.int IntKind.i64 z), ((3 : Nat), Value.slice nq nn nc), ((4 : Nat), Value.slice lq ln lc), ((5 : Nat), Value.bool re),
     ((6 : Nat), Value.bool po)])] →
 Rets Tryd.prog (144 : Nat)
  #[Value.pointer p, Value.agg #[Value.int IntKind.i64 k, Value.string s, Value.slice dq dn dc, Value.int IntKind.i64 N, Value.slice kq kn kc, Value.int IntKind.i64 nm, Value.int IntKind.u8 fi],
   Value.agg #[Value.int IntKind.i64 e, Value.slice aq an ac, Value.int IntKind.i64 z, Value.slice nq nn nc, Value.slice lq ln lc, Value.bool re, Value.bool po]]
  ((w.alloc (Obj.cells #[Value.int IntKind.i64 k, Value.string s, Value.slice dq dn dc, Value.int IntKind.i64 N, Value.slice kq kn kc, Value.int IntKind.i64 nm, Value.int IntKind.u8 fi] (124 : Nat))).alloc
   (Obj.cells #[Value.int IntKind.i64 e, Value.slice aq an ac, Value.int IntKind.i64 z, Value.slice nq nn nc, Value.slice lq ln lc, Value.bool re, Value.bool po] (126 : Nat)))
  fun (v0 : Value) (w1 : World) =>
  ∃ (t2 : Bool),
   v0 = Value.bool t2 ∧
    Keeps
      ((w.alloc (Obj.cells #[Value.int IntKind.i64 k, Value.string s, Value.slice dq dn dc, Value.int IntKind.i64 N, Value.slice kq kn kc, Value.int IntKind.i64 nm, Value.int IntKind.u8 fi] (124 : Nat))).alloc
       (Obj.cells #[Value.int IntKind.i64 e, Value.slice aq an ac, Value.int IntKind.i64 z, Value.slice nq nn nc, Value.slice lq ln lc, Value.bool re, Value.bool po] (126 : Nat)))
      w1
      [w.heap.size,
       (w.alloc
          (Obj.cells #[Value.int IntKind.i64 k, Value.string s, Value.slice dq dn dc, Value.int IntKind.i64 N, Value.slice kq kn kc, Value.int IntKind.i64 nm, Value.int IntKind.u8 fi] (124 : Nat))).heap.size] ∧
     bif t2 then
      Known w1
        [(w.heap.size,
          [((0 : Nat), Value.int IntKind.i64 k), ((1 : Nat), Value.string s), ((2 : Nat), Value.slice dq dn dc), ((3 : Nat), Value.int IntKind.i64 N), ((4 : Nat), Value.slice kq kn kc),
           ((5 : Nat), Value.int IntKind.i64 nm), ((6 : Nat), Value.int IntKind.u8 fi)]),
         ((w.alloc
             (Obj.cells #[Value.int IntKind.i64 k, Value.string s, Value.slice dq dn dc, Value.int IntKind.i64 N, Value.slice kq kn kc, Value.int IntKind.i64 nm, Value.int IntKind.u8 fi]
              (124 : Nat))).heap.size,
          [((0 : Nat), Value.int IntKind.i64 e), ((1 : Nat), Value.slice aq an ac), ((2 : Nat), Value.int IntKind.i64 z), ((3 : Nat), Value.slice nq nn nc), ((4 : Nat), Value.slice lq ln lc),
           ((5 : Nat), Value.bool re), ((6 : Nat), Value.bool po)])] →
       R (Ending.returned (Value.bool !po)) w1
     else
      SX.Ptr p fun (a3 : Addr) =>
       ∃ (t4 : Bool),
        w1.cell? (a3.add (1 : Nat)) = some (Value.bool t4) ∧
         bif !t4 then
          Known w1
            [(w.heap.size,
              [((0 : Nat), Value.int IntKind.i64 k), ((1 : Nat), Value.string s), ((2 : Nat), Value.slice dq dn dc), ((3 : Nat), Value.int IntKind.i64 N), ((4 : Nat), Value.slice kq kn kc),
               ((5 : Nat), Value.int IntKind.i64 nm), ((6 : Nat), Value.int IntKind.u8 fi)]),
             ((w.alloc
                 (Obj.cells #[Value.int IntKind.i64 k, Value.string s, Value.slice dq dn dc, Value.int IntKind.i64 N, Value.slice kq kn kc, Value.int IntKind.i64 nm, Value.int IntKind.u8 fi]
                  (124 : Nat))).heap.size,
              [((0 : Nat), Value.int IntKind.i64 e), ((1 : Nat), Value.slice aq an ac), ((2 : Nat), Value.int IntKind.i64 z), ((3 : Nat), Value.slice nq nn nc), ((4 : Nat), Value.slice lq ln lc),
               ((5 : Nat), Value.bool re), ((6 : Nat), Value.bool po)])] →
           R (Ending.returned (Value.bool !po)) w1
         else
          bif re then
           bif k == (12 : Int) then
            Known w1
              [(w.heap.size,
                [((0 : Nat), Value.int IntKind.i64 k), ((1 : Nat), Value.string s), ((2 : Nat), Value.slice dq dn dc), ((3 : Nat), Value.int IntKind.i64 N), ((4 : Nat), Value.slice kq kn kc),
                 ((5 : Nat), Value.int IntKind.i64 nm), ((6 : Nat), Value.int IntKind.u8 fi)]),
               ((w.alloc
                   (Obj.cells #[Value.int IntKind.i64 k, Value.string s, Value.slice dq dn dc, Value.int IntKind.i64 N, Value.slice kq kn kc, Value.int IntKind.i64 nm, Value.int IntKind.u8 fi]
                    (124 : Nat))).heap.size,
                [((0 : Nat), Value.int IntKind.i64 e), ((1 : Nat), Value.slice aq an ac), ((2 : Nat), Value.int IntKind.i64 z), ((3 : Nat), Value.slice nq nn nc), ((4 : Nat), Value.slice lq ln lc),
                 ((5 : Nat), Value.bool re), ((6 : Nat), Value.bool po)])] →
             R (Ending.returned (Value.bool po)) w1
           else
            bif re then
             bif k == (13 : Int) then
              Known w1
                [(w.heap.size,
                  [((0 : Nat), Value.int IntKind.i64 k), ((1 : Nat), Value.string s), ((2 : Nat), Value.slice dq dn dc), ((3 : Nat), Value.int IntKind.i64 N), ((4 : Nat), Value.slice kq kn kc),
                   ((5 : Nat), Value.int IntKind.i64 nm), ((6 : Nat), Value.int IntKind.u8 fi)]),
                 ((w.alloc
                     (Obj.cells #[Value.int IntKind.i64 k, Value.string s, Value.slice dq dn dc, Value.int IntKind.i64 N, Value.slice kq kn kc, Value.int IntKind.i64 nm, Value.int IntKind.u8 fi]
                      (124 : Nat))).heap.size,
                  [((0 : Nat), Value.int IntKind.i64 e), ((1 : Nat), Value.slice aq an ac), ((2 : Nat), Value.int IntKind.i64 z), ((3 : Nat), Value.slice nq nn nc), ((4 : Nat), Value.slice lq ln lc),
                   ((5 : Nat), Value.bool re), ((6 : Nat), Value.bool po)])] →
               R (Ending.returned (Value.bool true)) w1
             else
              SX.Ptr p fun (a5 : Addr) =>
               ∃ (t6 : Bool),
                w1.drew.cell? (a5.add (2 : Nat)) = some (Value.bool t6) ∧
                 (Known w1.drew
                   [(w.heap.size,
                     [((0 : Nat), Value.int IntKind.i64 k), ((1 : Nat), Value.string s), ((2 : Nat), Value.slice dq dn dc), ((3 : Nat), Value.int IntKind.i64 N), ((4 : Nat), Value.slice kq kn kc),
                      ((5 : Nat), Value.int IntKind.i64 nm), ((6 : Nat), Value.int IntKind.u8 fi)]),
                    ((w.alloc
                        (Obj.cells
                         #[Value.int IntKind.i64 k, Value.string s, Value.slice dq dn dc, Value.int IntKind.i64 N, Value.slice kq kn kc, Value.int IntKind.i64 nm, Value.int IntKind.u8 fi]
                         (124 : Nat))).heap.size,
                     [((0 : Nat), Value.int IntKind.i64 e), ((1 : Nat), Value.slice aq an ac), ((2 : Nat), Value.int IntKind.i64 z), ((3 : Nat), Value.slice nq nn nc),
                      ((4 : Nat), Value.slice lq ln lc), ((5 : Nat), Value.bool re), ((6 : Nat), Value.bool po)])] →
                  R (Ending.returned (Value.bool (po == t6))) w1.drew)
            else
             SX.Ptr p fun (a7 : Addr) =>
              ∃ (t8 : Bool),
               w1.drew.cell? (a7.add (2 : Nat)) = some (Value.bool t8) ∧
                (Known w1.drew
                  [(w.heap.size,
                    [((0 : Nat), Value.int IntKind.i64 k), ((1 : Nat), Value.string s), ((2 : Nat), Value.slice dq dn dc), ((3 : Nat), Value.int IntKind.i64 N), ((4 : Nat), Value.slice kq kn kc),
                     ((5 : Nat), Value.int IntKind.i64 nm), ((6 : Nat), Value.int IntKind.u8 fi)]),
                   ((w.alloc
                       (Obj.cells #[Value.int IntKind.i64 k, Value.string s, Value.slice dq dn dc, Value.int IntKind.i64 N, Value.slice kq kn kc, Value.int IntKind.i64 nm, Value.int IntKind.u8 fi]
                        (124 : Nat))).heap.size,
                    [((0 : Nat), Value.int IntKind.i64 e), ((1 : Nat), Value.slice aq an ac), ((2 : Nat), Value.int IntKind.i64 z), ((3 : Nat), Value.slice nq nn nc),
                     ((4 : Nat), Value.slice lq ln lc), ((5 : Nat), Value.bool re), ((6 : Nat), Value.bool po)])] →
                 R (Ending.returned (Value.bool (po == t8))) w1.drew)
          else
           bif re then
            bif k == (13 : Int) then
             Known w1
               [(w.heap.size,
                 [((0 : Nat), Value.int IntKind.i64 k), ((1 : Nat), Value.string s), ((2 : Nat), Value.slice dq dn dc), ((3 : Nat), Value.int IntKind.i64 N), ((4 : Nat), Value.slice kq kn kc),
                  ((5 : Nat), Value.int IntKind.i64 nm), ((6 : Nat), Value.int IntKind.u8 fi)]),
                ((w.alloc
                    (Obj.cells #[Value.int IntKind.i64 k, Value.string s, Value.slice dq dn dc, Value.int IntKind.i64 N, Value.slice kq kn kc, Value.int IntKind.i64 nm, Value.int IntKind.u8 fi]
                     (124 : Nat))).heap.size,
                 [((0 : Nat), Value.int IntKind.i64 e), ((1 : Nat), Value.slice aq an ac), ((2 : Nat), Value.int IntKind.i64 z), ((3 : Nat), Value.slice nq nn nc), ((4 : Nat), Value.slice lq ln lc),
                  ((5 : Nat), Value.bool re), ((6 : Nat), Value.bool po)])] →
              R (Ending.returned (Value.bool true)) w1
            else
             SX.Ptr p fun (a9 : Addr) =>
              ∃ (t10 : Bool),
               w1.drew.cell? (a9.add (2 : Nat)) = some (Value.bool t10) ∧
                (Known w1.drew
                  [(w.heap.size,
                    [((0 : Nat), Value.int IntKind.i64 k), ((1 : Nat), Value.string s), ((2 : Nat), Value.slice dq dn dc), ((3 : Nat), Value.int IntKind.i64 N), ((4 : Nat), Value.slice kq kn kc),
                     ((5 : Nat), Value.int IntKind.i64 nm), ((6 : Nat), Value.int IntKind.u8 fi)]),
                   ((w.alloc
                       (Obj.cells #[Value.int IntKind.i64 k, Value.string s, Value.slice dq dn dc, Value.int IntKind.i64 N, Value.slice kq kn kc, Value.int IntKind.i64 nm, Value.int IntKind.u8 fi]
                        (124 : Nat))).heap.size,
                    [((0 : Nat), Value.int IntKind.i64 e), ((1 : Nat), Value.slice aq an ac), ((2 : Nat), Value.int IntKind.i64 z), ((3 : Nat), Value.slice nq nn nc),
                     ((4 : Nat), Value.slice lq ln lc), ((5 : Nat), Value.bool re), ((6 : Nat), Value.bool po)])] →
                 R (Ending.returned (Value.bool (po == t10))) w1.drew)
           else
            SX.Ptr p fun (a11 : Addr) =>
             ∃ (t12 : Bool),
              w1.drew.cell? (a11.add (2 : Nat)) = some (Value.bool t12) ∧
               (Known w1.drew
                 [(w.heap.size,
                   [((0 : Nat), Value.int IntKind.i64 k), ((1 : Nat), Value.string s), ((2 : Nat), Value.slice dq dn dc), ((3 : Nat), Value.int IntKind.i64 N), ((4 : Nat), Value.slice kq kn kc),
                    ((5 : Nat), Value.int IntKind.i64 nm), ((6 : Nat), Value.int IntKind.u8 fi)]),
                  ((w.alloc
                      (Obj.cells #[Value.int IntKind.i64 k, Value.string s, Value.slice dq dn dc, Value.int IntKind.i64 N, Value.slice kq kn kc, Value.int IntKind.i64 nm, Value.int IntKind.u8 fi]
                       (124 : Nat))).heap.size,
                   [((0 : Nat), Value.int IntKind.i64 e), ((1 : Nat), Value.slice aq an ac), ((2 : Nat), Value.int IntKind.i64 z), ((3 : Nat), Value.slice nq nn nc), ((4 : Nat), Value.slice lq ln lc),
                    ((5 : Nat), Value.bool re), ((6 : Nat), Value.bool po)])] →
                R (Ending.returned (Value.bool (po == t12))) w1.drew)
theorem vcTryd143 (p : Option Addr) (k : Int) (s : ByteArray) (dq : Option Addr) (dn dc : Nat) (N : Int) (kq : Option Addr) (kn kc : Nat) (nm fi : Int) (e : Int) (aq : Option Addr) (an ac : Nat) (z : Int) (nq : Option Addr) (nn nc : Nat) (lq : Option Addr) (ln lc : Nat) (re po : Bool) (w : World) (R : Ending → World → Prop) : SX.vcFn Tryd.prog [] Tryd.f143 [.v (.pointer p), .v (.agg #[.int .i64 k, .string s, .slice dq dn dc, .int .i64 N, .slice kq kn kc, .int .i64 nm, .int .u8 fi]), .v (.agg #[.int .i64 e, .slice aq an ac, .int .i64 z, .slice nq nn nc, .slice lq ln lc, .bool re, .bool po])] [] w R = VCTryd143 p k s dq dn dc N kq kn kc nm fi e aq an ac z nq nn nc lq ln lc re po w R := by kernel_rfl
def VCTryd144 (p : Option Addr) (k : Int) (s : ByteArray) (dq : Option Addr) (dn dc : Nat) (N : Int) (kq : Option Addr) (kn kc : Nat) (nm fi : Int) (e : Int) (aq : Option Addr) (an ac : Nat) (z : Int) (nq : Option Addr) (nn nc : Nat) (lq : Option Addr) (ln lc : Nat) (re po : Bool) (w : World) (R : Ending → World → Prop) : Prop :=
bif k == (18 : Int) then
 Known
   ((w.alloc (Obj.cells #[Value.int IntKind.i64 k, Value.string s, Value.slice dq dn dc, Value.int IntKind.i64 N, Value.slice kq kn kc, Value.int IntKind.i64 nm, Value.int IntKind.u8 fi] (124 : Nat))).alloc
    (Obj.cells #[Value.int IntKind.i64 e, Value.slice aq an ac, Value.int IntKind.i64 z, Value.slice nq nn nc, Value.slice lq ln lc, Value.bool re, Value.bool po] (126 : Nat)))
   [(w.heap.size,
     [((0 : Nat), Value.int IntKind.i64 k), ((1 : Nat), Value.string s), ((2 : Nat), Value.slice dq dn dc), ((3 : Nat), Value.int IntKind.i64 N), ((4 : Nat), Value.slice kq kn kc),
      ((5 : Nat), Value.int IntKind.i64 nm), ((6 : Nat), Value.int IntKind.u8 fi)]),
    ((w.alloc (Obj.cells #[Value.int IntKind.i64 k, Value.string s, Value.slice dq dn dc, Value.int IntKind.i64 N, Value.slice kq kn kc, Value.int IntKind.i64 nm, Value.int IntKind.u8 fi] (124 : Nat))).heap.size,
     [((0 : Nat), Value.int IntKind.i64 e), ((1 : Nat), Value.slice aq an ac), ((2 : Nat), Value.int IntKind.i64 z), ((3 : Nat), Value.slice nq nn nc), ((4 : Nat), Value.slice lq ln lc), ((5 : Nat), Value.bool re),
      ((6 : Nat), Value.bool po)])] →
  R (Ending.returned (Value.bool true))
   ((w.alloc (Obj.cells #[Value.int IntKind.i64 k, Value.string s, Value.slice dq dn dc, Value.int IntKind.i64 N, Value.slice kq kn kc, Value.int IntKind.i64 nm, Value.int IntKind.u8 fi] (124 : Nat))).alloc
    (Obj.cells #[Value.int IntKind.i64 e, Value.slice aq an ac, Value.int IntKind.i64 z, Value.slice nq nn nc, Value.slice lq ln lc, Value.bool re, Value.bool po] (126 : Nat)))
else
 bif k == (14 : Int) then
  SX.Ptr p fun (a0 : Addr) =>
   ∃ (t1 : Bool),
    ((w.alloc (Obj.cells #[Value.int IntKind.i64 k, Value.string s, Value.slice dq dn dc, Value.int IntKind.i64 N, Value.slice kq kn kc, Value.int IntKind.i64 nm, Value.int IntKind.u8 fi] (124 : Nat))).alloc
         (Obj.cells #[Value.int IntKind.i64 e, Value.slice aq an ac, Value.int IntKind.i64 z, Value.slice nq nn nc, Value.slice lq ln lc, Value.bool re, Value.bool po] (126 : Nat))).cell?
       (a0.add (1 : Nat)) =
      some (Value.bool t1) ∧
     bif !t1 then
      Known
        ((w.alloc (Obj.cells #[Value.int IntKind.i64 k, Value.string s, Value.slice dq dn dc, Value.int IntKind.i64 N, Value.slice kq kn kc, Value.int IntKind.i64 nm, Value.int IntKind.u8 fi] (124 : Nat))).alloc
         (Obj.cells #[Value.int IntKind.i64 e, Value.slice aq an ac, Value.int IntKind.i64 z, Value.slice nq nn nc, Value.slice lq ln lc, Value.bool re, Value.bool po] (126 : Nat)))
        [(w.heap.size,
          [((0 : Nat), Value.int IntKind.i64 k), ((1 : Nat), Value.string s), ((2 : Nat), Value.slice dq dn dc), ((3 : Nat), Value.int IntKind.i64 N), ((4 : Nat), Value.slice kq kn kc),
           ((5 : Nat), Value.int IntKind.i64 nm), ((6 : Nat), Value.int IntKind.u8 fi)]),
         ((w.alloc
             (Obj.cells #[Value.int IntKind.i64 k, Value.string s, Value.slice dq dn dc, Value.int IntKind.i64 N, Value.slice kq kn kc, Value.int IntKind.i64 nm, Value.int IntKind.u8 fi]
              (124 : Nat))).heap.size,
          [((0 : Nat), Value.int IntKind.i64 e), ((1 : Nat), Value.slice aq an ac), ((2 : Nat), Value.int IntKind.i64 z), ((3 : Nat), Value.slice nq nn nc), ((4 : Nat), Value.slice lq ln lc),
           ((5 : Nat), Value.bool re), ((6 : Nat), Value.bool po)])] →
       R (Ending.returned (Value.bool true))
        ((w.alloc (Obj.cells #[Value.int IntKind.i64 k, Value.string s, Value.slice dq dn dc, Value.int IntKind.i64 N, Value.slice kq kn kc, Value.int IntKind.i64 nm, Value.int IntKind.u8 fi] (124 : Nat))).alloc
         (Obj.cells #[Value.int IntKind.i64 e, Value.slice aq an ac, Value.int IntKind.i64 z, Value.slice nq nn nc, Value.slice lq ln lc, Value.bool re, Value.bool po] (126 : Nat)))
     else
      Known
        ((w.alloc (Obj.cells #[Value.int IntKind.i64 k, Value.string s, Value.slice dq dn dc, Value.int IntKind.i64 N, Value.slice kq kn kc, Value.int IntKind.i64 nm, Value.int IntKind.u8 fi] (124 : Nat))).alloc
         (Obj.cells #[Value.int IntKind.i64 e, Value.slice aq an ac, Value.int IntKind.i64 z, Value.slice nq nn nc, Value.slice lq ln lc, Value.bool re, Value.bool po] (126 : Nat)))
        [(w.heap.size,
          [((0 : Nat), Value.int IntKind.i64 k), ((1 : Nat), Value.string s), ((2 : Nat), Value.slice dq dn dc), ((3 : Nat), Value.int IntKind.i64 N), ((4 : Nat), Value.slice kq kn kc),
           ((5 : Nat), Value.int IntKind.i64 nm), ((6 : Nat), Value.int IntKind.u8 fi)]),
         ((w.alloc
             (Obj.cells #[Value.int IntKind.i64 k, Value.string s, Value.slice dq dn dc, Value.int IntKind.i64 N, Value.slice kq kn kc, Value.int IntKind.i64 nm, Value.int IntKind.u8 fi]
              (124 : Nat))).heap.size,
          [((0 : Nat), Value.int IntKind.i64 e), ((1 : Nat), Value.slice aq an ac), ((2 : Nat), Value.int IntKind.i64 z), ((3 : Nat), Value.slice nq nn nc), ((4 : Nat), Value.slice lq ln lc),
           ((5 : Nat), Value.bool re), ((6 : Nat), Value.bool po)])] →
       R (Ending.returned (Value.bool (e != (8 : Int))))
        ((w.alloc (Obj.cells #[Value.int IntKind.i64 k, Value.string s, Value.slice dq dn dc, Value.int IntKind.i64 N, Value.slice kq kn kc, Value.int IntKind.i64 nm, Value.int IntKind.u8 fi] (124 : Nat))).alloc
         (Obj.cells #[Value.int IntKind.i64 e, Value.slice aq an ac, Value.int IntKind.i64 z, Value.slice nq nn nc, Value.slice lq ln lc, Value.bool re, Value.bool po] (126 : Nat)))
 else
  bif k == (2 : Int) then
   SX.Ptr p fun (a2 : Addr) =>
    ∃ (t3 : Bool),
     ((w.alloc (Obj.cells #[Value.int IntKind.i64 k, Value.string s, Value.slice dq dn dc, Value.int IntKind.i64 N, Value.slice kq kn kc, Value.int IntKind.i64 nm, Value.int IntKind.u8 fi] (124 : Nat))).alloc
          (Obj.cells #[Value.int IntKind.i64 e, Value.slice aq an ac, Value.int IntKind.i64 z, Value.slice nq nn nc, Value.slice lq ln lc, Value.bool re, Value.bool po] (126 : Nat))).cell?
        (a2.add (1 : Nat)) =
       some (Value.bool t3) ∧
      bif !t3 then
       Known
         ((w.alloc
            (Obj.cells #[Value.int IntKind.i64 k, Value.string s, Value.slice dq dn dc, Value.int IntKind.i64 N, Value.slice kq kn kc, Value.int IntKind.i64 nm, Value.int IntKind.u8 fi] (124 : Nat))).alloc
          (Obj.cells #[Value.int IntKind.i64 e, Value.slice aq an ac, Value.int IntKind.i64 z, Value.slice nq nn nc, Value.slice lq ln lc, Value.bool re, Value.bool po] (126 : Nat)))
         [(w.heap.size,
           [((0 : Nat), Value.int IntKind.i64 k), ((1 : Nat), Value.string s), ((2 : Nat), Value.slice dq dn dc), ((3 : Nat), Value.int IntKind.i64 N), ((4 : Nat), Value.slice kq kn kc),
            ((5 : Nat), Value.int IntKind.i64 nm), ((6 : Nat), Value.int IntKind.u8 fi)]),
          ((w.alloc
              (Obj.cells #[Value.int IntKind.i64 k, Value.string s, Value.slice dq dn dc, Value.int IntKind.i64 N, Value.slice kq kn kc, Value.int IntKind.i64 nm, Value.int IntKind.u8 fi]
               (124 : Nat))).heap.size,
           [((0 : Nat), Value.int IntKind.i64 e), ((1 : Nat), Value.slice aq an ac), ((2 : Nat), Value.int IntKind.i64 z), ((3 : Nat), Value.slice nq nn nc), ((4 : Nat), Value.slice lq ln lc),
            ((5 : Nat), Value.bool re), ((6 : Nat), Value.bool po)])] →
        R (Ending.returned (Value.bool (e != (0 : Int))))
         ((w.alloc
            (Obj.cells #[Value.int IntKind.i64 k, Value.string s, Value.slice dq dn dc, Value.int IntKind.i64 N, Value.slice kq kn kc, Value.int IntKind.i64 nm, Value.int IntKind.u8 fi] (124 : Nat))).alloc
          (Obj.cells #[Value.int IntKind.i64 e, Value.slice aq an ac, Value.int IntKind.i64 z, Value.slice nq nn nc, Value.slice lq ln lc, Value.bool re, Value.bool po] (126 : Nat)))
      else
       Known
         ((w.alloc
            (Obj.cells #[Value.int IntKind.i64 k, Value.string s, Value.slice dq dn dc, Value.int IntKind.i64 N, Value.slice kq kn kc, Value.int IntKind.i64 nm, Value.int IntKind.u8 fi] (124 : Nat))).alloc
          (Obj.cells #[Value.int IntKind.i64 e, Value.slice aq an ac, Value.int IntKind.i64 z, Value.slice nq nn nc, Value.slice lq ln lc, Value.bool re, Value.bool po] (126 : Nat)))
         [(w.heap.size,
           [((0 : Nat), Value.int IntKind.i64 k), ((1 : Nat), Value.string s), ((2 : Nat), Value.slice dq dn dc), ((3 : Nat), Value.int IntKind.i64 N), ((4 : Nat), Value.slice kq kn kc),
            ((5 : Nat), Value.int IntKind.i64 nm), ((6 : Nat), Value.int IntKind.u8 fi)]),
          ((w.alloc
              (Obj.cells #[Value.int IntKind.i64 k, Value.string s, Value.slice dq dn dc, Value.int IntKind.i64 N, Value.slice kq kn kc, Value.int IntKind.i64 nm, Value.int IntKind.u8 fi]
               (124 : Nat))).heap.size,
           [((0 : Nat), Value.int IntKind.i64 e), ((1 : Nat), Value.slice aq an ac), ((2 : Nat), Value.int IntKind.i64 z), ((3 : Nat), Value.slice nq nn nc), ((4 : Nat), Value.slice lq ln lc),
            ((5 : Nat), Value.bool re), ((6 : Nat), Value.bool po)])] →
        R (Ending.returned (Value.bool false))
         ((w.alloc
            (Obj.cells #[Value.int IntKind.i64 k, Value.string s, Value.slice dq dn dc, Value.int IntKind.i64 N, Value.slice kq kn kc, Value.int IntKind.i64 nm, Value.int IntKind.u8 fi] (124 : Nat))).alloc
          (Obj.cells #[Value.int IntKind.i64 e, Value.slice aq an ac, Value.int IntKind.i64 z, Value.slice nq nn nc, Value.slice lq ln lc, Value.bool re, Value.bool po] (126 : Nat)))
  else
   SX.Ptr p fun (a4 : Addr) =>
    ∃ (t5 : Bool),
     ((w.alloc (Obj.cells #[Value.int IntKind.i64 k, Value.string s, Value.slice dq dn dc, Value.int IntKind.i64 N, Value.slice kq kn kc, Value.int IntKind.i64 nm, Value.int IntKind.u8 fi] (124 : Nat))).alloc
          (Obj.cells #[Value.int IntKind.i64 e, Value.slice aq an ac, Value.int IntKind.i64 z, Value.slice nq nn nc, Value.slice lq ln lc, Value.bool re, Value.bool po] (126 : Nat))).cell?
        (a4.add (1 : Nat)) =
       some (Value.bool t5) ∧
      (Known
        ((w.alloc (Obj.cells #[Value.int IntKind.i64 k, Value.string s, Value.slice dq dn dc, Value.int IntKind.i64 N, Value.slice kq kn kc, Value.int IntKind.i64 nm, Value.int IntKind.u8 fi] (124 : Nat))).alloc
         (Obj.cells #[Value.int IntKind.i64 e, Value.slice aq an ac, Value.int IntKind.i64 z, Value.slice nq nn nc, Value.slice lq ln lc, Value.bool re, Value.bool po] (126 : Nat)))
        [(w.heap.size,
          [((0 : Nat), Value.int IntKind.i64 k), ((1 : Nat), Value.string s), ((2 : Nat), Value.slice dq dn dc), ((3 : Nat), Value.int IntKind.i64 N), ((4 : Nat), Value.slice kq kn kc),
           ((5 : Nat), Value.int IntKind.i64 nm), ((6 : Nat), Value.int IntKind.u8 fi)]),
         ((w.alloc
             (Obj.cells #[Value.int IntKind.i64 k, Value.string s, Value.slice dq dn dc, Value.int IntKind.i64 N, Value.slice kq kn kc, Value.int IntKind.i64 nm, Value.int IntKind.u8 fi]
              (124 : Nat))).heap.size,
          [((0 : Nat), Value.int IntKind.i64 e), ((1 : Nat), Value.slice aq an ac), ((2 : Nat), Value.int IntKind.i64 z), ((3 : Nat), Value.slice nq nn nc), ((4 : Nat), Value.slice lq ln lc),
           ((5 : Nat), Value.bool re), ((6 : Nat), Value.bool po)])] →
       R (Ending.returned (Value.bool !t5))
        ((w.alloc (Obj.cells #[Value.int IntKind.i64 k, Value.string s, Value.slice dq dn dc, Value.int IntKind.i64 N, Value.slice kq kn kc, Value.int IntKind.i64 nm, Value.int IntKind.u8 fi] (124 : Nat))).alloc
         (Obj.cells #[Value.int IntKind.i64 e, Value.slice aq an ac, Value.int IntKind.i64 z, Value.slice nq nn nc, Value.slice lq ln lc, Value.bool re, Value.bool po] (126 : Nat))))
theorem vcTryd144 (p : Option Addr) (k : Int) (s : ByteArray) (dq : Option Addr) (dn dc : Nat) (N : Int) (kq : Option Addr) (kn kc : Nat) (nm fi : Int) (e : Int) (aq : Option Addr) (an ac : Nat) (z : Int) (nq : Option Addr) (nn nc : Nat) (lq : Option Addr) (ln lc : Nat) (re po : Bool) (w : World) (R : Ending → World → Prop) : SX.vcFn Tryd.prog [] Tryd.f144 [.v (.pointer p), .v (.agg #[.int .i64 k, .string s, .slice dq dn dc, .int .i64 N, .slice kq kn kc, .int .i64 nm, .int .u8 fi]), .v (.agg #[.int .i64 e, .slice aq an ac, .int .i64 z, .slice nq nn nc, .slice lq ln lc, .bool re, .bool po])] [] w R = VCTryd144 p k s dq dn dc N kq kn kc nm fi e aq an ac z nq nn nc lq ln lc re po w R := by kernel_rfl
end Go.Proofs.YtbpknjldphckgaaDoor

namespace Go.Proofs.YtbpknjldphckgaaDoor
open Go Go.SX Go.Proofs Go.Lib
set_option maxRecDepth 100000
set_option linter.unusedVariables false
set_option linter.unusedSimpArgs false
/-- A step that is asked for. -/
structure Ox where
  k : Int
  s : List UInt8
  d : List UInt8
  dq : Option Addr
  dc : Nat
  N : Int
  kq : Option Addr
  kn : Nat
  kc : Nat
  nm : Int
  fi : Int
abbrev Ox.stp (o : Ox) : Stp := ⟨o.k, o.s, o.d⟩
def opV (o : Ox) : Value := .agg #[.int .i64 o.k, .string (ba o.s), .slice o.dq o.d.length o.dc, .int .i64 o.N, .slice o.kq o.kn o.kc, .int .i64 o.nm, .int .u8 o.fi]
def opC (o : Ox) : Array Value := #[.int .i64 o.k, .string (ba o.s), .slice o.dq o.d.length o.dc, .int .i64 o.N, .slice o.kq o.kn o.kc, .int .i64 o.nm, .int .u8 o.fi]
/-- An answer. -/
structure Ax where
  e : Int
  d : List UInt8
  aq : Option Addr
  ac : Nat
  z : Int
  n : List (List UInt8)
  nq : Option Addr
  nc : Nat
  L : List Fil
  lq : Option Addr
  lc : Nat
  re : Bool
  po : Bool
abbrev Ax.ans (a : Ax) : Ans := ⟨a.e, a.d, a.z, a.n, a.L, a.re, a.po⟩
def anV (a : Ax) : Value := .agg #[.int .i64 a.e, .slice a.aq a.d.length a.ac, .int .i64 a.z, .slice a.nq a.n.length a.nc, .slice a.lq a.L.length a.lc, .bool a.re, .bool a.po]
def anC (a : Ax) : Array Value := #[.int .i64 a.e, .slice a.aq a.d.length a.ac, .int .i64 a.z, .slice a.nq a.n.length a.nc, .slice a.lq a.L.length a.lc, .bool a.re, .bool a.po]
structure OpAt (w : World) (o : Ox) : Prop where
  dat : BytesAt w o.dq (ba o.d)
  le : o.d.length ≤ o.dc ∧ o.dc ≤ maxLen
theorem OpAt.kp0 {w w' : World} {o : Ox} (h : OpAt w o) (k : Kp none_ w w') : OpAt w' o := ⟨h.dat.kp0 k, h.le⟩
structure AnAt (w : World) (a : Ax) : Prop where
  dat : BytesAt w a.aq (ba a.d)
  le : a.d.length ≤ a.ac ∧ a.ac ≤ maxLen
  nam : StrsAt w a.nq a.n
  fil : FRd w a.lq a.L.length a.L
theorem AnAt.kp0 {w w' : World} {a : Ax} (h : AnAt w a) (k : Kp none_ w w') : AnAt w' a := ⟨h.dat.kp0 k, h.le, h.nam.kp0 k, h.fil.kp0 k⟩
theorem opKp (w : World) (o : Ox) : Kp none_ w (w.alloc (.cells (opC o) 124)) ∧ w.heap.size < (w.alloc (.cells (opC o) 124)).heap.size := ⟨(Kp.refl none_ w).alloc1 _, by rw [alloc_size]; omega⟩
theorem opEq (o : Ox) : (#[.int .i64 o.k, .string (ba o.s), .slice o.dq o.d.length o.dc, .int .i64 o.N, .slice o.kq o.kn o.kc, .int .i64 o.nm, .int .u8 o.fi] : Array Value) = opC o := rfl
theorem anEq (a : Ax) : (#[.int .i64 a.e, .slice a.aq a.d.length a.ac, .int .i64 a.z, .slice a.nq a.n.length a.nc, .slice a.lq a.L.length a.lc, .bool a.re, .bool a.po] : Array Value) = anC a := rfl
/-- The end of a way: a number that was told is told on. -/
theorem leafI {w W : World} {X : FuncId} {args : Array Value} {E E' : Int} {bs : List Nat} {P : Prop} {Q : World → Prop} (hC : Rets Tryd.prog X args W fun v w' => v = .int .i64 E ∧ Kp none_ W w') (k0 : Kp none_ w W) (hbs : ∀ b ∈ bs, b < W.heap.size) (hE : E = E') :
    P → Rets Tryd.prog X args W fun v w' => ∃ i : Int, v = .int .i64 i ∧ Keeps W w' bs ∧ (Q w' → ∃ v, Ending.returned (.int .i64 i) = Ending.returned v ∧ v = .int .i64 E' ∧ Kp none_ w w') := fun _ => hC.mono fun v w' ⟨h1, h2⟩ => ⟨E, h1, h2.keeps fun b hb => ⟨hbs b hb, id⟩, fun _ => ⟨_, rfl, by rw [hE], k0.trans h2⟩⟩
theorem leafB {w W : World} {X : FuncId} {args : Array Value} {E E' : Bool} {bs : List Nat} {P : Prop} {Q : World → Prop} (hC : Rets Tryd.prog X args W fun v w' => v = .bool E ∧ Kp none_ W w') (k0 : Kp none_ w W) (hbs : ∀ b ∈ bs, b < W.heap.size) (hE : E = E') :
    P → Rets Tryd.prog X args W fun v w' => ∃ i : Bool, v = .bool i ∧ Keeps W w' bs ∧ (Q w' → ∃ v, Ending.returned (.bool i) = Ending.returned v ∧ v = .bool E' ∧ Kp none_ w w') := fun _ => hC.mono fun v w' ⟨h1, h2⟩ => ⟨E, h1, h2.keeps fun b hb => ⟨hbs b hb, id⟩, fun _ => ⟨_, rfl, by rw [hE], k0.trans h2⟩⟩
theorem c206k {w : World} {b : Nat} {p : MM} (h : MRd w b p) : Rets Tryd.prog 206 #[pt b] w fun v w' => v = .int .i64 (mutE p) ∧ Kp none_ w w' := (c206 h).mono fun v w' ⟨h1, h2⟩ => ⟨h1, by rw [h2]; exact Kp.refl _ _⟩
theorem c204k {w : World} {b : Nat} {p : MM} (h : MRd w b p) (ok : OkP p) (x : Int) : Rets Tryd.prog 204 #[pt b, .int .i64 x] w fun v w' => v = .int .i64 (if p.streaming = false then 15 else if x > 65536 - p.data.length then 5 else 0) ∧ Kp none_ w w' := (c204 h ok x).mono fun v w' ⟨h1, h2⟩ => ⟨h1, by rw [h2]; exact Kp.refl _ _⟩
theorem ins3 {p : MM} {o : Stp} (h : o.kind = 3) : insE p o = putEr p o.name o.data.length := by unfold insE; rw [if_pos h]
theorem ins4 {p : MM} {o : Stp} (h : o.kind = 4) : insE p o = putEr p o.name 0 := by unfold insE; rw [if_neg (by omega), if_pos h]
theorem ins5 {p : MM} {o : Stp} (h : o.kind = 5) : insE p o = (if p.streaming = false then 15 else if (o.data.length : Int) > 65536 - p.data.length then 5 else 0) := by
  unfold insE
  rw [if_neg (by omega), if_neg (by omega), if_pos (.inl h)]
  simp only [h, true_and]
theorem ins67 {p : MM} {o : Stp} (ok : OkP p) (h : o.kind = 6 ∨ o.kind = 7) : insE p o = (if p.streaming = false then 15 else if (0 : Int) > 65536 - p.data.length then 5 else 0) := by
  unfold insE
  rw [if_neg (by omega), if_neg (by omega), if_pos (.inr h)]
  cases hs : p.streaming with
  | false => rfl
  | true =>
    have := ok.str hs
    rw [if_neg (by decide), if_neg (by omega), if_neg (by decide), if_neg (by omega)]
theorem ins89 {p : MM} {o : Stp} (h : o.kind = 8 ∨ o.kind = 9) : insE p o = (if hasF p.now o.name = false then 7 else 0) := by
  unfold insE
  rw [if_neg (by omega), if_neg (by omega), if_neg (by omega), if_neg (by omega), if_neg (by omega), if_neg (by omega)]
  have : o.kind < 12 := by omega
  simp only [this, true_and]
theorem ins_mut {p : MM} {o : Stp} (h : o.kind = 12 ∨ o.kind = 13 ∨ o.kind = 14) : insE p o = mutE p := by
  unfold insE mutE
  rw [if_neg (by omega), if_neg (by omega), if_neg (by omega), if_neg (by omega)]
  have h1 : o.kind > 10 := by omega
  have h2 : ¬ o.kind < 12 := by omega
  simp only [h1, h2, true_and, false_and, if_false]
theorem ins11 {p : MM} {o : Stp} (h : o.kind = 11) : insE p o = if mutE p = 0 then (if hasF p.now o.name = false then 7 else 0) else mutE p := by
  unfold insE mutE
  rw [if_neg (by omega), if_neg (by omega), if_neg (by omega), if_neg (by omega)]
  have h1 : o.kind > 10 := by omega
  have h2 : o.kind < 12 := by omega
  simp only [h1, h2, true_and]
  split
  · simp
  · split
    · simp
    · simp
theorem ins0 {p : MM} {o : Stp} (h : o.kind = 10) : insE p o = 0 := by
  unfold insE
  rw [if_neg (by omega), if_neg (by omega), if_neg (by omega), if_pos h]
theorem c191 {w : World} (hml : ML w) {b : Nat} {p : MM} (h : MRd w b p) (ok : OkP p) (o : Ox) (hk : 3 ≤ o.k ∧ o.k ≤ 14) : Rets Tryd.prog 191 #[pt b, opV o] w fun v w' => v = .int .i64 (insE p o.stp) ∧ Kp none_ w w' := by
  refine ent [_, _] Tryd.func191 ((vcTryd191 _ _ _ _ _ _ _ _ _ _ _ _ w _).mpr ?_)
  unfold VCTryd191
  obtain ⟨k0, z0⟩ := opKp w o
  rw [opEq]
  generalize w.alloc (.cells (opC o) 124) = W at *
  have h0 := h.kp0 k0
  have hb : ∀ b ∈ [w.heap.size], b < W.heap.size := fun b hb => by
    rw [List.mem_singleton] at hb
    subst hb
    exact z0
  have e1 : bytesL (ba o.s) = o.s := bytesL_ba _
  have H203 := fun z => c203 (hml.kp0 k0) h0 ok (ba o.s) z
  have H205 := fun {w1} (k1 : Kp none_ W w1) => c205 (h0.kp0 k1) ok (ba o.s)
  simp only [e1] at H203 H205
  have H11 : o.k = 11 → ∀ {P : Prop} {Q Q1 Q2 Q3 : World → Prop}, P → Rets Tryd.prog 206 #[pt b] W fun v w' => ∃ i : Int, v = .int .i64 i ∧ Keeps W w' [w.heap.size] ∧ bif i != 0 then (Q w' → ∃ v, Ending.returned (.int .i64 i) = Ending.returned v ∧ v = .int .i64 (insE p o.stp) ∧ Kp none_ w w')
      else (Q1 w' → Rets Tryd.prog 205 #[pt b, .string (ba o.s)] w' fun v w2 => ∃ i : Int, v = .int .i64 i ∧ Keeps w' w2 [w.heap.size] ∧ (Q2 w2 → ∃ v, Ending.returned (.int .i64 i) = Ending.returned v ∧ v = .int .i64 (insE p o.stp) ∧ Kp none_ w w2)) := fun hk P Q Q1 Q2 Q3 _ => by
    refine (c206k h0).mono ?_
    rintro v w1 ⟨rfl, k1⟩
    rw [ins11 hk]
    refine ⟨_, rfl, k1.keeps fun b hbb => ⟨hb b hbb, id⟩, bif_ne (fun hne _ => ⟨_, rfl, by rw [if_neg hne], k0.trans k1⟩) (fun h0 => leafI (H205 k1) (k0.trans k1) (fun b hbb => Nat.lt_of_lt_of_le (hb b hbb) k1.size) (by rw [if_pos h0]))⟩
  repeat' first
    | refine bif_eq (fun _ => ?_) (fun _ => ?_)
  all_goals first
    | (exfalso; omega)
    | exact leafI (H203 _) k0 hb (ins3 (o := o.stp) (by show o.k = 3; omega)).symm
    | exact leafI (H203 _) k0 hb (ins4 (o := o.stp) (by show o.k = 4; omega)).symm
    | exact leafI (c204k h0 ok _) k0 hb (ins5 (o := o.stp) (by show o.k = 5; omega)).symm
    | exact leafI (c204k h0 ok _) k0 hb (ins67 (o := o.stp) ok (by show o.k = 6 ∨ o.k = 7; omega)).symm
    | exact leafI (H205 (Kp.refl _ _)) k0 hb (ins89 (o := o.stp) (by show o.k = 8 ∨ o.k = 9; omega)).symm
    | exact leafI (c206k h0) k0 hb (ins_mut (o := o.stp) (by show o.k = 12 ∨ o.k = 13 ∨ o.k = 14; omega)).symm
    | exact H11 (by omega) (Q3 := fun _ => True)
    | exact fun _ => ⟨_, rfl, by rw [ins0 (o := o.stp) (by show o.k = 10; omega)], k0⟩
end Go.Proofs.YtbpknjldphckgaaDoor

namespace Go.Proofs.YtbpknjldphckgaaDoor
open Go Go.SX Go.Proofs Go.ChangeShapes Go.WideShapes Go.ChangeAt Go.ChangeMaps Go.RowKit
set_option maxRecDepth 100000
set_option linter.unusedVariables false
theorem cells107 : Tryd.prog.cellsOf 107 = 2 := by kernel_rfl
theorem cells105 : Tryd.prog.cellsOf 105 = 1 := by kernel_rfl
theorem cells46 : Tryd.prog.cellsOf 46 = 1 := by kernel_rfl
theorem cells120 : Tryd.prog.cellsOf 120 = 1 := by kernel_rfl
theorem cells122 : Tryd.prog.cellsOf 122 = 3 := by kernel_rfl
theorem cells124 : Tryd.prog.cellsOf 124 = 7 := by kernel_rfl
theorem cells126 : Tryd.prog.cellsOf 126 = 7 := by kernel_rfl
theorem cells130 : Tryd.prog.cellsOf 130 = 2 := by kernel_rfl
theorem cells28x : Tryd.prog.cellsOf 28 = 1 := by kernel_rfl
theorem cells27x : Tryd.prog.cellsOf 27 = 1 := by kernel_rfl
theorem cells4x : Tryd.prog.cellsOf 4 = 1 := by kernel_rfl
theorem cells5x : Tryd.prog.cellsOf 5 = 1 := by kernel_rfl
theorem cells9x : Tryd.prog.cellsOf 9 = 1 := by kernel_rfl
theorem cells3x : Tryd.prog.cellsOf 3 = 1 := by kernel_rfl
theorem ml_pos {w : World} (h : ML w) : 0 < w.heap.size := by
  obtain ⟨m, h⟩ := h
  exact Nat.lt_of_le_of_lt (Nat.zero_le _) (cell_lt h)
section
variable {H : Type} {enc : TypeId × Value → H} {W : World}
/-- A slice in a struct. -/
structure Sl (β : Type) where
  q : Option Addr
  c : Nat
  l : List β
def slC {β : Type} (x : Sl β) : List Value := [.slice x.q x.l.length x.c]
theorem dec_slice {t e : TypeId} {k : Nat} {β : Type} {C : β → List Value} {ok : β → Prop} (ht : Tryd.prog.underlying t = some (.slice e)) (hk : Tryd.prog.cellsOf e = k) (hd : Dec enc Tryd.prog W e C ok) :
    Dec enc Tryd.prog W t (slC (β := β)) (fun x => (x.l.length ≤ x.c ∧ x.c ≤ maxLen) ∧ RowsAt W k C x.q x.l ∧ ∀ b ∈ x.l, ok b) := fun fuel cs x h => by
  obtain ⟨q, c, l, e, h1, h2, h3, h4⟩ := dec_rows ht hk hd h
  exact ⟨⟨q, c, l⟩, e, ⟨h1, h2⟩, h3, h4⟩
theorem dec_bytes : Dec enc Tryd.prog W 27 (slC (β := UInt8)) (fun x => (x.l.length ≤ x.c ∧ x.c ≤ maxLen) ∧ BytesAt W x.q (ba x.l)) := fun fuel cs x h => by
  obtain ⟨q, c, l, e, h1, h2, h3, h4⟩ := dec_rows und27 cells5x (dec_int Tryd.underlying5) h
  refine ⟨⟨q, c, l.map fun n => UInt8.ofNat n.toNat⟩, by rw [e]; simp [slC], by simpa using ⟨h1, h2⟩, fun i hi => ?_⟩
  have hil : i < l.length := by rw [ba_size] at hi; simpa using hi
  obtain ⟨a, ea, hc⟩ := h3 i hil
  refine ⟨a, ea, ?_⟩
  have := hc 0 _ rfl
  have hw := h4 _ (List.getElem_mem hil)
  have hr : 0 ≤ l[i] ∧ l[i] < 256 := by
    simp [Lit.wf, IntKind.min, IntKind.max, IntKind.signed, IntKind.bits] at hw
    omega
  rw [add_add, Nat.mul_one, Nat.add_zero] at this
  rw [this, ba_get]
  simp only [List.getElem_map]
  congr 2
  rw [UInt8.toNat_ofNat']
  omega
theorem dec_strs : Dec enc Tryd.prog W 46 (slC (β := List UInt8)) (fun x => (x.l.length ≤ x.c ∧ x.c ≤ maxLen) ∧ StrsAt W x.q x.l) := fun fuel cs x h => by
  obtain ⟨q, c, l, e, h1, h2, h3, h4⟩ := dec_rows und46 cells9x (dec_str Tryd.underlying9) h
  refine ⟨⟨q, c, l⟩, e, ⟨h1, h2⟩, fun i hi => ?_⟩
  obtain ⟨a, ea, hc⟩ := h3 i hi
  refine ⟨a, ea, ?_⟩
  have := hc 0 _ rfl
  rwa [add_add, Nat.mul_one, Nat.add_zero] at this
theorem dec_file : Dec enc Tryd.prog W 107 fxC (fun x => DatAt W x) := fun fuel cs x h => by
  obtain ⟨xs, n, _, _, hcl, hxl, hf⟩ := DataW.trod_struct Tryd.underlying107 h
  rw [cells107] at hcl
  obtain ⟨s, e0, _⟩ := dec_field hf hxl (i := 0) (o := 0) rfl cells9x rfl rfl (dec_str Tryd.underlying9)
  obtain ⟨d, e1, d1, d2⟩ := dec_field hf hxl (i := 1) (o := 1) rfl cells27x rfl rfl dec_bytes
  refine ⟨⟨s, d.l, d.q, d.c⟩, ?_, d2, d1⟩
  rw [← List.drop_zero (l := cs), e0, e1, dec_end hcl]
  rfl
theorem fxs_rows {q : Option Addr} {l : List Fx} (h : RowsAt W 2 fxC q l) : FxsAt W q l := fun i hi => by
  obtain ⟨a, e, hc⟩ := h i hi
  exact ⟨a, e, hc 0 _ rfl, hc 1 _ rfl⟩
theorem dec_files : Dec enc Tryd.prog W 105 (slC (β := Fx)) (fun x => (x.l.length ≤ x.c ∧ x.c ≤ maxLen) ∧ FxsAt W x.q x.l ∧ ∀ y ∈ x.l, DatAt W y) := fun fuel cs x h => by
  obtain ⟨b, e, h1, h2, h3⟩ := dec_slice und105 cells107 dec_file _ _ _ h
  exact ⟨b, e, h1, fxs_rows h2, h3⟩
theorem fil_rd {x : Sl Fx} (h : FxsAt W x.q x.l) (hd : ∀ y ∈ x.l, DatAt W y) : FRd W x.q (x.l.map Fx.fil).length (x.l.map Fx.fil) := ⟨x.l, rfl, by simp, h, hd⟩
theorem dec_keep : Dec enc Tryd.prog W 122 (fun x : Sl Bool × Int × Int => [.slice x.1.q x.1.l.length x.1.c, .int .i64 x.2.1, .int .u8 x.2.2]) (fun _ => True) := fun fuel cs x h => by
  obtain ⟨xs, n, _, _, hcl, hxl, hf⟩ := DataW.trod_struct Tryd.underlying122 h
  rw [cells122] at hcl
  obtain ⟨k, e0, _⟩ := dec_field hf hxl (i := 0) (o := 0) rfl cells120 rfl rfl (dec_slice Tryd.underlying120 cells4x (dec_bool Tryd.underlying4))
  obtain ⟨n1, e1, _⟩ := dec_field hf hxl (i := 1) (o := 1) rfl cells3x rfl rfl (dec_int Tryd.underlying3)
  obtain ⟨n2, e2, _⟩ := dec_field hf hxl (i := 2) (o := 2) rfl cells5x rfl rfl (dec_int Tryd.underlying5)
  refine ⟨⟨k, n1, n2⟩, ?_, trivial⟩
  rw [← List.drop_zero (l := cs), e0, e1, e2, dec_end hcl]
  simp [slC]
theorem dec_op : Dec enc Tryd.prog W 124 (fun o : Ox => (opC o).toList) (fun o => OpAt W o) := fun fuel cs x h => by
  obtain ⟨xs, n, _, _, hcl, hxl, hf⟩ := DataW.trod_struct Tryd.underlying124 h
  rw [cells124] at hcl
  obtain ⟨k, e0, _⟩ := dec_field hf hxl (i := 0) (o := 0) rfl cells3x rfl rfl (dec_int Tryd.underlying3)
  obtain ⟨s, e1, _⟩ := dec_field hf hxl (i := 1) (o := 1) rfl cells9x rfl rfl (dec_str Tryd.underlying9)
  obtain ⟨d, e2, d1, d2⟩ := dec_field hf hxl (i := 2) (o := 2) rfl cells27x rfl rfl dec_bytes
  obtain ⟨N, e3, _⟩ := dec_field hf hxl (i := 3) (o := 3) rfl cells3x rfl rfl (dec_int Tryd.underlying3)
  obtain ⟨c, e4, _⟩ := dec_field hf hxl (i := 4) (o := 4) rfl cells122 rfl rfl dec_keep
  refine ⟨⟨k, s, d.l, d.q, d.c, N, c.1.q, c.1.l.length, c.1.c, c.2.1, c.2.2⟩, ?_, d2, d1⟩
  rw [← List.drop_zero (l := cs), e0, e1, e2, e3, e4, dec_end hcl]
  simp [slC, opC, ba]
end
end Go.Proofs.YtbpknjldphckgaaDoor

namespace Go.Proofs.YtbpknjldphckgaaDoor
open Go Go.SX Go.Proofs Go.Lib
set_option maxRecDepth 100000
set_option linter.unusedVariables false
set_option linter.unusedSimpArgs false
theorem told_arg {m : MM} {o : Stp} {e : Int} (h : o.kind < 1 ∨ o.kind > 18) : toldM m o e = (e == 1) := by unfold toldM; rw [if_pos h]
theorem told_ok {m : MM} {o : Stp} {e : Int} (h : 15 < o.kind ∧ o.kind ≤ 18) : toldM m o e = (e == 0) := by unfold toldM; rw [if_neg (by omega), if_pos (by omega)]
theorem told_1 {m : MM} {o : Stp} {e : Int} (h : o.kind = 1) : toldM m o e = (e == 16 && someM m true || e == 0 && someM m false) := by
  unfold toldM; rw [if_neg (by omega), if_neg (by omega), if_pos h, Bool.or_comm]
theorem told_2o {m : MM} {o : Stp} {e : Int} (h : o.kind = 2) (ho : m.opn = true) : toldM m o e = (e == 8) := by
  unfold toldM; rw [if_neg (by omega), if_neg (by omega), if_neg (by omega), if_pos ⟨h, ho⟩]
theorem told_2 {m : MM} {o : Stp} {e : Int} (h : o.kind = 2) (ho : m.opn = false) : toldM m o e = (e == 0 && someM m true || e == 7 && someM m false) := by
  unfold toldM; rw [if_neg (by omega), if_neg (by omega), if_neg (by omega), if_neg (fun hh => by rw [ho] at hh; cases hh.2), if_pos (.inl h)]
theorem told_15 {m : MM} {o : Stp} {e : Int} (h : o.kind = 15) : toldM m o e = (e == 0 && someM m true || e == 7 && someM m false) := by
  unfold toldM; rw [if_neg (by omega), if_neg (by omega), if_neg (by omega), if_neg (by omega), if_pos (.inr h)]
theorem told_c {m : MM} {o : Stp} {e : Int} (h : 3 ≤ o.kind ∧ o.kind ≤ 14) (ho : m.opn = false) : toldM m o e = (e == 12) := by
  unfold toldM; rw [if_neg (by omega), if_neg (by omega), if_neg (by omega), if_neg (by omega), if_neg (by omega), if_pos ho]
theorem told_i {m : MM} {o : Stp} {e : Int} (h : 3 ≤ o.kind ∧ o.kind ≤ 14) (ho : m.opn = true) : toldM m o e = (e == insE m o) := by
  unfold toldM; rw [if_neg (by omega), if_neg (by omega), if_neg (by omega), if_neg (by omega), if_neg (by omega), if_neg (by rw [ho]; decide)]
theorem c176 {w : World} (hml : ML w) {b : Nat} {p : MM} (h : MRd w b p) (ok : OkP p) (o : Ox) (x : Int) : Rets Tryd.prog 176 #[pt b, opV o, .int .i64 x] w fun v w' => v = .bool (toldM p o.stp x) ∧ Kp none_ w w' := by
  refine ent [_, _, _] Tryd.func176 ((vcTryd176 _ _ _ _ _ _ _ _ _ _ _ _ _ w _).mpr ?_)
  unfold VCTryd176
  obtain ⟨k0, z0⟩ := opKp w o
  rw [opEq]
  generalize w.alloc (.cells (opC o) 124) = W at *
  have h0 := h.kp0 k0
  have hb : ∀ b ∈ [w.heap.size], b < W.heap.size := fun b hb => by
    rw [List.mem_singleton] at hb
    subst hb
    exact z0
  simp only [ptr_some, ad_add, Nat.zero_add]
  have H : ∀ y z, _ := fun y z => c190 h0 ok x y z
  have fin : ∀ {t : Bool} {P : Prop}, toldM p o.stp x = t → P → ∃ v, Ending.returned (.bool t) = Ending.returned v ∧ v = .bool (toldM p o.stp x) ∧ Kp none_ w W := fun e _ => ⟨_, rfl, by rw [e], k0⟩
  have HI : 3 ≤ o.k ∧ o.k ≤ 14 → p.opn = true → ∀ {P : Prop} {Q : World → Prop}, P → Rets Tryd.prog 191 #[pt b, opV o] W fun v w' => ∃ i : Int, v = .int .i64 i ∧ Keeps W w' [w.heap.size] ∧ (Q w' → ∃ v, Ending.returned (.bool (x == i)) = Ending.returned v ∧ v = .bool (toldM p o.stp x) ∧ Kp none_ w w') := fun hk ho P Q _ => by
    refine (c191 (hml.kp0 k0) h0 ok o hk).mono ?_
    rintro v w1 ⟨rfl, k1⟩
    exact ⟨_, rfl, k1.keeps fun b hbb => ⟨hb b hbb, id⟩, fun _ => ⟨_, rfl, by rw [told_i (o := o.stp) hk ho], k0.trans k1⟩⟩
  repeat' first
    | refine bif_dec (fun _ => ?_) (fun _ => ?_)
    | refine bif_eq (fun _ => ?_) (fun _ => ?_)
    | (refine ⟨_, h0.opn, ?_⟩; first | refine bif_not (fun ho => ?_) (fun ho => ?_) | refine bif_b (fun ho => ?_) (fun ho => ?_))
  all_goals first
    | (exfalso; omega)
    | exact fin (told_arg (o := o.stp) (by show o.k < 1 ∨ o.k > 18; omega))
    | exact fin (told_ok (o := o.stp) (by show 15 < o.k ∧ o.k ≤ 18; omega))
    | exact fin (told_2o (o := o.stp) (by show o.k = 2; omega) (by assumption))
    | exact fin (told_c (o := o.stp) (by show 3 ≤ o.k ∧ o.k ≤ 14; omega) (by assumption))
    | exact leafB (H _ _) k0 hb (told_1 (o := o.stp) (by show o.k = 1; omega)).symm
    | exact leafB (H _ _) k0 hb (told_2 (o := o.stp) (by show o.k = 2; omega) (by assumption)).symm
    | exact leafB (H _ _) k0 hb (told_15 (o := o.stp) (by show o.k = 15; omega)).symm
    | exact HI (by omega) (by assumption)
theorem c175 (k : Int) (w : World) : Rets Tryd.prog 175 #[.int .i64 k] w fun v w' => v = .bool (callsM k) ∧ w' = w := by
  refine ent [_] Tryd.func175 ((vcTryd175 _ w _).mpr ?_)
  unfold VCTryd175
  have e1 : (1 ≤ k ∧ k ≤ 6) ∨ (11 ≤ k ∧ k ≤ 14) → ∃ v, Ending.returned (.bool true) = Ending.returned v ∧ v = .bool (callsM k) ∧ w = w := fun h => ⟨_, rfl, by unfold callsM; rw [decide_eq_true h], rfl⟩
  have e2 : ¬ ((1 ≤ k ∧ k ≤ 6) ∨ (11 ≤ k ∧ k ≤ 14)) → ∃ v, Ending.returned (.bool false) = Ending.returned v ∧ v = .bool (callsM k) ∧ w = w := fun h => ⟨_, rfl, by unfold callsM; rw [decide_eq_false h], rfl⟩
  repeat' first
    | refine bif_eq (fun _ => ?_) (fun _ => ?_)
  all_goals first
    | (exfalso; omega)
    | exact e1 (by omega)
    | exact e2 (by omega)
theorem anKp (w : World) (a : Ax) : Kp none_ w (w.alloc (.cells (anC a) 126)) ∧ w.heap.size < (w.alloc (.cells (anC a) 126)).heap.size := ⟨(Kp.refl none_ w).alloc1 _, by rw [alloc_size]; omega⟩
theorem c177 (a : Ax) (w : World) : Rets Tryd.prog 177 #[anV a] w fun v w' => v = .bool (bareA a.ans) ∧ Kp none_ w w' := by
  refine ent [_] Tryd.func177 ((vcTryd177 _ _ _ _ _ _ _ _ _ _ _ _ _ w _).mpr ?_)
  unfold VCTryd177
  obtain ⟨k0, z0⟩ := anKp w a
  rw [anEq]
  generalize w.alloc (.cells (anC a) 126) = W at *
  have le : ∀ {α : Type} [BEq α] [LawfulBEq α] (l : List α), ((l.length : Int) = 0) → (l == []) = true := fun l h => by
    have : l = [] := List.eq_nil_of_length_eq_zero (by omega)
    rw [this]; rfl
  have ln : ∀ {α : Type} [BEq α] [LawfulBEq α] (l : List α), ((l.length : Int) ≠ 0) → (l == []) = false := fun l h => by
    cases l with
    | nil => simp at h
    | cons x r => rfl
  refine bif_eq (fun h1 => bif_eq (fun h2 => bif_eq (fun h3 _ => ⟨_, rfl, ?_, k0⟩) (fun h3 _ => ⟨_, rfl, ?_, k0⟩)) (fun h2 _ => ⟨_, rfl, ?_, k0⟩)) (fun h1 _ => ⟨_, rfl, ?_, k0⟩)
  · congr 1
    unfold bareA
    simp only [Ax.ans, le _ h1, le _ h3, h2, beq_self_eq_true, Bool.true_and]
    rw [Bool.eq_iff_iff]
    simp only [beq_iff_eq, decide_eq_true_eq]
    constructor
    · intro h; exact List.eq_nil_of_length_eq_zero (by omega)
    · intro h; rw [h]; rfl
  · unfold bareA
    simp only [Ax.ans, ln _ h3, Bool.and_false, Bool.false_and]
  · have : (a.z == 0) = false := by simpa using h2
    unfold bareA
    simp only [Ax.ans, this, Bool.and_false, Bool.false_and]
  · unfold bareA
    simp only [Ax.ans, ln _ h1, Bool.and_false, Bool.false_and]
theorem bif_not' {c : Bool} {A B : Prop} (h : c = false → A) (k : c = true → B) : bif !c then A else B := bif_not h k
theorem c144 {w : World} {b : Nat} {p : MM} (h : MRd w b p) (o : Ox) (a : Ax) : Rets Tryd.prog 144 #[pt b, opV o, anV a] w fun v w' => v = .bool (!openM p o.stp a.ans) ∧ Kp none_ w w' := by
  refine ent [_, _, _] Tryd.func144 ((vcTryd144 _ _ _ _ _ _ _ _ _ _ _ _ _ _ _ _ _ _ _ _ _ _ _ _ _ w _).mpr ?_)
  unfold VCTryd144
  obtain ⟨k0, z0⟩ := opKp w o
  rw [opEq, anEq]
  generalize w.alloc (.cells (opC o) 124) = W0 at *
  obtain ⟨k1, z1⟩ := anKp W0 a
  generalize W0.alloc (.cells (anC a) 126) = W at *
  have K := k0.trans k1
  have h0 := h.kp0 K
  simp only [ptr_some, ad_add, Nat.zero_add]
  have fin : ∀ {t : Bool} {P : Prop}, (!openM p o.stp a.ans) = t → P → ∃ v, Ending.returned (.bool t) = Ending.returned v ∧ v = .bool (!openM p o.stp a.ans) ∧ Kp none_ w W := fun e _ => ⟨_, rfl, by rw [e], K⟩
  refine bif_eq (fun hk => fin ?_) (fun hk => bif_eq (fun hk2 => ⟨_, h0.opn, bif_not (fun ho => fin ?_) (fun ho => fin ?_)⟩) (fun hk2 => bif_eq (fun hk3 => ⟨_, h0.opn, bif_not (fun ho => fin ?_) (fun ho => fin ?_)⟩) (fun hk3 => ⟨_, h0.opn, fin ?_⟩)))
  · unfold openM; rw [if_neg (by show ¬ (o.k = 2 ∧ _); omega), if_pos (.inl hk)]; rfl
  · unfold openM
    rw [if_neg (by show ¬ (o.k = 2 ∧ _); omega)]
    split
    · rfl
    · rw [ho]; rfl
  · unfold openM
    rw [if_neg (by show ¬ (o.k = 2 ∧ _); omega)]
    by_cases he : a.e = 8
    · rw [if_neg (by rintro (h | h); exact hk h; exact h.2 he), ho]
      simp [he]
    · rw [if_pos (.inr ⟨hk2, he⟩)]
      simp [he]
  · unfold openM
    by_cases he : a.e = 0
    · rw [if_pos ⟨hk3, he⟩]; simp [he]
    · rw [if_neg (fun hh => he hh.2), if_neg (by rintro (h | h); exact hk h; exact hk2 h.1), ho]
      simp [he]
  · unfold openM
    by_cases he : a.e = 0
    · rw [if_pos ⟨hk3, he⟩]; rfl
    · rw [if_neg (fun hh => he hh.2), if_neg (by rintro (h | h); exact hk h; exact hk2 h.1), ho]
      rfl
  · unfold openM
    rw [if_neg (fun hh => hk3 hh.1), if_neg (by rintro (h | h); exact hk h; exact hk2 h.1)]
theorem c143 {w : World} {b : Nat} {p : MM} (h : MRd w b p) (o : Ox) (a : Ax) : Rets Tryd.prog 143 #[pt b, opV o, anV a] w fun v w' => v = .bool (poisonM p o.stp a.ans) ∧ Kp none_ w w' := by
  refine ent [_, _, _] Tryd.func143 ((vcTryd143 _ _ _ _ _ _ _ _ _ _ _ _ _ _ _ _ _ _ _ _ _ _ _ _ _ w _).mpr ?_)
  unfold VCTryd143
  obtain ⟨k0, z0⟩ := opKp w o
  rw [opEq, anEq]
  generalize w.alloc (.cells (opC o) 124) = W0 at *
  obtain ⟨k1, z1⟩ := anKp W0 a
  generalize W0.alloc (.cells (anC a) 126) = W at *
  have K := k0.trans k1
  have h0 := h.kp0 K
  simp only [ptr_some, ad_add, Nat.zero_add]
  intro _
  refine (c144 h0 o a).mono ?_
  rintro v w1 ⟨rfl, k2⟩
  have K2 := K.trans k2
  have h2 := h.kp0 K2
  have h3 := h.kp0 K2.drew
  have hb : ∀ b ∈ [w.heap.size, W0.heap.size], b < W.heap.size := fun b hb => by
    simp only [List.mem_cons, List.not_mem_nil, or_false] at hb
    rcases hb with rfl | rfl
    · exact Nat.lt_of_lt_of_le z0 k1.size
    · exact z1
  have fin : ∀ {t : Bool} {P : Prop}, poisonM p o.stp a.ans = t → P → ∃ v, Ending.returned (.bool t) = Ending.returned v ∧ v = .bool (poisonM p o.stp a.ans) ∧ Kp none_ w w1 := fun e _ => ⟨_, rfl, by rw [e], K2⟩
  have find : ∀ {t : Bool} {P : Prop}, poisonM p o.stp a.ans = t → P → ∃ v, Ending.returned (.bool t) = Ending.returned v ∧ v = .bool (poisonM p o.stp a.ans) ∧ Kp none_ w w1.drew := fun e _ => ⟨_, rfl, by rw [e], K2.drew⟩
  refine ⟨_, rfl, k2.keeps fun b hbb => ⟨hb b hbb, id⟩, bif_not' (fun hc => fin ?_) (fun hc => ⟨_, h2.opn, bif_not (fun ho => fin ?_) (fun ho => ?_)⟩)⟩
  · unfold poisonM; rw [if_pos (.inl hc)]
  · unfold poisonM; rw [if_pos (.inr ho)]
  have e0 : poisonM p o.stp a.ans = (if a.re = true ∧ o.k = 12 then a.po else (a.re && o.k == 13) || a.po == p.poisoned) := by
    unfold poisonM; rw [if_neg (by rintro (h | h); rw [h] at hc; cases hc; rw [h] at ho; cases ho)]
  refine bif_b (fun hr => bif_eq (fun hk => fin ?_) (fun hk => bif_b (fun _ => bif_eq (fun hk2 => fin ?_) (fun hk2 => ⟨_, h3.poi, find ?_⟩)) (fun hr2 => by rw [hr] at hr2; cases hr2))) (fun hr => bif_b (fun hr2 => by rw [hr] at hr2; cases hr2) (fun _ => ⟨_, h3.poi, find ?_⟩))
  · rw [e0, if_pos ⟨hr, hk⟩]
  · rw [e0, if_neg (fun hh => hk hh.2), hr, hk2]; rfl
  · rw [e0, if_neg (fun hh => hk hh.2), hr]
    have : (o.k == 13) = false := by simpa using hk2
    rw [this]; rfl
  · rw [e0, if_neg (fun hh => by rw [hr] at hh; cases hh.1), hr]; rfl
end Go.Proofs.YtbpknjldphckgaaDoor

namespace Go.Proofs.YtbpknjldphckgaaDoor
open Go Go.SX Go.Proofs Go.Lib
set_option maxRecDepth 100000
set_option linter.unusedVariables false
set_option linter.unusedSimpArgs false
def stV (x : Stx) : Value := .agg #[.bool x.t, .slice x.q x.L.length x.c]
theorem laidS {w : World} (t : Bool) (v : Value) : Kp none_ w (((w.alloc (.cells #[.bool false, .slice none 0 0] 130)).setCell ⟨w.heap.size, 0, none⟩ (.bool t)).setCell ⟨w.heap.size, 1, none⟩ v) ∧
    w.heap.size < (((w.alloc (.cells #[.bool false, .slice none 0 0] 130)).setCell ⟨w.heap.size, 0, none⟩ (.bool t)).setCell ⟨w.heap.size, 1, none⟩ v).heap.size := by
  have k0 : Kp none_ w (w.alloc (.cells #[.bool false, .slice none 0 0] 130)) := (Kp.refl none_ w).alloc1 _
  have B0 : Big (w.alloc (.cells #[.bool false, .slice none 0 0] 130)) w.heap.size 130 [.bool false, .slice none 0 0] := Big.new _ _ 130
  exact ⟨(k0.setCell (x := ⟨w.heap.size, 0, none⟩) (.bool t) (.inr (Nat.le_refl _))).setCell (x := ⟨w.heap.size, 1, none⟩) v (.inr (Nat.le_refl _)), ((B0.set 0 (.bool t)).set 1 v).lt⟩
theorem c95 {w : World} {b : Nat} {p : MM} (h : MRd w b p) (ok : OkP p) (S : Stx) (hS : FRd w S.q S.L.length S.L) : Rets Tryd.prog 95 #[pt b, stV S] w fun v w' => v = .bool (canM p S.sta) ∧ Kp none_ w w' := by
  refine ent [_, _] Tryd.func95 ((vcTryd95 _ _ _ _ _ w _).mpr ?_)
  unfold VCTryd95
  refine bif_b (fun hn => by cases hn) (fun _ => ?_)
  simp only [ptr_some, ad_add, Nat.zero_add]
  have k0 : Kp none_ w (w.alloc (.cells #[.bool S.t, .slice S.q S.L.length S.c] 130)) := (Kp.refl none_ w).alloc1 _
  have z0 : w.heap.size < (w.alloc (.cells #[.bool S.t, .slice S.q S.L.length S.c] 130)).heap.size := by rw [alloc_size]; omega
  generalize w.alloc (.cells #[.bool S.t, .slice S.q S.L.length S.c] 130) = W at *
  obtain ⟨q, n, c, e, l, hm, rfl, r⟩ := (h.kp0 k0).may
  have hlen : l.length ≤ 1000000 := by have := ok.len; rw [← hm] at this; simpa using this
  have hbig : ∀ x ∈ l, x.L.length ≤ 1000000 := fun x hx => (ok.may x.sta (by rw [← hm]; exact List.mem_map_of_mem hx)).1
  have ecan : canM p S.sta = l.any fun x => x.t == S.t && (!S.t || decide (x.L = S.L)) := by
    unfold canM
    rw [← hm, List.any_map]
    rfl
  rw [ecan]
  refine ⟨_, _, _, e, fun i t w' => ∃ j : Nat, i = j ∧ j ≤ l.length ∧ t = false ∧ Kp none_ W w' ∧ ∀ x (hk : x < l.length), x < j → ((l[x]).t == S.t && (!S.t || decide ((l[x]).L = S.L))) = false, fun i _ _ => (l.length - i).toNat, ⟨0, rfl, by omega, rfl, Kp.refl _ _, fun x hk h => by omega⟩, ?_⟩
  rintro i t w3 ⟨j, rfl, hj, rfl, k3, hn⟩ _
  refine bif_dec (fun h1 => ?_) (fun h1 _ => ⟨_, rfl, ?_, k0.trans k3⟩)
  · have hjl : j < l.length := by omega
    have yes : ∀ {w5 : World}, Kp none_ w3 w5 → ((l[j]).t == S.t && (!S.t || decide ((l[j]).L = S.L))) = true → ∃ v, Ending.returned (.bool true) = Ending.returned v ∧ v = .bool (l.any fun x => x.t == S.t && (!S.t || decide (x.L = S.L))) ∧ Kp none_ w w5 := fun k5 e => ⟨_, rfl, by rw [List.any_eq_true.2 ⟨_, List.getElem_mem hjl, e⟩], (k0.trans k3).trans k5⟩
    have nxt : ∀ {w5 : World}, Kp none_ w3 w5 → ((l[j]).t == S.t && (!S.t || decide ((l[j]).L = S.L))) = false → (∃ j' : Nat, ((j : Int) + 1) = j' ∧ j' ≤ l.length ∧ True ∧ Kp none_ W w5 ∧ ∀ x (hk : x < l.length), x < j' → ((l[x]).t == S.t && (!S.t || decide ((l[x]).L = S.L))) = false) := fun k5 e => ⟨j + 1, by omega, by omega, trivial, k3.trans k5, fun x hk hxj => by
      by_cases ee : x = j
      · subst ee; exact e
      · exact hn x hk (by omega)⟩
    refine ⟨⟨by omega, by omega⟩, st_at (r.kp0 k3) hjl fun x _ mx => ⟨_, _, _, _, ⟨mx.c0, mx.c1, trivial⟩, ?_⟩⟩
    obtain ⟨k4, z4⟩ := laidS (w := w3) l[j].t (.slice l[j].q l[j].L.length l[j].c)
    simp only
    generalize ((w3.alloc (.cells #[.bool false, .slice none 0 0] 130)).setCell ⟨w3.heap.size, 0, none⟩ (.bool l[j].t)).setCell ⟨w3.heap.size, 1, none⟩ (.slice l[j].q l[j].L.length l[j].c) = w4 at *
    refine bif_not (fun hne => wr64 (by omega) ⟨rfl, nxt k4 (by rw [hne]; rfl), by first | omega | (dsimp only; omega)⟩) (fun heq => ?_)
    have eqt : l[j].t = S.t := by simpa using heq
    refine bif_not (fun ht _ => yes k4 (by rw [heq, show S.t = false by rw [← eqt]; exact ht]; rfl)) (fun ht _ => ?_)
    have hSt : S.t = true := by rw [← eqt]; exact ht
    refine (c84 (mx.fi.kp0 k4) (hS.kp0 ((k0.trans k3).trans k4)) (hbig _ (List.getElem_mem hjl))).mono ?_
    rintro v w5 ⟨rfl, k5⟩
    refine ⟨_, rfl, k5.keeps fun b hb => ⟨?_, id⟩, bif_b (fun hh _ => yes (k4.trans k5) (by rw [heq, hSt]; exact hh)) (fun hh => wr64 (by omega) ⟨rfl, nxt (k4.trans k5) (by rw [heq, hSt]; exact hh), by first | omega | (dsimp only; omega)⟩)⟩
    have := k3.size
    simp only [List.mem_cons, List.not_mem_nil, or_false] at hb
    rcases hb with rfl | rfl <;> omega
  · congr 1
    symm
    rw [List.any_eq_false]
    intro x hx
    obtain ⟨k, hk, e⟩ := List.getElem_of_mem hx
    rw [← e, hn k hk (by omega)]
    decide
/-- What stands beside OK. -/
theorem c178 {w : World} (hml : ML w) {b : Nat} {p : MM} (h : MRd w b p) (ok : OkP p) (o : Ox) (a : Ax) (ha : AnAt w a) (hs : o.s.length ≤ 1000000) (hn : a.n.length ≤ 1000000) : Rets Tryd.prog 178 #[pt b, opV o, anV a] w fun v w' => v = .bool (besideM p o.stp a.ans) ∧ Kp none_ w w' := by
  refine ent [_, _, _] Tryd.func178 ((vcTryd178 _ _ _ _ _ _ _ _ _ _ _ _ _ _ _ _ _ _ _ _ _ _ _ _ _ w _).mpr ?_)
  unfold VCTryd178
  obtain ⟨k0, z0⟩ := opKp w o
  rw [opEq, anEq]
  generalize w.alloc (.cells (opC o) 124) = W0 at *
  obtain ⟨k1, z1⟩ := anKp W0 a
  have B1 : Big (W0.alloc (.cells (anC a) 126)) W0.heap.size 126 (anC a).toList := Big.new _ _ 126
  generalize W0.alloc (.cells (anC a) 126) = W at *
  have K := k0.trans k1
  have h0 := h.kp0 K
  have hd := h.kp0 K.drew
  have zw : w.heap.size ≤ W0.heap.size := k0.size
  simp only [ptr_some, ad_add, Nat.zero_add]
  have hb : ∀ b ∈ [w.heap.size, W0.heap.size], b < W.heap.size := fun b hb => by
    simp only [List.mem_cons, List.not_mem_nil, or_false] at hb
    rcases hb with rfl | rfl
    · exact Nat.lt_of_lt_of_le z0 k1.size
    · exact z1
  have e1 : bytesL (ba o.s) = o.s := bytesL_ba _
  have kset : ∀ {w5 : World} (i : Nat) (v : Value), Kp none_ W w5 → Kp none_ w (w5.setCell ⟨W0.heap.size, i, none⟩ v) := fun {w5} i v k => (K.trans k).setCell (x := ⟨W0.heap.size, i, none⟩) v (.inr zw)
  have hbb : ∀ {w5 : World}, Kp none_ W w5 → ∀ b ∈ [w.heap.size, W0.heap.size], b < w5.heap.size := fun k b hbm => Nat.lt_of_lt_of_le (hb b hbm) k.size
  have hbs : ∀ {w5 : World} (i : Nat) (v : Value), Kp none_ W w5 → ∀ b ∈ [w.heap.size, W0.heap.size], b < (w5.setCell ⟨W0.heap.size, i, none⟩ v).heap.size := fun i v k b hbm => by
    exact Nat.lt_of_lt_of_le (hbb k b hbm) ((Kp.refl (fun _ => True) _).setCell (x := ⟨W0.heap.size, i, none⟩) v (.inl trivial)).size
  have no : ∀ {w5 : World} {i : Nat} {v : Value} {P : Prop}, Kp none_ W w5 → besideM p o.stp a.ans = false → P → ∃ v', Ending.returned (.bool false) = Ending.returned v' ∧ v' = .bool (besideM p o.stp a.ans) ∧ Kp none_ w (w5.setCell ⟨W0.heap.size, i, none⟩ v) := fun k e _ => ⟨_, rfl, by rw [e], kset _ _ k⟩
  have b8 : o.k = 8 → besideM p o.stp a.ans = (findD p.now o.s == a.d && bareA { a.ans with data := [] }) := fun hk => by unfold besideM; rw [if_pos hk]
  have b9 : o.k = 9 → besideM p o.stp a.ans = (a.z == ((findD p.now o.s).length : Int) && bareA { a.ans with size := 0 }) := fun hk => by unfold besideM; rw [if_neg (by show ¬ o.k = 8; omega), if_pos hk]
  have b10 : o.k = 10 → besideM p o.stp a.ans = (a.n == underF p.now o.s && bareA { a.ans with names := [] }) := fun hk => by unfold besideM; rw [if_neg (by show ¬ o.k = 8; omega), if_neg (by show ¬ o.k = 9; omega), if_pos hk]
  have b2 : o.k = 2 ∨ o.k = 15 → besideM p o.stp a.ans = (canM p (true, a.L) && bareA { a.ans with files := [] }) := fun hk => by unfold besideM; rw [if_neg (by show ¬ o.k = 8; omega), if_neg (by show ¬ o.k = 9; omega), if_neg (by show ¬ o.k = 10; omega), if_pos hk]
  have b0 : ¬ (o.k = 8 ∨ o.k = 9 ∨ o.k = 10 ∨ o.k = 2 ∨ o.k = 15) → besideM p o.stp a.ans = bareA a.ans := fun hk => by unfold besideM; rw [if_neg (by show ¬ o.k = 8; omega), if_neg (by show ¬ o.k = 9; omega), if_neg (by show ¬ o.k = 10; omega), if_neg (by show ¬ (o.k = 2 ∨ o.k = 15); omega)]
  obtain ⟨qn, nn, cn, en, rn⟩ := hd.now
  have CanL : o.k = 2 ∨ o.k = 15 → ∀ {P : Prop} {Q1 Q2 Q3 : World → Prop}, P → Rets Tryd.prog 95 #[pt b, .agg #[.bool true, .slice a.lq a.L.length a.lc]] W fun v43 w44 => ∃ t45, v43 = .bool t45 ∧ Keeps W w44 [w.heap.size, W0.heap.size] ∧
      bif t45 then (Q1 w44 → Rets Tryd.prog 177 #[.agg #[.int .i64 a.e, .slice a.aq a.d.length a.ac, .int .i64 a.z, .slice a.nq a.n.length a.nc, .slice none 0 0, .bool a.re, .bool a.po]] (w44.setCell ⟨W0.heap.size, 4, none⟩ (.slice none 0 0)) fun v46 w47 => ∃ t48, v46 = .bool t48 ∧ Keeps (w44.setCell ⟨W0.heap.size, 4, none⟩ (.slice none 0 0)) w47 [w.heap.size, W0.heap.size] ∧ (Q2 w47 → ∃ v, Ending.returned (.bool t48) = Ending.returned v ∧ v = .bool (besideM p o.stp a.ans) ∧ Kp none_ w w47))
      else (Q3 w44 → ∃ v, Ending.returned (.bool false) = Ending.returned v ∧ v = .bool (besideM p o.stp a.ans) ∧ Kp none_ w (w44.setCell ⟨W0.heap.size, 4, none⟩ (.slice none 0 0))) := fun hk P Q1 Q2 Q3 _ => by
    refine (c95 h0 ok ⟨true, a.L, a.lq, a.lc⟩ (ha.fil.kp0 K)).mono ?_
    rintro v w5 ⟨rfl, k5⟩
    refine ⟨_, rfl, k5.keeps fun b hbm => ⟨hb b hbm, id⟩, bif_b (fun ht => ?_) (fun ht => no k5 (by rw [b2 hk]; rw [show canM p (true, a.L) = false from ht]; rfl))⟩
    exact leafB (c177 { a with L := [], lq := none, lc := 0 } _) (kset 4 _ k5) (hbs 4 _ k5) (by rw [b2 hk]; rw [show canM p (true, a.L) = true from ht]; rfl)
  have Bare0 : ¬ (o.k = 8 ∨ o.k = 9 ∨ o.k = 10 ∨ o.k = 2 ∨ o.k = 15) → ∀ {P : Prop} {Q : World → Prop}, P → Rets Tryd.prog 177 #[anV a] W fun v w' => ∃ i : Bool, v = .bool i ∧ Keeps W w' [w.heap.size, W0.heap.size] ∧ (Q w' → ∃ v, Ending.returned (.bool i) = Ending.returned v ∧ v = .bool (besideM p o.stp a.ans) ∧ Kp none_ w w') := fun hk P Q => leafB (c177 a W) K hb (b0 hk).symm
  refine bif_eq (fun hk => ?_) (fun hk8 => bif_eq (fun hk => ?_) (fun hk9 => bif_eq (fun hk => ?_) (fun hk10 => ?_)))
  · refine ⟨_, _, _, en, fun _ => (c88 rn ok.asc ok.now (ba o.s)).mono ?_⟩
    rw [e1]
    rintro v w5 ⟨q5, n5, c5, rfl, r5, k5⟩
    have k5' := Kp.of_drew k5
    refine ⟨_, _, _, _, rfl, k5.keeps fun b hbm => ⟨hb b hbm, id⟩, ba (findD p.now o.s), by rw [ba_size]; exact r5.len.symm, r5.by_, ba a.d, ba_size _, ha.dat.kp0 (K.trans k5'), ?_⟩
    rw [toList_ba, toList_ba]
    refine bif_b (fun ht => ?_) (fun ht => no k5' (by rw [b8 hk, ht]; rfl))
    exact leafB (c177 { a with d := [], aq := none, ac := 0 } _) (kset 1 _ k5') (hbs 1 _ k5') (by rw [b8 hk, ht]; rfl)
  · refine ⟨_, _, _, en, fun _ => (c88 rn ok.asc ok.now (ba o.s)).mono ?_⟩
    rw [e1]
    rintro v w5 ⟨q5, n5, c5, rfl, r5, k5⟩
    have k5' := Kp.of_drew k5
    have hn5 := r5.len
    subst hn5
    refine ⟨_, _, _, _, rfl, k5.keeps fun b hbm => ⟨hb b hbm, id⟩, bif_b (fun ht => ?_) (fun ht => no k5' (by rw [b9 hk, ht]; rfl))⟩
    exact leafB (c177 { a with z := 0 } _) (kset 2 _ k5') (hbs 2 _ k5') (by rw [b9 hk, ht]; rfl)
  · refine ⟨_, _, _, en, fun _ => (c193 ((hml.kp0 K).kp0 (Kp.refl none_ _).drew) rn ok.now.1 (ba o.s) (by rw [ba_size]; exact hs)).mono ?_⟩
    rw [e1]
    rintro v w5 ⟨q5, c5, rfl, r5, k5⟩
    have k5' := Kp.of_drew k5
    refine ⟨_, _, _, rfl, k5.keeps fun b hbm => ⟨hb b hbm, id⟩, ?_, fun _ => (c192 (ha.nam.kp0 (K.trans k5')) r5 hn).mono ?_⟩
    · refine k5'.cell0 ?_
      rw [B1.cell]; rfl
    rintro v w6 ⟨rfl, k6⟩
    have k6' := k5'.trans k6
    refine ⟨_, rfl, k6.keeps fun b hbm => ⟨hbb k5' b hbm, id⟩, bif_b (fun ht => ?_) (fun ht => no k6' (by rw [b10 hk, ht]; rfl))⟩
    exact leafB (c177 { a with n := [], nq := none, nc := 0 } _) (kset 3 _ k6') (hbs 3 _ k6') (by rw [b10 hk, ht]; rfl)
  · refine bif_eq (fun hk => bif_eq (fun _ => CanL (.inl hk)) (fun hh => absurd hk hh)) (fun hk2 => bif_eq (fun hk => CanL (.inr hk)) (fun hk15 => Bare0 (by omega)))
end Go.Proofs.YtbpknjldphckgaaDoor

namespace Go.Proofs.YtbpknjldphckgaaDoor
open Go Go.SX Go.Proofs Go.Lib
set_option maxRecDepth 100000
set_option linter.unusedVariables false
set_option linter.unusedSimpArgs false
theorem c142 {w : World} (hml : ML w) {b : Nat} {p : MM} (h : MRd w b p) (ok : OkP p) (o : Ox) (a : Ax) (ha : AnAt w a) (hs : o.s.length ≤ 1000000) (hn : a.n.length ≤ 1000000) : Rets Tryd.prog 142 #[pt b, opV o, anV a] w fun v w' => v = .bool (givenM p o.stp a.ans) ∧ Kp none_ w w' := by
  refine ent [_, _, _] Tryd.func142 ((vcTryd142 _ _ _ _ _ _ _ _ _ _ _ _ _ _ _ _ _ _ _ _ _ _ _ _ _ w _).mpr ?_)
  unfold VCTryd142
  obtain ⟨k0, z0⟩ := opKp w o
  rw [opEq, anEq]
  generalize w.alloc (.cells (opC o) 124) = W0 at *
  obtain ⟨k1, z1⟩ := anKp W0 a
  generalize W0.alloc (.cells (anC a) 126) = W at *
  have K := k0.trans k1
  have h0 := h.kp0 K
  have hb : ∀ {w5 : World}, Kp none_ W w5 → ∀ b ∈ [w.heap.size, W0.heap.size], b < w5.heap.size := fun {w5} k b hb => by
    have := k.size
    simp only [List.mem_cons, List.not_mem_nil, or_false] at hb
    rcases hb with rfl | rfl
    · have := k1.size; omega
    · omega
  have ke : ∀ {w5 w6 : World}, Kp none_ W w5 → Kp none_ w5 w6 → Keeps w5 w6 [w.heap.size, W0.heap.size] := fun k k' => k'.keeps fun b hbb => ⟨hb k b hbb, id⟩
  have fin : ∀ {w5 : World} {t : Bool} {P : Prop}, Kp none_ W w5 → givenM p o.stp a.ans = t → P → ∃ v, Ending.returned (.bool t) = Ending.returned v ∧ v = .bool (givenM p o.stp a.ans) ∧ Kp none_ w w5 := fun k e _ => ⟨_, rfl, by rw [e], K.trans k⟩
  refine bif_b (fun hr => ?_) (fun hr => ?_)
  · have eg : givenM p o.stp a.ans = (callsM o.k && (toldM p o.stp 0 && ((a.e == 10 || a.e == 9) && bareA a.ans))) := by unfold givenM; rw [if_pos hr]
    intro _
    refine (c175 o.k W).mono ?_
    rintro v wx ⟨rfl, e⟩
    obtain rfl := e.symm
    refine ⟨_, rfl, ke (Kp.refl _ _) (Kp.refl _ _), bif_b (fun hc => ?_) (fun hc => fin (Kp.refl _ _) (by rw [eg, hc]; rfl))⟩
    intro _
    refine (c176 (hml.kp0 K) h0 ok o 0).mono ?_
    rintro v w2 ⟨rfl, k2⟩
    refine ⟨_, rfl, ke (Kp.refl _ _) k2, bif_b (fun ht => ?_) (fun ht => fin k2 (by rw [eg, ht]; simp))⟩
    refine bif_eq (fun he => ?_) (fun he => bif_eq (fun he9 => ?_) (fun he9 => fin k2 ?_))
    · exact leafB (c177 a _) (K.trans k2) (hb k2) (by rw [eg, hc, ht, he]; simp)
    · exact leafB (c177 a _) (K.trans k2) (hb k2) (by rw [eg, hc, ht, he9]; simp)
    · have e1 : (a.e == 10) = false := by simpa using he
      have e2 : (a.e == 9) = false := by simpa using he9
      rw [eg, e1, e2]
      simp
  · intro _
    refine (c176 (hml.kp0 K) h0 ok o a.e).mono ?_
    rintro v w2 ⟨rfl, k2⟩
    refine ⟨_, rfl, ke (Kp.refl _ _) k2, bif_not (fun ht => fin k2 ?_) (fun ht => ?_)⟩
    · unfold givenM; rw [if_neg (by show ¬ a.re = true; rw [hr]; decide), if_pos ht]
    · have eg : givenM p o.stp a.ans = if a.e ≠ 0 then bareA a.ans else besideM p o.stp a.ans := by
        unfold givenM; rw [if_neg (by show ¬ a.re = true; rw [hr]; decide), if_neg (by rw [ht]; decide)]
      refine bif_ne (fun he => ?_) (fun he => ?_)
      · exact leafB (c177 a _) (K.trans k2) (hb k2) (by rw [eg, if_pos he])
      · exact leafB (c178 ((hml.kp0 K).kp0 k2) (h0.kp0 k2) ok o a ((ha.kp0 K).kp0 k2) hs hn) (K.trans k2) (hb k2) (by rw [eg, if_neg (by simpa using he)])
end Go.Proofs.YtbpknjldphckgaaDoor

