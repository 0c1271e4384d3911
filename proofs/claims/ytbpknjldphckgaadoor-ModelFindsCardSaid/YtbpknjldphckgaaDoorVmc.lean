/- The conditions of functions, as the executor computes them: each is equal to what 'vcFn' says. -/
import Derived.Test.YtbpknjldphckgaaDoorSxLib
import Derived.Test.YtbpknjldphckgaaDoorProg
namespace Go.Proofs.YtbpknjldphckgaaDoor
open Go Go.SX Go.Proofs
set_option maxRecDepth 100000
set_option linter.unusedVariables false
def VCTryd191 (p : Option Addr) (k : Int) (s : ByteArray) (dq : Option Addr) (dn dc : Nat) (N : Int) (kq : Option Addr) (kn kc : Nat) (nm fi : Int) (w : World) (R : Ending → World → Prop) : Prop :=
bif k == (3 : Int) then
 Known (w.alloc (Obj.cells #[Value.int IntKind.i64 k, Value.string s, Value.slice dq dn dc, Value.int IntKind.i64 N, Value.slice kq kn kc, Value.int IntKind.i64 nm, Value.int IntKind.u8 fi] (124 : Nat)))
   [(w.heap.size,
     [((0 : Nat), Value.int IntKind.i64 k), ((1 : Nat), Value.string s), ((2 : Nat), Value.slice dq dn dc), ((3 : Nat), Value.int IntKind.i64 N), ((4 : Nat), Value.slice kq kn kc),
      ((5 : Nat), Value.int IntKind.i64 nm), ((6 : Nat), Value.int IntKind.u8 fi)])] →
  Rets Tryd.prog (203 : Nat) #[Value.pointer p, Value.string s, Value.int IntKind.i64 (↑dn : Int)]
   (w.alloc (Obj.cells #[Value.int IntKind.i64 k, Value.string s, Value.slice dq dn dc, Value.int IntKind.i64 N, Value.slice kq kn kc, Value.int IntKind.i64 nm, Value.int IntKind.u8 fi] (124 : Nat)))
   fun (v0 : Value) (w1 : World) =>
   ∃ (i2 : Int),
    v0 = Value.int IntKind.i64 i2 ∧
     Keeps (w.alloc (Obj.cells #[Value.int IntKind.i64 k, Value.string s, Value.slice dq dn dc, Value.int IntKind.i64 N, Value.slice kq kn kc, Value.int IntKind.i64 nm, Value.int IntKind.u8 fi] (124 : Nat))) w1
       [w.heap.size] ∧
      (Known w1
        [(w.heap.size,
          [((0 : Nat), Value.int IntKind.i64 k), ((1 : Nat), Value.string s), ((2 : Nat), Value.slice dq dn dc), ((3 : Nat), Value.int IntKind.i64 N), ((4 : Nat), Value.slice kq kn kc),
           ((5 : Nat), Value.int IntKind.i64 nm), ((6 : Nat), Value.int IntKind.u8 fi)])] →
       R (Ending.returned (Value.int IntKind.i64 i2)) w1)
else
 bif k == (4 : Int) then
  Known (w.alloc (Obj.cells #[Value.int IntKind.i64 k, Value.string s, Value.slice dq dn dc, Value.int IntKind.i64 N, Value.slice kq kn kc, Value.int IntKind.i64 nm, Value.int IntKind.u8 fi] (124 : Nat)))
    [(w.heap.size,
      [((0 : Nat), Value.int IntKind.i64 k), ((1 : Nat), Value.string s), ((2 : Nat), Value.slice dq dn dc), ((3 : Nat), Value.int IntKind.i64 N), ((4 : Nat), Value.slice kq kn kc),
       ((5 : Nat), Value.int IntKind.i64 nm), ((6 : Nat), Value.int IntKind.u8 fi)])] →
   Rets Tryd.prog (203 : Nat) #[Value.pointer p, Value.string s, Value.int IntKind.i64 (0 : Int)]
    (w.alloc (Obj.cells #[Value.int IntKind.i64 k, Value.string s, Value.slice dq dn dc, Value.int IntKind.i64 N, Value.slice kq kn kc, Value.int IntKind.i64 nm, Value.int IntKind.u8 fi] (124 : Nat)))
    fun (v3 : Value) (w4 : World) =>
    ∃ (i5 : Int),
     v3 = Value.int IntKind.i64 i5 ∧
      Keeps (w.alloc (Obj.cells #[Value.int IntKind.i64 k, Value.string s, Value.slice dq dn dc, Value.int IntKind.i64 N, Value.slice kq kn kc, Value.int IntKind.i64 nm, Value.int IntKind.u8 fi] (124 : Nat))) w4
        [w.heap.size] ∧
       (Known w4
         [(w.heap.size,
           [((0 : Nat), Value.int IntKind.i64 k), ((1 : Nat), Value.string s), ((2 : Nat), Value.slice dq dn dc), ((3 : Nat), Value.int IntKind.i64 N), ((4 : Nat), Value.slice kq kn kc),
            ((5 : Nat), Value.int IntKind.i64 nm), ((6 : Nat), Value.int IntKind.u8 fi)])] →
        R (Ending.returned (Value.int IntKind.i64 i5)) w4)
 else
  bif k == (5 : Int) then
   Known (w.alloc (Obj.cells #[Value.int IntKind.i64 k, Value.string s, Value.slice dq dn dc, Value.int IntKind.i64 N, Value.slice kq kn kc, Value.int IntKind.i64 nm, Value.int IntKind.u8 fi] (124 : Nat)))
     [(w.heap.size,
       [((0 : Nat), Value.int IntKind.i64 k), ((1 : Nat), Value.string s), ((2 : Nat), Value.slice dq dn dc), ((3 : Nat), Value.int IntKind.i64 N), ((4 : Nat), Value.slice kq kn kc),
        ((5 : Nat), Value.int IntKind.i64 nm), ((6 : Nat), Value.int IntKind.u8 fi)])] →
    Rets Tryd.prog (204 : Nat) #[Value.pointer p, Value.int IntKind.i64 (↑dn : Int)]
     (w.alloc (Obj.cells #[Value.int IntKind.i64 k, Value.string s, Value.slice dq dn dc, Value.int IntKind.i64 N, Value.slice kq kn kc, Value.int IntKind.i64 nm, Value.int IntKind.u8 fi] (124 : Nat)))
     fun (v6 : Value) (w7 : World) =>
     ∃ (i8 : Int),
      v6 = Value.int IntKind.i64 i8 ∧
       Keeps (w.alloc (Obj.cells #[Value.int IntKind.i64 k, Value.string s, Value.slice dq dn dc, Value.int IntKind.i64 N, Value.slice kq kn kc, Value.int IntKind.i64 nm, Value.int IntKind.u8 fi] (124 : Nat))) w7
         [w.heap.size] ∧
        (Known w7
          [(w.heap.size,
            [((0 : Nat), Value.int IntKind.i64 k), ((1 : Nat), Value.string s), ((2 : Nat), Value.slice dq dn dc), ((3 : Nat), Value.int IntKind.i64 N), ((4 : Nat), Value.slice kq kn kc),
             ((5 : Nat), Value.int IntKind.i64 nm), ((6 : Nat), Value.int IntKind.u8 fi)])] →
         R (Ending.returned (Value.int IntKind.i64 i8)) w7)
  else
   bif k == (6 : Int) then
    bif k == (6 : Int) then
     Known (w.alloc (Obj.cells #[Value.int IntKind.i64 k, Value.string s, Value.slice dq dn dc, Value.int IntKind.i64 N, Value.slice kq kn kc, Value.int IntKind.i64 nm, Value.int IntKind.u8 fi] (124 : Nat)))
       [(w.heap.size,
         [((0 : Nat), Value.int IntKind.i64 k), ((1 : Nat), Value.string s), ((2 : Nat), Value.slice dq dn dc), ((3 : Nat), Value.int IntKind.i64 N), ((4 : Nat), Value.slice kq kn kc),
          ((5 : Nat), Value.int IntKind.i64 nm), ((6 : Nat), Value.int IntKind.u8 fi)])] →
      Rets Tryd.prog (204 : Nat) #[Value.pointer p, Value.int IntKind.i64 (0 : Int)]
       (w.alloc (Obj.cells #[Value.int IntKind.i64 k, Value.string s, Value.slice dq dn dc, Value.int IntKind.i64 N, Value.slice kq kn kc, Value.int IntKind.i64 nm, Value.int IntKind.u8 fi] (124 : Nat)))
       fun (v9 : Value) (w10 : World) =>
       ∃ (i11 : Int),
        v9 = Value.int IntKind.i64 i11 ∧
         Keeps (w.alloc (Obj.cells #[Value.int IntKind.i64 k, Value.string s, Value.slice dq dn dc, Value.int IntKind.i64 N, Value.slice kq kn kc, Value.int IntKind.i64 nm, Value.int IntKind.u8 fi] (124 : Nat)))
           w10 [w.heap.size] ∧
          (Known w10
            [(w.heap.size,
              [((0 : Nat), Value.int IntKind.i64 k), ((1 : Nat), Value.string s), ((2 : Nat), Value.slice dq dn dc), ((3 : Nat), Value.int IntKind.i64 N), ((4 : Nat), Value.slice kq kn kc),
               ((5 : Nat), Value.int IntKind.i64 nm), ((6 : Nat), Value.int IntKind.u8 fi)])] →
           R (Ending.returned (Value.int IntKind.i64 i11)) w10)
    else
     bif k == (8 : Int) then
      bif k == (8 : Int) then
       Known (w.alloc (Obj.cells #[Value.int IntKind.i64 k, Value.string s, Value.slice dq dn dc, Value.int IntKind.i64 N, Value.slice kq kn kc, Value.int IntKind.i64 nm, Value.int IntKind.u8 fi] (124 : Nat)))
         [(w.heap.size,
           [((0 : Nat), Value.int IntKind.i64 k), ((1 : Nat), Value.string s), ((2 : Nat), Value.slice dq dn dc), ((3 : Nat), Value.int IntKind.i64 N), ((4 : Nat), Value.slice kq kn kc),
            ((5 : Nat), Value.int IntKind.i64 nm), ((6 : Nat), Value.int IntKind.u8 fi)])] →
        Rets Tryd.prog (205 : Nat) #[Value.pointer p, Value.string s]
         (w.alloc (Obj.cells #[Value.int IntKind.i64 k, Value.string s, Value.slice dq dn dc, Value.int IntKind.i64 N, Value.slice kq kn kc, Value.int IntKind.i64 nm, Value.int IntKind.u8 fi] (124 : Nat)))
         fun (v12 : Value) (w13 : World) =>
         ∃ (i14 : Int),
          v12 = Value.int IntKind.i64 i14 ∧
           Keeps
             (w.alloc
              (Obj.cells #[Value.int IntKind.i64 k, Value.string s, Value.slice dq dn dc, Value.int IntKind.i64 N, Value.slice kq kn kc, Value.int IntKind.i64 nm, Value.int IntKind.u8 fi] (124 : Nat)))
             w13 [w.heap.size] ∧
            (Known w13
              [(w.heap.size,
                [((0 : Nat), Value.int IntKind.i64 k), ((1 : Nat), Value.string s), ((2 : Nat), Value.slice dq dn dc), ((3 : Nat), Value.int IntKind.i64 N), ((4 : Nat), Value.slice kq kn kc),
                 ((5 : Nat), Value.int IntKind.i64 nm), ((6 : Nat), Value.int IntKind.u8 fi)])] →
             R (Ending.returned (Value.int IntKind.i64 i14)) w13)
      else
       bif k == (11 : Int) then
        Known (w.alloc (Obj.cells #[Value.int IntKind.i64 k, Value.string s, Value.slice dq dn dc, Value.int IntKind.i64 N, Value.slice kq kn kc, Value.int IntKind.i64 nm, Value.int IntKind.u8 fi] (124 : Nat)))
          [(w.heap.size,
            [((0 : Nat), Value.int IntKind.i64 k), ((1 : Nat), Value.string s), ((2 : Nat), Value.slice dq dn dc), ((3 : Nat), Value.int IntKind.i64 N), ((4 : Nat), Value.slice kq kn kc),
             ((5 : Nat), Value.int IntKind.i64 nm), ((6 : Nat), Value.int IntKind.u8 fi)])] →
         Rets Tryd.prog (206 : Nat) #[Value.pointer p]
          (w.alloc (Obj.cells #[Value.int IntKind.i64 k, Value.string s, Value.slice dq dn dc, Value.int IntKind.i64 N, Value.slice kq kn kc, Value.int IntKind.i64 nm, Value.int IntKind.u8 fi] (124 : Nat)))
          fun (v15 : Value) (w16 : World) =>
          ∃ (i17 : Int),
           v15 = Value.int IntKind.i64 i17 ∧
            Keeps
              (w.alloc
               (Obj.cells #[Value.int IntKind.i64 k, Value.string s, Value.slice dq dn dc, Value.int IntKind.i64 N, Value.slice kq kn kc, Value.int IntKind.i64 nm, Value.int IntKind.u8 fi] (124 : Nat)))
              w16 [w.heap.size] ∧
             bif i17 != (0 : Int) then
              Known w16
                [(w.heap.size,
                  [((0 : Nat), Value.int IntKind.i64 k), ((1 : Nat), Value.string s), ((2 : Nat), Value.slice dq dn dc), ((3 : Nat), Value.int IntKind.i64 N), ((4 : Nat), Value.slice kq kn kc),
                   ((5 : Nat), Value.int IntKind.i64 nm), ((6 : Nat), Value.int IntKind.u8 fi)])] →
               R (Ending.returned (Value.int IntKind.i64 i17)) w16
             else
              Known w16
                [(w.heap.size,
                  [((0 : Nat), Value.int IntKind.i64 k), ((1 : Nat), Value.string s), ((2 : Nat), Value.slice dq dn dc), ((3 : Nat), Value.int IntKind.i64 N), ((4 : Nat), Value.slice kq kn kc),
                   ((5 : Nat), Value.int IntKind.i64 nm), ((6 : Nat), Value.int IntKind.u8 fi)])] →
               Rets Tryd.prog (205 : Nat) #[Value.pointer p, Value.string s] w16 fun (v18 : Value) (w19 : World) =>
                ∃ (i20 : Int),
                 v18 = Value.int IntKind.i64 i20 ∧
                  Keeps w16 w19 [w.heap.size] ∧
                   (Known w19
                     [(w.heap.size,
                      [((0 : Nat), Value.int IntKind.i64 k), ((1 : Nat), Value.string s), ((2 : Nat), Value.slice dq dn dc), ((3 : Nat), Value.int IntKind.i64 N),
                       ((4 : Nat), Value.slice kq kn kc), ((5 : Nat), Value.int IntKind.i64 nm), ((6 : Nat), Value.int IntKind.u8 fi)])] →
                    R (Ending.returned (Value.int IntKind.i64 i20)) w19)
       else
        bif k == (12 : Int) then
         bif k == (12 : Int) then
          Known
            (w.alloc (Obj.cells #[Value.int IntKind.i64 k, Value.string s, Value.slice dq dn dc, Value.int IntKind.i64 N, Value.slice kq kn kc, Value.int IntKind.i64 nm, Value.int IntKind.u8 fi] (124 : Nat)))
            [(w.heap.size,
              [((0 : Nat), Value.int IntKind.i64 k), ((1 : Nat), Value.string s), ((2 : Nat), Value.slice dq dn dc), ((3 : Nat), Value.int IntKind.i64 N), ((4 : Nat), Value.slice kq kn kc),
               ((5 : Nat), Value.int IntKind.i64 nm), ((6 : Nat), Value.int IntKind.u8 fi)])] →
           Rets Tryd.prog (206 : Nat) #[Value.pointer p]
            (w.alloc (Obj.cells #[Value.int IntKind.i64 k, Value.string s, Value.slice dq dn dc, Value.int IntKind.i64 N, Value.slice kq kn kc, Value.int IntKind.i64 nm, Value.int IntKind.u8 fi] (124 : Nat)))
            fun (v21 : Value) (w22 : World) =>
            ∃ (i23 : Int),
             v21 = Value.int IntKind.i64 i23 ∧
              Keeps
                (w.alloc
                 (Obj.cells #[Value.int IntKind.i64 k, Value.string s, Value.slice dq dn dc, Value.int IntKind.i64 N, Value.slice kq kn kc, Value.int IntKind.i64 nm, Value.int IntKind.u8 fi]
                  (124 : Nat)))
                w22 [w.heap.size] ∧
               (Known w22
                 [(w.heap.size,
                   [((0 : Nat), Value.int IntKind.i64 k), ((1 : Nat), Value.string s), ((2 : Nat), Value.slice dq dn dc), ((3 : Nat), Value.int IntKind.i64 N), ((4 : Nat), Value.slice kq kn kc),
                    ((5 : Nat), Value.int IntKind.i64 nm), ((6 : Nat), Value.int IntKind.u8 fi)])] →
                R (Ending.returned (Value.int IntKind.i64 i23)) w22)
         else
          Known
            (w.alloc (Obj.cells #[Value.int IntKind.i64 k, Value.string s, Value.slice dq dn dc, Value.int IntKind.i64 N, Value.slice kq kn kc, Value.int IntKind.i64 nm, Value.int IntKind.u8 fi] (124 : Nat)))
            [(w.heap.size,
              [((0 : Nat), Value.int IntKind.i64 k), ((1 : Nat), Value.string s), ((2 : Nat), Value.slice dq dn dc), ((3 : Nat), Value.int IntKind.i64 N), ((4 : Nat), Value.slice kq kn kc),
               ((5 : Nat), Value.int IntKind.i64 nm), ((6 : Nat), Value.int IntKind.u8 fi)])] →
           R (Ending.returned (Value.int IntKind.i64 (0 : Int)))
            (w.alloc (Obj.cells #[Value.int IntKind.i64 k, Value.string s, Value.slice dq dn dc, Value.int IntKind.i64 N, Value.slice kq kn kc, Value.int IntKind.i64 nm, Value.int IntKind.u8 fi] (124 : Nat)))
        else
         bif k == (13 : Int) then
          bif k == (13 : Int) then
           Known
             (w.alloc
              (Obj.cells #[Value.int IntKind.i64 k, Value.string s, Value.slice dq dn dc, Value.int IntKind.i64 N, Value.slice kq kn kc, Value.int IntKind.i64 nm, Value.int IntKind.u8 fi] (124 : Nat)))
             [(w.heap.size,
               [((0 : Nat), Value.int IntKind.i64 k), ((1 : Nat), Value.string s), ((2 : Nat), Value.slice dq dn dc), ((3 : Nat), Value.int IntKind.i64 N), ((4 : Nat), Value.slice kq kn kc),
                ((5 : Nat), Value.int IntKind.i64 nm), ((6 : Nat), Value.int IntKind.u8 fi)])] →
            Rets Tryd.prog (206 : Nat) #[Value.pointer p]
             (w.alloc
              (Obj.cells #[Value.int IntKind.i64 k, Value.string s, Value.slice dq dn dc, Value.int IntKind.i64 N, Value.slice kq kn kc, Value.int IntKind.i64 nm, Value.int IntKind.u8 fi] (124 : Nat)))
             fun (v24 : Value) (w25 : World) =>
             ∃ (i26 : Int),
              v24 = Value.int IntKind.i64 i26 ∧
               Keeps
                 (w.alloc
                  (Obj.cells #[Value.int IntKind.i64 k, Value.string s, Value.slice dq dn dc, Value.int IntKind.i64 N, Value.slice kq kn kc, Value.int IntKind.i64 nm, Value.int IntKind.u8 fi]
                   (124 : Nat)))
                 w25 [w.heap.size] ∧
                (Known w25
                  [(w.heap.size,
                    [((0 : Nat), Value.int IntKind.i64 k), ((1 : Nat), Value.string s), ((2 : Nat), Value.slice dq dn dc), ((3 : Nat), Value.int IntKind.i64 N), ((4 : Nat), Value.slice kq kn kc),
                     ((5 : Nat), Value.int IntKind.i64 nm), ((6 : Nat), Value.int IntKind.u8 fi)])] →
                 R (Ending.returned (Value.int IntKind.i64 i26)) w25)
          else
           Known
             (w.alloc
              (Obj.cells #[Value.int IntKind.i64 k, Value.string s, Value.slice dq dn dc, Value.int IntKind.i64 N, Value.slice kq kn kc, Value.int IntKind.i64 nm, Value.int IntKind.u8 fi] (124 : Nat)))
             [(w.heap.size,
               [((0 : Nat), Value.int IntKind.i64 k), ((1 : Nat), Value.string s), ((2 : Nat), Value.slice dq dn dc), ((3 : Nat), Value.int IntKind.i64 N), ((4 : Nat), Value.slice kq kn kc),
                ((5 : Nat), Value.int IntKind.i64 nm), ((6 : Nat), Value.int IntKind.u8 fi)])] →
            R (Ending.returned (Value.int IntKind.i64 (0 : Int)))
             (w.alloc
              (Obj.cells #[Value.int IntKind.i64 k, Value.string s, Value.slice dq dn dc, Value.int IntKind.i64 N, Value.slice kq kn kc, Value.int IntKind.i64 nm, Value.int IntKind.u8 fi] (124 : Nat)))
         else
          bif k == (14 : Int) then
           Known
             (w.alloc
              (Obj.cells #[Value.int IntKind.i64 k, Value.string s, Value.slice dq dn dc, Value.int IntKind.i64 N, Value.slice kq kn kc, Value.int IntKind.i64 nm, Value.int IntKind.u8 fi] (124 : Nat)))
             [(w.heap.size,
               [((0 : Nat), Value.int IntKind.i64 k), ((1 : Nat), Value.string s), ((2 : Nat), Value.slice dq dn dc), ((3 : Nat), Value.int IntKind.i64 N), ((4 : Nat), Value.slice kq kn kc),
                ((5 : Nat), Value.int IntKind.i64 nm), ((6 : Nat), Value.int IntKind.u8 fi)])] →
            Rets Tryd.prog (206 : Nat) #[Value.pointer p]
             (w.alloc
              (Obj.cells #[Value.int IntKind.i64 k, Value.string s, Value.slice dq dn dc, Value.int IntKind.i64 N, Value.slice kq kn kc, Value.int IntKind.i64 nm, Value.int IntKind.u8 fi] (124 : Nat)))
             fun (v27 : Value) (w28 : World) =>
             ∃ (i29 : Int),
              v27 = Value.int IntKind.i64 i29 ∧
               Keeps
                 (w.alloc
                  (Obj.cells #[Value.int IntKind.i64 k, Value.string s, Value.slice dq dn dc, Value.int IntKind.i64 N, Value.slice kq kn kc, Value.int IntKind.i64 nm, Value.int IntKind.u8 fi]
                   (124 : Nat)))
                 w28 [w.heap.size] ∧
                (Known w28
                  [(w.heap.size,
                    [((0 : Nat), Value.int IntKind.i64 k), ((1 : Nat), Value.string s), ((2 : Nat), Value.slice dq dn dc), ((3 : Nat), Value.int IntKind.i64 N), ((4 : Nat), Value.slice kq kn kc),
                     ((5 : Nat), Value.int IntKind.i64 nm), ((6 : Nat), Value.int IntKind.u8 fi)])] →
                 R (Ending.returned (Value.int IntKind.i64 i29)) w28)
          else
           Known
             (w.alloc
              (Obj.cells #[Value.int IntKind.i64 k, Value.string s, Value.slice dq dn dc, Value.int IntKind.i64 N, Value.slice kq kn kc, Value.int IntKind.i64 nm, Value.int IntKind.u8 fi] (124 : Nat)))
             [(w.heap.size,
               [((0 : Nat), Value.int IntKind.i64 k), ((1 : Nat), Value.string s), ((2 : Nat), Value.slice dq dn dc), ((3 : Nat), Value.int IntKind.i64 N), ((4 : Nat), Value.slice kq kn kc),
                ((5 : Nat), Value.int IntKind.i64 nm), ((6 : Nat), Value.int IntKind.u8 fi)])] →
            R (Ending.returned (Value.int IntKind.i64 (0 : Int)))
             (w.alloc
              (Obj.cells #[Value.int IntKind.i64 k, Value.string s, Value.slice dq dn dc, Value.int IntKind.i64 N, Value.slice kq kn kc, Value.int IntKind.i64 nm, Value.int IntKind.u8 fi] (124 : Nat)))
     else
      bif k == (9 : Int) then
       Known (w.alloc (Obj.cells #[Value.int IntKind.i64 k, Value.string s, Value.slice dq dn dc, Value.int IntKind.i64 N, Value.slice kq kn kc, Value.int IntKind.i64 nm, Value.int IntKind.u8 fi] (124 : Nat)))
         [(w.heap.size,
           [((0 : Nat), Value.int IntKind.i64 k), ((1 : Nat), Value.string s), ((2 : Nat), Value.slice dq dn dc), ((3 : Nat), Value.int IntKind.i64 N), ((4 : Nat), Value.slice kq kn kc),
            ((5 : Nat), Value.int IntKind.i64 nm), ((6 : Nat), Value.int IntKind.u8 fi)])] →
        Rets Tryd.prog (205 : Nat) #[Value.pointer p, Value.string s]
         (w.alloc (Obj.cells #[Value.int IntKind.i64 k, Value.string s, Value.slice dq dn dc, Value.int IntKind.i64 N, Value.slice kq kn kc, Value.int IntKind.i64 nm, Value.int IntKind.u8 fi] (124 : Nat)))
         fun (v30 : Value) (w31 : World) =>
         ∃ (i32 : Int),
          v30 = Value.int IntKind.i64 i32 ∧
           Keeps
             (w.alloc
              (Obj.cells #[Value.int IntKind.i64 k, Value.string s, Value.slice dq dn dc, Value.int IntKind.i64 N, Value.slice kq kn kc, Value.int IntKind.i64 nm, Value.int IntKind.u8 fi] (124 : Nat)))
             w31 [w.heap.size] ∧
            (Known w31
              [(w.heap.size,
                [((0 : Nat), Value.int IntKind.i64 k), ((1 : Nat), Value.string s), ((2 : Nat), Value.slice dq dn dc), ((3 : Nat), Value.int IntKind.i64 N), ((4 : Nat), Value.slice kq kn kc),
                 ((5 : Nat), Value.int IntKind.i64 nm), ((6 : Nat), Value.int IntKind.u8 fi)])] →
             R (Ending.returned (Value.int IntKind.i64 i32)) w31)
      else
       bif k == (11 : Int) then
        Known (w.alloc (Obj.cells #[Value.int IntKind.i64 k, Value.string s, Value.slice dq dn dc, Value.int IntKind.i64 N, Value.slice kq kn kc, Value.int IntKind.i64 nm, Value.int IntKind.u8 fi] (124 : Nat)))
          [(w.heap.size,
            [((0 : Nat), Value.int IntKind.i64 k), ((1 : Nat), Value.string s), ((2 : Nat), Value.slice dq dn dc), ((3 : Nat), Value.int IntKind.i64 N), ((4 : Nat), Value.slice kq kn kc),
             ((5 : Nat), Value.int IntKind.i64 nm), ((6 : Nat), Value.int IntKind.u8 fi)])] →
         Rets Tryd.prog (206 : Nat) #[Value.pointer p]
          (w.alloc (Obj.cells #[Value.int IntKind.i64 k, Value.string s, Value.slice dq dn dc, Value.int IntKind.i64 N, Value.slice kq kn kc, Value.int IntKind.i64 nm, Value.int IntKind.u8 fi] (124 : Nat)))
          fun (v33 : Value) (w34 : World) =>
          ∃ (i35 : Int),
           v33 = Value.int IntKind.i64 i35 ∧
            Keeps
              (w.alloc
               (Obj.cells #[Value.int IntKind.i64 k, Value.string s, Value.slice dq dn dc, Value.int IntKind.i64 N, Value.slice kq kn kc, Value.int IntKind.i64 nm, Value.int IntKind.u8 fi] (124 : Nat)))
              w34 [w.heap.size] ∧
             bif i35 != (0 : Int) then
              Known w34
                [(w.heap.size,
                  [((0 : Nat), Value.int IntKind.i64 k), ((1 : Nat), Value.string s), ((2 : Nat), Value.slice dq dn dc), ((3 : Nat), Value.int IntKind.i64 N), ((4 : Nat), Value.slice kq kn kc),
                   ((5 : Nat), Value.int IntKind.i64 nm), ((6 : Nat), Value.int IntKind.u8 fi)])] →
               R (Ending.returned (Value.int IntKind.i64 i35)) w34
             else
              Known w34
                [(w.heap.size,
                  [((0 : Nat), Value.int IntKind.i64 k), ((1 : Nat), Value.string s), ((2 : Nat), Value.slice dq dn dc), ((3 : Nat), Value.int IntKind.i64 N), ((4 : Nat), Value.slice kq kn kc),
                   ((5 : Nat), Value.int IntKind.i64 nm), ((6 : Nat), Value.int IntKind.u8 fi)])] →
               Rets Tryd.prog (205 : Nat) #[Value.pointer p, Value.string s] w34 fun (v36 : Value) (w37 : World) =>
                ∃ (i38 : Int),
                 v36 = Value.int IntKind.i64 i38 ∧
                  Keeps w34 w37 [w.heap.size] ∧
                   (Known w37
                     [(w.heap.size,
                      [((0 : Nat), Value.int IntKind.i64 k), ((1 : Nat), Value.string s), ((2 : Nat), Value.slice dq dn dc), ((3 : Nat), Value.int IntKind.i64 N),
                       ((4 : Nat), Value.slice kq kn kc), ((5 : Nat), Value.int IntKind.i64 nm), ((6 : Nat), Value.int IntKind.u8 fi)])] →
                    R (Ending.returned (Value.int IntKind.i64 i38)) w37)
       else
        bif k == (12 : Int) then
         bif k == (12 : Int) then
          Known
            (w.alloc (Obj.cells #[Value.int IntKind.i64 k, Value.string s, Value.slice dq dn dc, Value.int IntKind.i64 N, Value.slice kq kn kc, Value.int IntKind.i64 nm, Value.int IntKind.u8 fi] (124 : Nat)))
            [(w.heap.size,
              [((0 : Nat), Value.int IntKind.i64 k), ((1 : Nat), Value.string s), ((2 : Nat), Value.slice dq dn dc), ((3 : Nat), Value.int IntKind.i64 N), ((4 : Nat), Value.slice kq kn kc),
               ((5 : Nat), Value.int IntKind.i64 nm), ((6 : Nat), Value.int IntKind.u8 fi)])] →
           Rets Tryd.prog (206 : Nat) #[Value.pointer p]
            (w.alloc (Obj.cells #[Value.int IntKind.i64 k, Value.string s, Value.slice dq dn dc, Value.int IntKind.i64 N, Value.slice kq kn kc, Value.int IntKind.i64 nm, Value.int IntKind.u8 fi] (124 : Nat)))
            fun (v39 : Value) (w40 : World) =>
            ∃ (i41 : Int),
             v39 = Value.int IntKind.i64 i41 ∧
              Keeps
                (w.alloc
                 (Obj.cells #[Value.int IntKind.i64 k, Value.string s, Value.slice dq dn dc, Value.int IntKind.i64 N, Value.slice kq kn kc, Value.int IntKind.i64 nm, Value.int IntKind.u8 fi]
                  (124 : Nat)))
                w40 [w.heap.size] ∧
               (Known w40
                 [(w.heap.size,
                   [((0 : Nat), Value.int IntKind.i64 k), ((1 : Nat), Value.string s), ((2 : Nat), Value.slice dq dn dc), ((3 : Nat), Value.int IntKind.i64 N), ((4 : Nat), Value.slice kq kn kc),
                    ((5 : Nat), Value.int IntKind.i64 nm), ((6 : Nat), Value.int IntKind.u8 fi)])] →
                R (Ending.returned (Value.int IntKind.i64 i41)) w40)
         else
          Known
            (w.alloc (Obj.cells #[Value.int IntKind.i64 k, Value.string s, Value.slice dq dn dc, Value.int IntKind.i64 N, Value.slice kq kn kc, Value.int IntKind.i64 nm, Value.int IntKind.u8 fi] (124 : Nat)))
            [(w.heap.size,
              [((0 : Nat), Value.int IntKind.i64 k), ((1 : Nat), Value.string s), ((2 : Nat), Value.slice dq dn dc), ((3 : Nat), Value.int IntKind.i64 N), ((4 : Nat), Value.slice kq kn kc),
               ((5 : Nat), Value.int IntKind.i64 nm), ((6 : Nat), Value.int IntKind.u8 fi)])] →
           R (Ending.returned (Value.int IntKind.i64 (0 : Int)))
            (w.alloc (Obj.cells #[Value.int IntKind.i64 k, Value.string s, Value.slice dq dn dc, Value.int IntKind.i64 N, Value.slice kq kn kc, Value.int IntKind.i64 nm, Value.int IntKind.u8 fi] (124 : Nat)))
        else
         bif k == (13 : Int) then
          bif k == (13 : Int) then
           Known
             (w.alloc
              (Obj.cells #[Value.int IntKind.i64 k, Value.string s, Value.slice dq dn dc, Value.int IntKind.i64 N, Value.slice kq kn kc, Value.int IntKind.i64 nm, Value.int IntKind.u8 fi] (124 : Nat)))
             [(w.heap.size,
               [((0 : Nat), Value.int IntKind.i64 k), ((1 : Nat), Value.string s), ((2 : Nat), Value.slice dq dn dc), ((3 : Nat), Value.int IntKind.i64 N), ((4 : Nat), Value.slice kq kn kc),
                ((5 : Nat), Value.int IntKind.i64 nm), ((6 : Nat), Value.int IntKind.u8 fi)])] →
            Rets Tryd.prog (206 : Nat) #[Value.pointer p]
             (w.alloc
              (Obj.cells #[Value.int IntKind.i64 k, Value.string s, Value.slice dq dn dc, Value.int IntKind.i64 N, Value.slice kq kn kc, Value.int IntKind.i64 nm, Value.int IntKind.u8 fi] (124 : Nat)))
             fun (v42 : Value) (w43 : World) =>
             ∃ (i44 : Int),
              v42 = Value.int IntKind.i64 i44 ∧
               Keeps
                 (w.alloc
                  (Obj.cells #[Value.int IntKind.i64 k, Value.string s, Value.slice dq dn dc, Value.int IntKind.i64 N, Value.slice kq kn kc, Value.int IntKind.i64 nm, Value.int IntKind.u8 fi]
                   (124 : Nat)))
                 w43 [w.heap.size] ∧
                (Known w43
                  [(w.heap.size,
                    [((0 : Nat), Value.int IntKind.i64 k), ((1 : Nat), Value.string s), ((2 : Nat), Value.slice dq dn dc), ((3 : Nat), Value.int IntKind.i64 N), ((4 : Nat), Value.slice kq kn kc),
                     ((5 : Nat), Value.int IntKind.i64 nm), ((6 : Nat), Value.int IntKind.u8 fi)])] →
                 R (Ending.returned (Value.int IntKind.i64 i44)) w43)
          else
           Known
             (w.alloc
              (Obj.cells #[Value.int IntKind.i64 k, Value.string s, Value.slice dq dn dc, Value.int IntKind.i64 N, Value.slice kq kn kc, Value.int IntKind.i64 nm, Value.int IntKind.u8 fi] (124 : Nat)))
             [(w.heap.size,
               [((0 : Nat), Value.int IntKind.i64 k), ((1 : Nat), Value.string s), ((2 : Nat), Value.slice dq dn dc), ((3 : Nat), Value.int IntKind.i64 N), ((4 : Nat), Value.slice kq kn kc),
                ((5 : Nat), Value.int IntKind.i64 nm), ((6 : Nat), Value.int IntKind.u8 fi)])] →
            R (Ending.returned (Value.int IntKind.i64 (0 : Int)))
             (w.alloc
              (Obj.cells #[Value.int IntKind.i64 k, Value.string s, Value.slice dq dn dc, Value.int IntKind.i64 N, Value.slice kq kn kc, Value.int IntKind.i64 nm, Value.int IntKind.u8 fi] (124 : Nat)))
         else
          bif k == (14 : Int) then
           Known
             (w.alloc
              (Obj.cells #[Value.int IntKind.i64 k, Value.string s, Value.slice dq dn dc, Value.int IntKind.i64 N, Value.slice kq kn kc, Value.int IntKind.i64 nm, Value.int IntKind.u8 fi] (124 : Nat)))
             [(w.heap.size,
               [((0 : Nat), Value.int IntKind.i64 k), ((1 : Nat), Value.string s), ((2 : Nat), Value.slice dq dn dc), ((3 : Nat), Value.int IntKind.i64 N), ((4 : Nat), Value.slice kq kn kc),
                ((5 : Nat), Value.int IntKind.i64 nm), ((6 : Nat), Value.int IntKind.u8 fi)])] →
            Rets Tryd.prog (206 : Nat) #[Value.pointer p]
             (w.alloc
              (Obj.cells #[Value.int IntKind.i64 k, Value.string s, Value.slice dq dn dc, Value.int IntKind.i64 N, Value.slice kq kn kc, Value.int IntKind.i64 nm, Value.int IntKind.u8 fi] (124 : Nat)))
             fun (v45 : Value) (w46 : World) =>
             ∃ (i47 : Int),
              v45 = Value.int IntKind.i64 i47 ∧
               Keeps
                 (w.alloc
                  (Obj.cells #[Value.int IntKind.i64 k, Value.string s, Value.slice dq dn dc, Value.int IntKind.i64 N, Value.slice kq kn kc, Value.int IntKind.i64 nm, Value.int IntKind.u8 fi]
                   (124 : Nat)))
                 w46 [w.heap.size] ∧
                (Known w46
                  [(w.heap.size,
                    [((0 : Nat), Value.int IntKind.i64 k), ((1 : Nat), Value.string s), ((2 : Nat), Value.slice dq dn dc), ((3 : Nat), Value.int IntKind.i64 N), ((4 : Nat), Value.slice kq kn kc),
                     ((5 : Nat), Value.int IntKind.i64 nm), ((6 : Nat), Value.int IntKind.u8 fi)])] →
                 R (Ending.returned (Value.int IntKind.i64 i47)) w46)
          else
           Known
             (w.alloc
              (Obj.cells #[Value.int IntKind.i64 k, Value.string s, Value.slice dq dn dc, Value.int IntKind.i64 N, Value.slice kq kn kc, Value.int IntKind.i64 nm, Value.int IntKind.u8 fi] (124 : Nat)))
             [(w.heap.size,
               [((0 : Nat), Value.int IntKind.i64 k), ((1 : Nat), Value.string s), ((2 : Nat), Value.slice dq dn dc), ((3 : Nat), Value.int IntKind.i64 N), ((4 : Nat), Value.slice kq kn kc),
                ((5 : Nat), Value.int IntKind.i64 nm), ((6 : Nat), Value.int IntKind.u8 fi)])] →
            R (Ending.returned (Value.int IntKind.i64 (0 : Int)))
             (w.alloc
              (Obj.cells #[Value.int IntKind.i64 k, Value.string s, Value.slice dq dn dc, Value.int IntKind.i64 N, Value.slice kq kn kc, Value.int IntKind.i64 nm, Value.int IntKind.u8 fi] (124 : Nat)))
   else
    bif k == (7 : Int) then
     Known (w.alloc (Obj.cells #[Value.int IntKind.i64 k, Value.string s, Value.slice dq dn dc, Value.int IntKind.i64 N, Value.slice kq kn kc, Value.int IntKind.i64 nm, Value.int IntKind.u8 fi] (124 : Nat)))
       [(w.heap.size,
         [((0 : Nat), Value.int IntKind.i64 k), ((1 : Nat), Value.string s), ((2 : Nat), Value.slice dq dn dc), ((3 : Nat), Value.int IntKind.i64 N), ((4 : Nat), Value.slice kq kn kc),
          ((5 : Nat), Value.int IntKind.i64 nm), ((6 : Nat), Value.int IntKind.u8 fi)])] →
      Rets Tryd.prog (204 : Nat) #[Value.pointer p, Value.int IntKind.i64 (0 : Int)]
       (w.alloc (Obj.cells #[Value.int IntKind.i64 k, Value.string s, Value.slice dq dn dc, Value.int IntKind.i64 N, Value.slice kq kn kc, Value.int IntKind.i64 nm, Value.int IntKind.u8 fi] (124 : Nat)))
       fun (v48 : Value) (w49 : World) =>
       ∃ (i50 : Int),
        v48 = Value.int IntKind.i64 i50 ∧
         Keeps (w.alloc (Obj.cells #[Value.int IntKind.i64 k, Value.string s, Value.slice dq dn dc, Value.int IntKind.i64 N, Value.slice kq kn kc, Value.int IntKind.i64 nm, Value.int IntKind.u8 fi] (124 : Nat)))
           w49 [w.heap.size] ∧
          (Known w49
            [(w.heap.size,
              [((0 : Nat), Value.int IntKind.i64 k), ((1 : Nat), Value.string s), ((2 : Nat), Value.slice dq dn dc), ((3 : Nat), Value.int IntKind.i64 N), ((4 : Nat), Value.slice kq kn kc),
               ((5 : Nat), Value.int IntKind.i64 nm), ((6 : Nat), Value.int IntKind.u8 fi)])] →
           R (Ending.returned (Value.int IntKind.i64 i50)) w49)
    else
     bif k == (8 : Int) then
      bif k == (8 : Int) then
       Known (w.alloc (Obj.cells #[Value.int IntKind.i64 k, Value.string s, Value.slice dq dn dc, Value.int IntKind.i64 N, Value.slice kq kn kc, Value.int IntKind.i64 nm, Value.int IntKind.u8 fi] (124 : Nat)))
         [(w.heap.size,
           [((0 : Nat), Value.int IntKind.i64 k), ((1 : Nat), Value.string s), ((2 : Nat), Value.slice dq dn dc), ((3 : Nat), Value.int IntKind.i64 N), ((4 : Nat), Value.slice kq kn kc),
            ((5 : Nat), Value.int IntKind.i64 nm), ((6 : Nat), Value.int IntKind.u8 fi)])] →
        Rets Tryd.prog (205 : Nat) #[Value.pointer p, Value.string s]
         (w.alloc (Obj.cells #[Value.int IntKind.i64 k, Value.string s, Value.slice dq dn dc, Value.int IntKind.i64 N, Value.slice kq kn kc, Value.int IntKind.i64 nm, Value.int IntKind.u8 fi] (124 : Nat)))
         fun (v51 : Value) (w52 : World) =>
         ∃ (i53 : Int),
          v51 = Value.int IntKind.i64 i53 ∧
           Keeps
             (w.alloc
              (Obj.cells #[Value.int IntKind.i64 k, Value.string s, Value.slice dq dn dc, Value.int IntKind.i64 N, Value.slice kq kn kc, Value.int IntKind.i64 nm, Value.int IntKind.u8 fi] (124 : Nat)))
             w52 [w.heap.size] ∧
            (Known w52
              [(w.heap.size,
                [((0 : Nat), Value.int IntKind.i64 k), ((1 : Nat), Value.string s), ((2 : Nat), Value.slice dq dn dc), ((3 : Nat), Value.int IntKind.i64 N), ((4 : Nat), Value.slice kq kn kc),
                 ((5 : Nat), Value.int IntKind.i64 nm), ((6 : Nat), Value.int IntKind.u8 fi)])] →
             R (Ending.returned (Value.int IntKind.i64 i53)) w52)
      else
       bif k == (11 : Int) then
        Known (w.alloc (Obj.cells #[Value.int IntKind.i64 k, Value.string s, Value.slice dq dn dc, Value.int IntKind.i64 N, Value.slice kq kn kc, Value.int IntKind.i64 nm, Value.int IntKind.u8 fi] (124 : Nat)))
          [(w.heap.size,
            [((0 : Nat), Value.int IntKind.i64 k), ((1 : Nat), Value.string s), ((2 : Nat), Value.slice dq dn dc), ((3 : Nat), Value.int IntKind.i64 N), ((4 : Nat), Value.slice kq kn kc),
             ((5 : Nat), Value.int IntKind.i64 nm), ((6 : Nat), Value.int IntKind.u8 fi)])] →
         Rets Tryd.prog (206 : Nat) #[Value.pointer p]
          (w.alloc (Obj.cells #[Value.int IntKind.i64 k, Value.string s, Value.slice dq dn dc, Value.int IntKind.i64 N, Value.slice kq kn kc, Value.int IntKind.i64 nm, Value.int IntKind.u8 fi] (124 : Nat)))
          fun (v54 : Value) (w55 : World) =>
          ∃ (i56 : Int),
           v54 = Value.int IntKind.i64 i56 ∧
            Keeps
              (w.alloc
               (Obj.cells #[Value.int IntKind.i64 k, Value.string s, Value.slice dq dn dc, Value.int IntKind.i64 N, Value.slice kq kn kc, Value.int IntKind.i64 nm, Value.int IntKind.u8 fi] (124 : Nat)))
              w55 [w.heap.size] ∧
             bif i56 != (0 : Int) then
              Known w55
                [(w.heap.size,
                  [((0 : Nat), Value.int IntKind.i64 k), ((1 : Nat), Value.string s), ((2 : Nat), Value.slice dq dn dc), ((3 : Nat), Value.int IntKind.i64 N), ((4 : Nat), Value.slice kq kn kc),
                   ((5 : Nat), Value.int IntKind.i64 nm), ((6 : Nat), Value.int IntKind.u8 fi)])] →
               R (Ending.returned (Value.int IntKind.i64 i56)) w55
             else
              Known w55
                [(w.heap.size,
                  [((0 : Nat), Value.int IntKind.i64 k), ((1 : Nat), Value.string s), ((2 : Nat), Value.slice dq dn dc), ((3 : Nat), Value.int IntKind.i64 N), ((4 : Nat), Value.slice kq kn kc),
                   ((5 : Nat), Value.int IntKind.i64 nm), ((6 : Nat), Value.int IntKind.u8 fi)])] →
               Rets Tryd.prog (205 : Nat) #[Value.pointer p, Value.string s] w55 fun (v57 : Value) (w58 : World) =>
                ∃ (i59 : Int),
                 v57 = Value.int IntKind.i64 i59 ∧
                  Keeps w55 w58 [w.heap.size] ∧
                   (Known w58
                     [(w.heap.size,
                      [((0 : Nat), Value.int IntKind.i64 k), ((1 : Nat), Value.string s), ((2 : Nat), Value.slice dq dn dc), ((3 : Nat), Value.int IntKind.i64 N),
                       ((4 : Nat), Value.slice kq kn kc), ((5 : Nat), Value.int IntKind.i64 nm), ((6 : Nat), Value.int IntKind.u8 fi)])] →
                    R (Ending.returned (Value.int IntKind.i64 i59)) w58)
       else
        bif k == (12 : Int) then
         bif k == (12 : Int) then
          Known
            (w.alloc (Obj.cells #[Value.int IntKind.i64 k, Value.string s, Value.slice dq dn dc, Value.int IntKind.i64 N, Value.slice kq kn kc, Value.int IntKind.i64 nm, Value.int IntKind.u8 fi] (124 : Nat)))
            [(w.heap.size,
              [((0 : Nat), Value.int IntKind.i64 k), ((1 : Nat), Value.string s), ((2 : Nat), Value.slice dq dn dc), ((3 : Nat), Value.int IntKind.i64 N), ((4 : Nat), Value.slice kq kn kc),
               ((5 : Nat), Value.int IntKind.i64 nm), ((6 : Nat), Value.int IntKind.u8 fi)])] →
           Rets Tryd.prog (206 : Nat) #[Value.pointer p]
            (w.alloc (Obj.cells #[Value.int IntKind.i64 k, Value.string s, Value.slice dq dn dc, Value.int IntKind.i64 N, Value.slice kq kn kc, Value.int IntKind.i64 nm, Value.int IntKind.u8 fi] (124 : Nat)))
            fun (v60 : Value) (w61 : World) =>
            ∃ (i62 : Int),
             v60 = Value.int IntKind.i64 i62 ∧
              Keeps
                (w.alloc
                 (Obj.cells #[Value.int IntKind.i64 k, Value.string s, Value.slice dq dn dc, Value.int IntKind.i64 N, Value.slice kq kn kc, Value.int IntKind.i64 nm, Value.int IntKind.u8 fi]
                  (124 : Nat)))
                w61 [w.heap.size] ∧
               (Known w61
                 [(w.heap.size,
                   [((0 : Nat), Value.int IntKind.i64 k), ((1 : Nat), Value.string s), ((2 : Nat), Value.slice dq dn dc), ((3 : Nat), Value.int IntKind.i64 N), ((4 : Nat), Value.slice kq kn kc),
                    ((5 : Nat), Value.int IntKind.i64 nm), ((6 : Nat), Value.int IntKind.u8 fi)])] →
                R (Ending.returned (Value.int IntKind.i64 i62)) w61)
         else
          Known
            (w.alloc (Obj.cells #[Value.int IntKind.i64 k, Value.string s, Value.slice dq dn dc, Value.int IntKind.i64 N, Value.slice kq kn kc, Value.int IntKind.i64 nm, Value.int IntKind.u8 fi] (124 : Nat)))
            [(w.heap.size,
              [((0 : Nat), Value.int IntKind.i64 k), ((1 : Nat), Value.string s), ((2 : Nat), Value.slice dq dn dc), ((3 : Nat), Value.int IntKind.i64 N), ((4 : Nat), Value.slice kq kn kc),
               ((5 : Nat), Value.int IntKind.i64 nm), ((6 : Nat), Value.int IntKind.u8 fi)])] →
           R (Ending.returned (Value.int IntKind.i64 (0 : Int)))
            (w.alloc (Obj.cells #[Value.int IntKind.i64 k, Value.string s, Value.slice dq dn dc, Value.int IntKind.i64 N, Value.slice kq kn kc, Value.int IntKind.i64 nm, Value.int IntKind.u8 fi] (124 : Nat)))
        else
         bif k == (13 : Int) then
          bif k == (13 : Int) then
           Known
             (w.alloc
              (Obj.cells #[Value.int IntKind.i64 k, Value.string s, Value.slice dq dn dc, Value.int IntKind.i64 N, Value.slice kq kn kc, Value.int IntKind.i64 nm, Value.int IntKind.u8 fi] (124 : Nat)))
             [(w.heap.size,
               [((0 : Nat), Value.int IntKind.i64 k), ((1 : Nat), Value.string s), ((2 : Nat), Value.slice dq dn dc), ((3 : Nat), Value.int IntKind.i64 N), ((4 : Nat), Value.slice kq kn kc),
                ((5 : Nat), Value.int IntKind.i64 nm), ((6 : Nat), Value.int IntKind.u8 fi)])] →
            Rets Tryd.prog (206 : Nat) #[Value.pointer p]
             (w.alloc
              (Obj.cells #[Value.int IntKind.i64 k, Value.string s, Value.slice dq dn dc, Value.int IntKind.i64 N, Value.slice kq kn kc, Value.int IntKind.i64 nm, Value.int IntKind.u8 fi] (124 : Nat)))
             fun (v63 : Value) (w64 : World) =>
             ∃ (i65 : Int),
              v63 = Value.int IntKind.i64 i65 ∧
               Keeps
                 (w.alloc
                  (Obj.cells #[Value.int IntKind.i64 k, Value.string s, Value.slice dq dn dc, Value.int IntKind.i64 N, Value.slice kq kn kc, Value.int IntKind.i64 nm, Value.int IntKind.u8 fi]
                   (124 : Nat)))
                 w64 [w.heap.size] ∧
                (Known w64
                  [(w.heap.size,
                    [((0 : Nat), Value.int IntKind.i64 k), ((1 : Nat), Value.string s), ((2 : Nat), Value.slice dq dn dc), ((3 : Nat), Value.int IntKind.i64 N), ((4 : Nat), Value.slice kq kn kc),
                     ((5 : Nat), Value.int IntKind.i64 nm), ((6 : Nat), Value.int IntKind.u8 fi)])] →
                 R (Ending.returned (Value.int IntKind.i64 i65)) w64)
          else
           Known
             (w.alloc
              (Obj.cells #[Value.int IntKind.i64 k, Value.string s, Value.slice dq dn dc, Value.int IntKind.i64 N, Value.slice kq kn kc, Value.int IntKind.i64 nm, Value.int IntKind.u8 fi] (124 : Nat)))
             [(w.heap.size,
               [((0 : Nat), Value.int IntKind.i64 k), ((1 : Nat), Value.string s), ((2 : Nat), Value.slice dq dn dc), ((3 : Nat), Value.int IntKind.i64 N), ((4 : Nat), Value.slice kq kn kc),
                ((5 : Nat), Value.int IntKind.i64 nm), ((6 : Nat), Value.int IntKind.u8 fi)])] →
            R (Ending.returned (Value.int IntKind.i64 (0 : Int)))
             (w.alloc
              (Obj.cells #[Value.int IntKind.i64 k, Value.string s, Value.slice dq dn dc, Value.int IntKind.i64 N, Value.slice kq kn kc, Value.int IntKind.i64 nm, Value.int IntKind.u8 fi] (124 : Nat)))
         else
          bif k == (14 : Int) then
           Known
             (w.alloc
              (Obj.cells #[Value.int IntKind.i64 k, Value.string s, Value.slice dq dn dc, Value.int IntKind.i64 N, Value.slice kq kn kc, Value.int IntKind.i64 nm, Value.int IntKind.u8 fi] (124 : Nat)))
             [(w.heap.size,
               [((0 : Nat), Value.int IntKind.i64 k), ((1 : Nat), Value.string s), ((2 : Nat), Value.slice dq dn dc), ((3 : Nat), Value.int IntKind.i64 N), ((4 : Nat), Value.slice kq kn kc),
                ((5 : Nat), Value.int IntKind.i64 nm), ((6 : Nat), Value.int IntKind.u8 fi)])] →
            Rets Tryd.prog (206 : Nat) #[Value.pointer p]
             (w.alloc
              (Obj.cells #[Value.int IntKind.i64 k, Value.string s, Value.slice dq dn dc, Value.int IntKind.i64 N, Value.slice kq kn kc, Value.int IntKind.i64 nm, Value.int IntKind.u8 fi] (124 : Nat)))
             fun (v66 : Value) (w67 : World) =>
             ∃ (i68 : Int),
              v66 = Value.int IntKind.i64 i68 ∧
               Keeps
                 (w.alloc
                  (Obj.cells #[Value.int IntKind.i64 k, Value.string s, Value.slice dq dn dc, Value.int IntKind.i64 N, Value.slice kq kn kc, Value.int IntKind.i64 nm, Value.int IntKind.u8 fi]
                   (124 : Nat)))
                 w67 [w.heap.size] ∧
                (Known w67
                  [(w.heap.size,
                    [((0 : Nat), Value.int IntKind.i64 k), ((1 : Nat), Value.string s), ((2 : Nat), Value.slice dq dn dc), ((3 : Nat), Value.int IntKind.i64 N), ((4 : Nat), Value.slice kq kn kc),
                     ((5 : Nat), Value.int IntKind.i64 nm), ((6 : Nat), Value.int IntKind.u8 fi)])] →
                 R (Ending.returned (Value.int IntKind.i64 i68)) w67)
          else
           Known
             (w.alloc
              (Obj.cells #[Value.int IntKind.i64 k, Value.string s, Value.slice dq dn dc, Value.int IntKind.i64 N, Value.slice kq kn kc, Value.int IntKind.i64 nm, Value.int IntKind.u8 fi] (124 : Nat)))
             [(w.heap.size,
               [((0 : Nat), Value.int IntKind.i64 k), ((1 : Nat), Value.string s), ((2 : Nat), Value.slice dq dn dc), ((3 : Nat), Value.int IntKind.i64 N), ((4 : Nat), Value.slice kq kn kc),
                ((5 : Nat), Value.int IntKind.i64 nm), ((6 : Nat), Value.int IntKind.u8 fi)])] →
            R (Ending.returned (Value.int IntKind.i64 (0 : Int)))
             (w.alloc
              (Obj.cells #[Value.int IntKind.i64 k, Value.string s, Value.slice dq dn dc, Value.int IntKind.i64 N, Value.slice kq kn kc, Value.int IntKind.i64 nm, Value.int IntKind.u8 fi] (124 : Nat)))
     else
      bif k == (9 : Int) then
       Known (w.alloc (Obj.cells #[Value.int IntKind.i64 k, Value.string s, Value.slice dq dn dc, Value.int IntKind.i64 N, Value.slice kq kn kc, Value.int IntKind.i64 nm, Value.int IntKind.u8 fi] (124 : Nat)))
         [(w.heap.size,
           [((0 : Nat), Value.int IntKind.i64 k), ((1 : Nat), Value.string s), ((2 : Nat), Value.slice dq dn dc), ((3 : Nat), Value.int IntKind.i64 N), ((4 : Nat), Value.slice kq kn kc),
            ((5 : Nat), Value.int IntKind.i64 nm), ((6 : Nat), Value.int IntKind.u8 fi)])] →
        Rets Tryd.prog (205 : Nat) #[Value.pointer p, Value.string s]
         (w.alloc (Obj.cells #[Value.int IntKind.i64 k, Value.string s, Value.slice dq dn dc, Value.int IntKind.i64 N, Value.slice kq kn kc, Value.int IntKind.i64 nm, Value.int IntKind.u8 fi] (124 : Nat)))
         fun (v69 : Value) (w70 : World) =>
         ∃ (i71 : Int),
          v69 = Value.int IntKind.i64 i71 ∧
           Keeps
             (w.alloc
              (Obj.cells #[Value.int IntKind.i64 k, Value.string s, Value.slice dq dn dc, Value.int IntKind.i64 N, Value.slice kq kn kc, Value.int IntKind.i64 nm, Value.int IntKind.u8 fi] (124 : Nat)))
             w70 [w.heap.size] ∧
            (Known w70
              [(w.heap.size,
                [((0 : Nat), Value.int IntKind.i64 k), ((1 : Nat), Value.string s), ((2 : Nat), Value.slice dq dn dc), ((3 : Nat), Value.int IntKind.i64 N), ((4 : Nat), Value.slice kq kn kc),
                 ((5 : Nat), Value.int IntKind.i64 nm), ((6 : Nat), Value.int IntKind.u8 fi)])] →
             R (Ending.returned (Value.int IntKind.i64 i71)) w70)
      else
       bif k == (11 : Int) then
        Known (w.alloc (Obj.cells #[Value.int IntKind.i64 k, Value.string s, Value.slice dq dn dc, Value.int IntKind.i64 N, Value.slice kq kn kc, Value.int IntKind.i64 nm, Value.int IntKind.u8 fi] (124 : Nat)))
          [(w.heap.size,
            [((0 : Nat), Value.int IntKind.i64 k), ((1 : Nat), Value.string s), ((2 : Nat), Value.slice dq dn dc), ((3 : Nat), Value.int IntKind.i64 N), ((4 : Nat), Value.slice kq kn kc),
             ((5 : Nat), Value.int IntKind.i64 nm), ((6 : Nat), Value.int IntKind.u8 fi)])] →
         Rets Tryd.prog (206 : Nat) #[Value.pointer p]
          (w.alloc (Obj.cells #[Value.int IntKind.i64 k, Value.string s, Value.slice dq dn dc, Value.int IntKind.i64 N, Value.slice kq kn kc, Value.int IntKind.i64 nm, Value.int IntKind.u8 fi] (124 : Nat)))
          fun (v72 : Value) (w73 : World) =>
          ∃ (i74 : Int),
           v72 = Value.int IntKind.i64 i74 ∧
            Keeps
              (w.alloc
               (Obj.cells #[Value.int IntKind.i64 k, Value.string s, Value.slice dq dn dc, Value.int IntKind.i64 N, Value.slice kq kn kc, Value.int IntKind.i64 nm, Value.int IntKind.u8 fi] (124 : Nat)))
              w73 [w.heap.size] ∧
             bif i74 != (0 : Int) then
              Known w73
                [(w.heap.size,
                  [((0 : Nat), Value.int IntKind.i64 k), ((1 : Nat), Value.string s), ((2 : Nat), Value.slice dq dn dc), ((3 : Nat), Value.int IntKind.i64 N), ((4 : Nat), Value.slice kq kn kc),
                   ((5 : Nat), Value.int IntKind.i64 nm), ((6 : Nat), Value.int IntKind.u8 fi)])] →
               R (Ending.returned (Value.int IntKind.i64 i74)) w73
             else
              Known w73
                [(w.heap.size,
                  [((0 : Nat), Value.int IntKind.i64 k), ((1 : Nat), Value.string s), ((2 : Nat), Value.slice dq dn dc), ((3 : Nat), Value.int IntKind.i64 N), ((4 : Nat), Value.slice kq kn kc),
                   ((5 : Nat), Value.int IntKind.i64 nm), ((6 : Nat), Value.int IntKind.u8 fi)])] →
               Rets Tryd.prog (205 : Nat) #[Value.pointer p, Value.string s] w73 fun (v75 : Value) (w76 : World) =>
                ∃ (i77 : Int),
                 v75 = Value.int IntKind.i64 i77 ∧
                  Keeps w73 w76 [w.heap.size] ∧
                   (Known w76
                     [(w.heap.size,
                      [((0 : Nat), Value.int IntKind.i64 k), ((1 : Nat), Value.string s), ((2 : Nat), Value.slice dq dn dc), ((3 : Nat), Value.int IntKind.i64 N),
                       ((4 : Nat), Value.slice kq kn kc), ((5 : Nat), Value.int IntKind.i64 nm), ((6 : Nat), Value.int IntKind.u8 fi)])] →
                    R (Ending.returned (Value.int IntKind.i64 i77)) w76)
       else
        bif k == (12 : Int) then
         bif k == (12 : Int) then
          Known
            (w.alloc (Obj.cells #[Value.int IntKind.i64 k, Value.string s, Value.slice dq dn dc, Value.int IntKind.i64 N, Value.slice kq kn kc, Value.int IntKind.i64 nm, Value.int IntKind.u8 fi] (124 : Nat)))
            [(w.heap.size,
              [((0 : Nat), Value.int IntKind.i64 k), ((1 : Nat), Value.string s), ((2 : Nat), Value.slice dq dn dc), ((3 : Nat), Value.int IntKind.i64 N), ((4 : Nat), Value.slice kq kn kc),
               ((5 : Nat), Value.int IntKind.i64 nm), ((6 : Nat), Value.int IntKind.u8 fi)])] →
           Rets Tryd.prog (206 : Nat) #[Value.pointer p]
            (w.alloc (Obj.cells #[Value.int IntKind.i64 k, Value.string s, Value.slice dq dn dc, Value.int IntKind.i64 N, Value.slice kq kn kc, Value.int IntKind.i64 nm, Value.int IntKind.u8 fi] (124 : Nat)))
            fun (v78 : Value) (w79 : World) =>
            ∃ (i80 : Int),
             v78 = Value.int IntKind.i64 i80 ∧
              Keeps
                (w.alloc
                 (Obj.cells #[Value.int IntKind.i64 k, Value.string s, Value.slice dq dn dc, Value.int IntKind.i64 N, Value.slice kq kn kc, Value.int IntKind.i64 nm, Value.int IntKind.u8 fi]
                  (124 : Nat)))
                w79 [w.heap.size] ∧
               (Known w79
                 [(w.heap.size,
                   [((0 : Nat), Value.int IntKind.i64 k), ((1 : Nat), Value.string s), ((2 : Nat), Value.slice dq dn dc), ((3 : Nat), Value.int IntKind.i64 N), ((4 : Nat), Value.slice kq kn kc),
                    ((5 : Nat), Value.int IntKind.i64 nm), ((6 : Nat), Value.int IntKind.u8 fi)])] →
                R (Ending.returned (Value.int IntKind.i64 i80)) w79)
         else
          Known
            (w.alloc (Obj.cells #[Value.int IntKind.i64 k, Value.string s, Value.slice dq dn dc, Value.int IntKind.i64 N, Value.slice kq kn kc, Value.int IntKind.i64 nm, Value.int IntKind.u8 fi] (124 : Nat)))
            [(w.heap.size,
              [((0 : Nat), Value.int IntKind.i64 k), ((1 : Nat), Value.string s), ((2 : Nat), Value.slice dq dn dc), ((3 : Nat), Value.int IntKind.i64 N), ((4 : Nat), Value.slice kq kn kc),
               ((5 : Nat), Value.int IntKind.i64 nm), ((6 : Nat), Value.int IntKind.u8 fi)])] →
           R (Ending.returned (Value.int IntKind.i64 (0 : Int)))
            (w.alloc (Obj.cells #[Value.int IntKind.i64 k, Value.string s, Value.slice dq dn dc, Value.int IntKind.i64 N, Value.slice kq kn kc, Value.int IntKind.i64 nm, Value.int IntKind.u8 fi] (124 : Nat)))
        else
         bif k == (13 : Int) then
          bif k == (13 : Int) then
           Known
             (w.alloc
              (Obj.cells #[Value.int IntKind.i64 k, Value.string s, Value.slice dq dn dc, Value.int IntKind.i64 N, Value.slice kq kn kc, Value.int IntKind.i64 nm, Value.int IntKind.u8 fi] (124 : Nat)))
             [(w.heap.size,
               [((0 : Nat), Value.int IntKind.i64 k), ((1 : Nat), Value.string s), ((2 : Nat), Value.slice dq dn dc), ((3 : Nat), Value.int IntKind.i64 N), ((4 : Nat), Value.slice kq kn kc),
                ((5 : Nat), Value.int IntKind.i64 nm), ((6 : Nat), Value.int IntKind.u8 fi)])] →
            Rets Tryd.prog (206 : Nat) #[Value.pointer p]
             (w.alloc
              (Obj.cells #[Value.int IntKind.i64 k, Value.string s, Value.slice dq dn dc, Value.int IntKind.i64 N, Value.slice kq kn kc, Value.int IntKind.i64 nm, Value.int IntKind.u8 fi] (124 : Nat)))
             fun (v81 : Value) (w82 : World) =>
             ∃ (i83 : Int),
              v81 = Value.int IntKind.i64 i83 ∧
               Keeps
                 (w.alloc
                  (Obj.cells #[Value.int IntKind.i64 k, Value.string s, Value.slice dq dn dc, Value.int IntKind.i64 N, Value.slice kq kn kc, Value.int IntKind.i64 nm, Value.int IntKind.u8 fi]
                   (124 : Nat)))
                 w82 [w.heap.size] ∧
                (Known w82
                  [(w.heap.size,
                    [((0 : Nat), Value.int IntKind.i64 k), ((1 : Nat), Value.string s), ((2 : Nat), Value.slice dq dn dc), ((3 : Nat), Value.int IntKind.i64 N), ((4 : Nat), Value.slice kq kn kc),
                     ((5 : Nat), Value.int IntKind.i64 nm), ((6 : Nat), Value.int IntKind.u8 fi)])] →
                 R (Ending.returned (Value.int IntKind.i64 i83)) w82)
          else
           Known
             (w.alloc
              (Obj.cells #[Value.int IntKind.i64 k, Value.string s, Value.slice dq dn dc, Value.int IntKind.i64 N, Value.slice kq kn kc, Value.int IntKind.i64 nm, Value.int IntKind.u8 fi] (124 : Nat)))
             [(w.heap.size,
               [((0 : Nat), Value.int IntKind.i64 k), ((1 : Nat), Value.string s), ((2 : Nat), Value.slice dq dn dc), ((3 : Nat), Value.int IntKind.i64 N), ((4 : Nat), Value.slice kq kn kc),
                ((5 : Nat), Value.int IntKind.i64 nm), ((6 : Nat), Value.int IntKind.u8 fi)])] →
            R (Ending.returned (Value.int IntKind.i64 (0 : Int)))
             (w.alloc
              (Obj.cells #[Value.int IntKind.i64 k, Value.string s, Value.slice dq dn dc, Value.int IntKind.i64 N, Value.slice kq kn kc, Value.int IntKind.i64 nm, Value.int IntKind.u8 fi] (124 : Nat)))
         else
          bif k == (14 : Int) then
           Known
             (w.alloc
              (Obj.cells #[Value.int IntKind.i64 k, Value.string s, Value.slice dq dn dc, Value.int IntKind.i64 N, Value.slice kq kn kc, Value.int IntKind.i64 nm, Value.int IntKind.u8 fi] (124 : Nat)))
             [(w.heap.size,
               [((0 : Nat), Value.int IntKind.i64 k), ((1 : Nat), Value.string s), ((2 : Nat), Value.slice dq dn dc), ((3 : Nat), Value.int IntKind.i64 N), ((4 : Nat), Value.slice kq kn kc),
                ((5 : Nat), Value.int IntKind.i64 nm), ((6 : Nat), Value.int IntKind.u8 fi)])] →
            Rets Tryd.prog (206 : Nat) #[Value.pointer p]
             (w.alloc
              (Obj.cells #[Value.int IntKind.i64 k, Value.string s, Value.slice dq dn dc, Value.int IntKind.i64 N, Value.slice kq kn kc, Value.int IntKind.i64 nm, Value.int IntKind.u8 fi] (124 : Nat)))
             fun (v84 : Value) (w85 : World) =>
             ∃ (i86 : Int),
              v84 = Value.int IntKind.i64 i86 ∧
               Keeps
                 (w.alloc
                  (Obj.cells #[Value.int IntKind.i64 k, Value.string s, Value.slice dq dn dc, Value.int IntKind.i64 N, Value.slice kq kn kc, Value.int IntKind.i64 nm, Value.int IntKind.u8 fi]
                   (124 : Nat)))
                 w85 [w.heap.size] ∧
                (Known w85
                  [(w.heap.size,
                    [((0 : Nat), Value.int IntKind.i64 k), ((1 : Nat), Value.string s), ((2 : Nat), Value.slice dq dn dc), ((3 : Nat), Value.int IntKind.i64 N), ((4 : Nat), Value.slice kq kn kc),
                     ((5 : Nat), Value.int IntKind.i64 nm), ((6 : Nat), Value.int IntKind.u8 fi)])] →
                 R (Ending.returned (Value.int IntKind.i64 i86)) w85)
          else
           Known
             (w.alloc
              (Obj.cells #[Value.int IntKind.i64 k, Value.string s, Value.slice dq dn dc, Value.int IntKind.i64 N, Value.slice kq kn kc, Value.int IntKind.i64 nm, Value.int IntKind.u8 fi] (124 : Nat)))
             [(w.heap.size,
               [((0 : Nat), Value.int IntKind.i64 k), ((1 : Nat), Value.string s), ((2 : Nat), Value.slice dq dn dc), ((3 : Nat), Value.int IntKind.i64 N), ((4 : Nat), Value.slice kq kn kc),
                ((5 : Nat), Value.int IntKind.i64 nm), ((6 : Nat), Value.int IntKind.u8 fi)])] →
            R (Ending.returned (Value.int IntKind.i64 (0 : Int)))
             (w.alloc
              (Obj.cells #[Value.int IntKind.i64 k, Value.string s, Value.slice dq dn dc, Value.int IntKind.i64 N, Value.slice kq kn kc, Value.int IntKind.i64 nm, Value.int IntKind.u8 fi] (124 : Nat)))
theorem vcTryd191 (p : Option Addr) (k : Int) (s : ByteArray) (dq : Option Addr) (dn dc : Nat) (N : Int) (kq : Option Addr) (kn kc : Nat) (nm fi : Int) (w : World) (R : Ending → World → Prop) : SX.vcFn Tryd.prog [] Tryd.f191 [.v (.pointer p), .v (.agg #[.int .i64 k, .string s, .slice dq dn dc, .int .i64 N, .slice kq kn kc, .int .i64 nm, .int .u8 fi])] [] w R = VCTryd191 p k s dq dn dc N kq kn kc nm fi w R := by kernel_rfl
def VCTryd176 (p : Option Addr) (k : Int) (s : ByteArray) (dq : Option Addr) (dn dc : Nat) (N : Int) (kq : Option Addr) (kn kc : Nat) (nm fi : Int) (x : Int) (w : World) (R : Ending → World → Prop) : Prop :=
bif decide (k < (1 : Int)) then
 Known (w.alloc (Obj.cells #[Value.int IntKind.i64 k, Value.string s, Value.slice dq dn dc, Value.int IntKind.i64 N, Value.slice kq kn kc, Value.int IntKind.i64 nm, Value.int IntKind.u8 fi] (124 : Nat)))
   [(w.heap.size,
     [((0 : Nat), Value.int IntKind.i64 k), ((1 : Nat), Value.string s), ((2 : Nat), Value.slice dq dn dc), ((3 : Nat), Value.int IntKind.i64 N), ((4 : Nat), Value.slice kq kn kc),
      ((5 : Nat), Value.int IntKind.i64 nm), ((6 : Nat), Value.int IntKind.u8 fi)])] →
  R (Ending.returned (Value.bool (x == (1 : Int))))
   (w.alloc (Obj.cells #[Value.int IntKind.i64 k, Value.string s, Value.slice dq dn dc, Value.int IntKind.i64 N, Value.slice kq kn kc, Value.int IntKind.i64 nm, Value.int IntKind.u8 fi] (124 : Nat)))
else
 bif decide (k > (18 : Int)) then
  Known (w.alloc (Obj.cells #[Value.int IntKind.i64 k, Value.string s, Value.slice dq dn dc, Value.int IntKind.i64 N, Value.slice kq kn kc, Value.int IntKind.i64 nm, Value.int IntKind.u8 fi] (124 : Nat)))
    [(w.heap.size,
      [((0 : Nat), Value.int IntKind.i64 k), ((1 : Nat), Value.string s), ((2 : Nat), Value.slice dq dn dc), ((3 : Nat), Value.int IntKind.i64 N), ((4 : Nat), Value.slice kq kn kc),
       ((5 : Nat), Value.int IntKind.i64 nm), ((6 : Nat), Value.int IntKind.u8 fi)])] →
   R (Ending.returned (Value.bool (x == (1 : Int))))
    (w.alloc (Obj.cells #[Value.int IntKind.i64 k, Value.string s, Value.slice dq dn dc, Value.int IntKind.i64 N, Value.slice kq kn kc, Value.int IntKind.i64 nm, Value.int IntKind.u8 fi] (124 : Nat)))
 else
  bif decide (k ≥ (16 : Int)) then
   Known (w.alloc (Obj.cells #[Value.int IntKind.i64 k, Value.string s, Value.slice dq dn dc, Value.int IntKind.i64 N, Value.slice kq kn kc, Value.int IntKind.i64 nm, Value.int IntKind.u8 fi] (124 : Nat)))
     [(w.heap.size,
       [((0 : Nat), Value.int IntKind.i64 k), ((1 : Nat), Value.string s), ((2 : Nat), Value.slice dq dn dc), ((3 : Nat), Value.int IntKind.i64 N), ((4 : Nat), Value.slice kq kn kc),
        ((5 : Nat), Value.int IntKind.i64 nm), ((6 : Nat), Value.int IntKind.u8 fi)])] →
    R (Ending.returned (Value.bool (x == (0 : Int))))
     (w.alloc (Obj.cells #[Value.int IntKind.i64 k, Value.string s, Value.slice dq dn dc, Value.int IntKind.i64 N, Value.slice kq kn kc, Value.int IntKind.i64 nm, Value.int IntKind.u8 fi] (124 : Nat)))
  else
   bif k == (1 : Int) then
    Known (w.alloc (Obj.cells #[Value.int IntKind.i64 k, Value.string s, Value.slice dq dn dc, Value.int IntKind.i64 N, Value.slice kq kn kc, Value.int IntKind.i64 nm, Value.int IntKind.u8 fi] (124 : Nat)))
      [(w.heap.size,
        [((0 : Nat), Value.int IntKind.i64 k), ((1 : Nat), Value.string s), ((2 : Nat), Value.slice dq dn dc), ((3 : Nat), Value.int IntKind.i64 N), ((4 : Nat), Value.slice kq kn kc),
         ((5 : Nat), Value.int IntKind.i64 nm), ((6 : Nat), Value.int IntKind.u8 fi)])] →
     Rets Tryd.prog (190 : Nat) #[Value.pointer p, Value.int IntKind.i64 x, Value.int IntKind.i64 (16 : Int), Value.int IntKind.i64 (0 : Int)]
      (w.alloc (Obj.cells #[Value.int IntKind.i64 k, Value.string s, Value.slice dq dn dc, Value.int IntKind.i64 N, Value.slice kq kn kc, Value.int IntKind.i64 nm, Value.int IntKind.u8 fi] (124 : Nat)))
      fun (v0 : Value) (w1 : World) =>
      ∃ (t2 : Bool),
       v0 = Value.bool t2 ∧
        Keeps (w.alloc (Obj.cells #[Value.int IntKind.i64 k, Value.string s, Value.slice dq dn dc, Value.int IntKind.i64 N, Value.slice kq kn kc, Value.int IntKind.i64 nm, Value.int IntKind.u8 fi] (124 : Nat)))
          w1 [w.heap.size] ∧
         (Known w1
           [(w.heap.size,
             [((0 : Nat), Value.int IntKind.i64 k), ((1 : Nat), Value.string s), ((2 : Nat), Value.slice dq dn dc), ((3 : Nat), Value.int IntKind.i64 N), ((4 : Nat), Value.slice kq kn kc),
              ((5 : Nat), Value.int IntKind.i64 nm), ((6 : Nat), Value.int IntKind.u8 fi)])] →
          R (Ending.returned (Value.bool t2)) w1)
   else
    bif k == (2 : Int) then
     SX.Ptr p fun (a3 : Addr) =>
      ∃ (t4 : Bool),
       (w.alloc (Obj.cells #[Value.int IntKind.i64 k, Value.string s, Value.slice dq dn dc, Value.int IntKind.i64 N, Value.slice kq kn kc, Value.int IntKind.i64 nm, Value.int IntKind.u8 fi] (124 : Nat))).cell?
          (a3.add (1 : Nat)) =
         some (Value.bool t4) ∧
        bif t4 then
         Known (w.alloc (Obj.cells #[Value.int IntKind.i64 k, Value.string s, Value.slice dq dn dc, Value.int IntKind.i64 N, Value.slice kq kn kc, Value.int IntKind.i64 nm, Value.int IntKind.u8 fi] (124 : Nat)))
           [(w.heap.size,
             [((0 : Nat), Value.int IntKind.i64 k), ((1 : Nat), Value.string s), ((2 : Nat), Value.slice dq dn dc), ((3 : Nat), Value.int IntKind.i64 N), ((4 : Nat), Value.slice kq kn kc),
              ((5 : Nat), Value.int IntKind.i64 nm), ((6 : Nat), Value.int IntKind.u8 fi)])] →
          R (Ending.returned (Value.bool (x == (8 : Int))))
           (w.alloc (Obj.cells #[Value.int IntKind.i64 k, Value.string s, Value.slice dq dn dc, Value.int IntKind.i64 N, Value.slice kq kn kc, Value.int IntKind.i64 nm, Value.int IntKind.u8 fi] (124 : Nat)))
        else
         bif k == (2 : Int) then
          Known
            (w.alloc (Obj.cells #[Value.int IntKind.i64 k, Value.string s, Value.slice dq dn dc, Value.int IntKind.i64 N, Value.slice kq kn kc, Value.int IntKind.i64 nm, Value.int IntKind.u8 fi] (124 : Nat)))
            [(w.heap.size,
              [((0 : Nat), Value.int IntKind.i64 k), ((1 : Nat), Value.string s), ((2 : Nat), Value.slice dq dn dc), ((3 : Nat), Value.int IntKind.i64 N), ((4 : Nat), Value.slice kq kn kc),
               ((5 : Nat), Value.int IntKind.i64 nm), ((6 : Nat), Value.int IntKind.u8 fi)])] →
           Rets Tryd.prog (190 : Nat) #[Value.pointer p, Value.int IntKind.i64 x, Value.int IntKind.i64 (0 : Int), Value.int IntKind.i64 (7 : Int)]
            (w.alloc (Obj.cells #[Value.int IntKind.i64 k, Value.string s, Value.slice dq dn dc, Value.int IntKind.i64 N, Value.slice kq kn kc, Value.int IntKind.i64 nm, Value.int IntKind.u8 fi] (124 : Nat)))
            fun (v5 : Value) (w6 : World) =>
            ∃ (t7 : Bool),
             v5 = Value.bool t7 ∧
              Keeps
                (w.alloc
                 (Obj.cells #[Value.int IntKind.i64 k, Value.string s, Value.slice dq dn dc, Value.int IntKind.i64 N, Value.slice kq kn kc, Value.int IntKind.i64 nm, Value.int IntKind.u8 fi]
                  (124 : Nat)))
                w6 [w.heap.size] ∧
               (Known w6
                 [(w.heap.size,
                   [((0 : Nat), Value.int IntKind.i64 k), ((1 : Nat), Value.string s), ((2 : Nat), Value.slice dq dn dc), ((3 : Nat), Value.int IntKind.i64 N), ((4 : Nat), Value.slice kq kn kc),
                    ((5 : Nat), Value.int IntKind.i64 nm), ((6 : Nat), Value.int IntKind.u8 fi)])] →
                R (Ending.returned (Value.bool t7)) w6)
         else
          bif k == (15 : Int) then
           Known
             (w.alloc
              (Obj.cells #[Value.int IntKind.i64 k, Value.string s, Value.slice dq dn dc, Value.int IntKind.i64 N, Value.slice kq kn kc, Value.int IntKind.i64 nm, Value.int IntKind.u8 fi] (124 : Nat)))
             [(w.heap.size,
               [((0 : Nat), Value.int IntKind.i64 k), ((1 : Nat), Value.string s), ((2 : Nat), Value.slice dq dn dc), ((3 : Nat), Value.int IntKind.i64 N), ((4 : Nat), Value.slice kq kn kc),
                ((5 : Nat), Value.int IntKind.i64 nm), ((6 : Nat), Value.int IntKind.u8 fi)])] →
            Rets Tryd.prog (190 : Nat) #[Value.pointer p, Value.int IntKind.i64 x, Value.int IntKind.i64 (0 : Int), Value.int IntKind.i64 (7 : Int)]
             (w.alloc
              (Obj.cells #[Value.int IntKind.i64 k, Value.string s, Value.slice dq dn dc, Value.int IntKind.i64 N, Value.slice kq kn kc, Value.int IntKind.i64 nm, Value.int IntKind.u8 fi] (124 : Nat)))
             fun (v8 : Value) (w9 : World) =>
             ∃ (t10 : Bool),
              v8 = Value.bool t10 ∧
               Keeps
                 (w.alloc
                  (Obj.cells #[Value.int IntKind.i64 k, Value.string s, Value.slice dq dn dc, Value.int IntKind.i64 N, Value.slice kq kn kc, Value.int IntKind.i64 nm, Value.int IntKind.u8 fi]
                   (124 : Nat)))
                 w9 [w.heap.size] ∧
                (Known w9
                  [(w.heap.size,
                    [((0 : Nat), Value.int IntKind.i64 k), ((1 : Nat), Value.string s), ((2 : Nat), Value.slice dq dn dc), ((3 : Nat), Value.int IntKind.i64 N), ((4 : Nat), Value.slice kq kn kc),
                     ((5 : Nat), Value.int IntKind.i64 nm), ((6 : Nat), Value.int IntKind.u8 fi)])] →
                 R (Ending.returned (Value.bool t10)) w9)
          else
           SX.Ptr p fun (a11 : Addr) =>
            ∃ (t12 : Bool),
             (w.alloc
                  (Obj.cells #[Value.int IntKind.i64 k, Value.string s, Value.slice dq dn dc, Value.int IntKind.i64 N, Value.slice kq kn kc, Value.int IntKind.i64 nm, Value.int IntKind.u8 fi]
                   (124 : Nat))).cell?
                (a11.add (1 : Nat)) =
               some (Value.bool t12) ∧
              bif !t12 then
               Known
                 (w.alloc
                  (Obj.cells #[Value.int IntKind.i64 k, Value.string s, Value.slice dq dn dc, Value.int IntKind.i64 N, Value.slice kq kn kc, Value.int IntKind.i64 nm, Value.int IntKind.u8 fi]
                   (124 : Nat)))
                 [(w.heap.size,
                   [((0 : Nat), Value.int IntKind.i64 k), ((1 : Nat), Value.string s), ((2 : Nat), Value.slice dq dn dc), ((3 : Nat), Value.int IntKind.i64 N), ((4 : Nat), Value.slice kq kn kc),
                    ((5 : Nat), Value.int IntKind.i64 nm), ((6 : Nat), Value.int IntKind.u8 fi)])] →
                R (Ending.returned (Value.bool (x == (12 : Int))))
                 (w.alloc
                  (Obj.cells #[Value.int IntKind.i64 k, Value.string s, Value.slice dq dn dc, Value.int IntKind.i64 N, Value.slice kq kn kc, Value.int IntKind.i64 nm, Value.int IntKind.u8 fi]
                   (124 : Nat)))
              else
               Known
                 (w.alloc
                  (Obj.cells #[Value.int IntKind.i64 k, Value.string s, Value.slice dq dn dc, Value.int IntKind.i64 N, Value.slice kq kn kc, Value.int IntKind.i64 nm, Value.int IntKind.u8 fi]
                   (124 : Nat)))
                 [(w.heap.size,
                   [((0 : Nat), Value.int IntKind.i64 k), ((1 : Nat), Value.string s), ((2 : Nat), Value.slice dq dn dc), ((3 : Nat), Value.int IntKind.i64 N), ((4 : Nat), Value.slice kq kn kc),
                    ((5 : Nat), Value.int IntKind.i64 nm), ((6 : Nat), Value.int IntKind.u8 fi)])] →
                Rets Tryd.prog (191 : Nat)
                 #[Value.pointer p,
                  Value.agg #[Value.int IntKind.i64 k, Value.string s, Value.slice dq dn dc, Value.int IntKind.i64 N, Value.slice kq kn kc, Value.int IntKind.i64 nm, Value.int IntKind.u8 fi]]
                 (w.alloc
                  (Obj.cells #[Value.int IntKind.i64 k, Value.string s, Value.slice dq dn dc, Value.int IntKind.i64 N, Value.slice kq kn kc, Value.int IntKind.i64 nm, Value.int IntKind.u8 fi]
                   (124 : Nat)))
                 fun (v13 : Value) (w14 : World) =>
                 ∃ (i15 : Int),
                  v13 = Value.int IntKind.i64 i15 ∧
                   Keeps
                     (w.alloc
                      (Obj.cells #[Value.int IntKind.i64 k, Value.string s, Value.slice dq dn dc, Value.int IntKind.i64 N, Value.slice kq kn kc, Value.int IntKind.i64 nm, Value.int IntKind.u8 fi]
                       (124 : Nat)))
                     w14 [w.heap.size] ∧
                    (Known w14
                      [(w.heap.size,
                        [((0 : Nat), Value.int IntKind.i64 k), ((1 : Nat), Value.string s), ((2 : Nat), Value.slice dq dn dc), ((3 : Nat), Value.int IntKind.i64 N),
                         ((4 : Nat), Value.slice kq kn kc), ((5 : Nat), Value.int IntKind.i64 nm), ((6 : Nat), Value.int IntKind.u8 fi)])] →
                     R (Ending.returned (Value.bool (x == i15))) w14)
    else
     bif k == (2 : Int) then
      Known (w.alloc (Obj.cells #[Value.int IntKind.i64 k, Value.string s, Value.slice dq dn dc, Value.int IntKind.i64 N, Value.slice kq kn kc, Value.int IntKind.i64 nm, Value.int IntKind.u8 fi] (124 : Nat)))
        [(w.heap.size,
          [((0 : Nat), Value.int IntKind.i64 k), ((1 : Nat), Value.string s), ((2 : Nat), Value.slice dq dn dc), ((3 : Nat), Value.int IntKind.i64 N), ((4 : Nat), Value.slice kq kn kc),
           ((5 : Nat), Value.int IntKind.i64 nm), ((6 : Nat), Value.int IntKind.u8 fi)])] →
       Rets Tryd.prog (190 : Nat) #[Value.pointer p, Value.int IntKind.i64 x, Value.int IntKind.i64 (0 : Int), Value.int IntKind.i64 (7 : Int)]
        (w.alloc (Obj.cells #[Value.int IntKind.i64 k, Value.string s, Value.slice dq dn dc, Value.int IntKind.i64 N, Value.slice kq kn kc, Value.int IntKind.i64 nm, Value.int IntKind.u8 fi] (124 : Nat)))
        fun (v16 : Value) (w17 : World) =>
        ∃ (t18 : Bool),
         v16 = Value.bool t18 ∧
          Keeps
            (w.alloc (Obj.cells #[Value.int IntKind.i64 k, Value.string s, Value.slice dq dn dc, Value.int IntKind.i64 N, Value.slice kq kn kc, Value.int IntKind.i64 nm, Value.int IntKind.u8 fi] (124 : Nat)))
            w17 [w.heap.size] ∧
           (Known w17
             [(w.heap.size,
               [((0 : Nat), Value.int IntKind.i64 k), ((1 : Nat), Value.string s), ((2 : Nat), Value.slice dq dn dc), ((3 : Nat), Value.int IntKind.i64 N), ((4 : Nat), Value.slice kq kn kc),
                ((5 : Nat), Value.int IntKind.i64 nm), ((6 : Nat), Value.int IntKind.u8 fi)])] →
            R (Ending.returned (Value.bool t18)) w17)
     else
      bif k == (15 : Int) then
       Known (w.alloc (Obj.cells #[Value.int IntKind.i64 k, Value.string s, Value.slice dq dn dc, Value.int IntKind.i64 N, Value.slice kq kn kc, Value.int IntKind.i64 nm, Value.int IntKind.u8 fi] (124 : Nat)))
         [(w.heap.size,
           [((0 : Nat), Value.int IntKind.i64 k), ((1 : Nat), Value.string s), ((2 : Nat), Value.slice dq dn dc), ((3 : Nat), Value.int IntKind.i64 N), ((4 : Nat), Value.slice kq kn kc),
            ((5 : Nat), Value.int IntKind.i64 nm), ((6 : Nat), Value.int IntKind.u8 fi)])] →
        Rets Tryd.prog (190 : Nat) #[Value.pointer p, Value.int IntKind.i64 x, Value.int IntKind.i64 (0 : Int), Value.int IntKind.i64 (7 : Int)]
         (w.alloc (Obj.cells #[Value.int IntKind.i64 k, Value.string s, Value.slice dq dn dc, Value.int IntKind.i64 N, Value.slice kq kn kc, Value.int IntKind.i64 nm, Value.int IntKind.u8 fi] (124 : Nat)))
         fun (v19 : Value) (w20 : World) =>
         ∃ (t21 : Bool),
          v19 = Value.bool t21 ∧
           Keeps
             (w.alloc
              (Obj.cells #[Value.int IntKind.i64 k, Value.string s, Value.slice dq dn dc, Value.int IntKind.i64 N, Value.slice kq kn kc, Value.int IntKind.i64 nm, Value.int IntKind.u8 fi] (124 : Nat)))
             w20 [w.heap.size] ∧
            (Known w20
              [(w.heap.size,
                [((0 : Nat), Value.int IntKind.i64 k), ((1 : Nat), Value.string s), ((2 : Nat), Value.slice dq dn dc), ((3 : Nat), Value.int IntKind.i64 N), ((4 : Nat), Value.slice kq kn kc),
                 ((5 : Nat), Value.int IntKind.i64 nm), ((6 : Nat), Value.int IntKind.u8 fi)])] →
             R (Ending.returned (Value.bool t21)) w20)
      else
       SX.Ptr p fun (a22 : Addr) =>
        ∃ (t23 : Bool),
         (w.alloc (Obj.cells #[Value.int IntKind.i64 k, Value.string s, Value.slice dq dn dc, Value.int IntKind.i64 N, Value.slice kq kn kc, Value.int IntKind.i64 nm, Value.int IntKind.u8 fi] (124 : Nat))).cell?
            (a22.add (1 : Nat)) =
           some (Value.bool t23) ∧
          bif !t23 then
           Known
             (w.alloc
              (Obj.cells #[Value.int IntKind.i64 k, Value.string s, Value.slice dq dn dc, Value.int IntKind.i64 N, Value.slice kq kn kc, Value.int IntKind.i64 nm, Value.int IntKind.u8 fi] (124 : Nat)))
             [(w.heap.size,
               [((0 : Nat), Value.int IntKind.i64 k), ((1 : Nat), Value.string s), ((2 : Nat), Value.slice dq dn dc), ((3 : Nat), Value.int IntKind.i64 N), ((4 : Nat), Value.slice kq kn kc),
                ((5 : Nat), Value.int IntKind.i64 nm), ((6 : Nat), Value.int IntKind.u8 fi)])] →
            R (Ending.returned (Value.bool (x == (12 : Int))))
             (w.alloc
              (Obj.cells #[Value.int IntKind.i64 k, Value.string s, Value.slice dq dn dc, Value.int IntKind.i64 N, Value.slice kq kn kc, Value.int IntKind.i64 nm, Value.int IntKind.u8 fi] (124 : Nat)))
          else
           Known
             (w.alloc
              (Obj.cells #[Value.int IntKind.i64 k, Value.string s, Value.slice dq dn dc, Value.int IntKind.i64 N, Value.slice kq kn kc, Value.int IntKind.i64 nm, Value.int IntKind.u8 fi] (124 : Nat)))
             [(w.heap.size,
               [((0 : Nat), Value.int IntKind.i64 k), ((1 : Nat), Value.string s), ((2 : Nat), Value.slice dq dn dc), ((3 : Nat), Value.int IntKind.i64 N), ((4 : Nat), Value.slice kq kn kc),
                ((5 : Nat), Value.int IntKind.i64 nm), ((6 : Nat), Value.int IntKind.u8 fi)])] →
            Rets Tryd.prog (191 : Nat)
             #[Value.pointer p, Value.agg #[Value.int IntKind.i64 k, Value.string s, Value.slice dq dn dc, Value.int IntKind.i64 N, Value.slice kq kn kc, Value.int IntKind.i64 nm, Value.int IntKind.u8 fi]]
             (w.alloc
              (Obj.cells #[Value.int IntKind.i64 k, Value.string s, Value.slice dq dn dc, Value.int IntKind.i64 N, Value.slice kq kn kc, Value.int IntKind.i64 nm, Value.int IntKind.u8 fi] (124 : Nat)))
             fun (v24 : Value) (w25 : World) =>
             ∃ (i26 : Int),
              v24 = Value.int IntKind.i64 i26 ∧
               Keeps
                 (w.alloc
                  (Obj.cells #[Value.int IntKind.i64 k, Value.string s, Value.slice dq dn dc, Value.int IntKind.i64 N, Value.slice kq kn kc, Value.int IntKind.i64 nm, Value.int IntKind.u8 fi]
                   (124 : Nat)))
                 w25 [w.heap.size] ∧
                (Known w25
                  [(w.heap.size,
                    [((0 : Nat), Value.int IntKind.i64 k), ((1 : Nat), Value.string s), ((2 : Nat), Value.slice dq dn dc), ((3 : Nat), Value.int IntKind.i64 N), ((4 : Nat), Value.slice kq kn kc),
                     ((5 : Nat), Value.int IntKind.i64 nm), ((6 : Nat), Value.int IntKind.u8 fi)])] →
                 R (Ending.returned (Value.bool (x == i26))) w25)
theorem vcTryd176 (p : Option Addr) (k : Int) (s : ByteArray) (dq : Option Addr) (dn dc : Nat) (N : Int) (kq : Option Addr) (kn kc : Nat) (nm fi : Int) (x : Int) (w : World) (R : Ending → World → Prop) : SX.vcFn Tryd.prog [] Tryd.f176 [.v (.pointer p), .v (.agg #[.int .i64 k, .string s, .slice dq dn dc, .int .i64 N, .slice kq kn kc, .int .i64 nm, .int .u8 fi]), .v (.int .i64 x)] [] w R = VCTryd176 p k s dq dn dc N kq kn kc nm fi x w R := by kernel_rfl
def VCTryd178 (p : Option Addr) (k : Int) (s : ByteArray) (dq : Option Addr) (dn dc : Nat) (N : Int) (kq : Option Addr) (kn kc : Nat) (nm fi : Int) (e : Int) (aq : Option Addr) (an ac : Nat) (z : Int) (nq : Option Addr) (nn nc : Nat) (lq : Option Addr) (ln lc : Nat) (re po : Bool) (w : World) (R : Ending → World → Prop) : Prop :=
bif k == (8 : Int) then
 SX.Ptr p fun (a0 : Addr) =>
  ∃ (q1 : Option Addr),
   ∃ (n2 : Nat),
    ∃ (n3 : Nat),
     ((w.alloc (Obj.cells #[Value.int IntKind.i64 k, Value.string s, Value.slice dq dn dc, Value.int IntKind.i64 N, Value.slice kq kn kc, Value.int IntKind.i64 nm, Value.int IntKind.u8 fi] (124 : Nat))).alloc
           (Obj.cells #[Value.int IntKind.i64 e, Value.slice aq an ac, Value.int IntKind.i64 z, Value.slice nq nn nc, Value.slice lq ln lc, Value.bool re, Value.bool po] (126 : Nat))).drew.cell?
        (a0.add (4 : Nat)) =
       some (Value.slice q1 n2 n3) ∧
      (Known
        ((w.alloc (Obj.cells #[Value.int IntKind.i64 k, Value.string s, Value.slice dq dn dc, Value.int IntKind.i64 N, Value.slice kq kn kc, Value.int IntKind.i64 nm, Value.int IntKind.u8 fi] (124 : Nat))).alloc
          (Obj.cells #[Value.int IntKind.i64 e, Value.slice aq an ac, Value.int IntKind.i64 z, Value.slice nq nn nc, Value.slice lq ln lc, Value.bool re, Value.bool po] (126 : Nat))).drew
        [(w.heap.size,
          [((0 : Nat), Value.int IntKind.i64 k), ((1 : Nat), Value.string s), ((2 : Nat), Value.slice dq dn dc), ((3 : Nat), Value.int IntKind.i64 N), ((4 : Nat), Value.slice kq kn kc),
           ((5 : Nat), Value.int IntKind.i64 nm), ((6 : Nat), Value.int IntKind.u8 fi)]),
         ((w.alloc
             (Obj.cells #[Value.int IntKind.i64 k, Value.string s, Value.slice dq dn dc, Value.int IntKind.i64 N, Value.slice kq kn kc, Value.int IntKind.i64 nm, Value.int IntKind.u8 fi]
              (124 : Nat))).heap.size,
          [((0 : Nat), Value.int IntKind.i64 e), ((1 : Nat), Value.slice aq an ac), ((2 : Nat), Value.int IntKind.i64 z), ((3 : Nat), Value.slice nq nn nc), ((4 : Nat), Value.slice lq ln lc),
           ((5 : Nat), Value.bool re), ((6 : Nat), Value.bool po)])] →
       Rets Tryd.prog (88 : Nat) #[Value.slice q1 n2 n3, Value.string s]
        ((w.alloc (Obj.cells #[Value.int IntKind.i64 k, Value.string s, Value.slice dq dn dc, Value.int IntKind.i64 N, Value.slice kq kn kc, Value.int IntKind.i64 nm, Value.int IntKind.u8 fi] (124 : Nat))).alloc
          (Obj.cells #[Value.int IntKind.i64 e, Value.slice aq an ac, Value.int IntKind.i64 z, Value.slice nq nn nc, Value.slice lq ln lc, Value.bool re, Value.bool po] (126 : Nat))).drew
        fun (v4 : Value) (w5 : World) =>
        ∃ (q6 : Option Addr),
         ∃ (n7 : Nat),
          ∃ (n8 : Nat),
           ∃ (t9 : Bool),
            v4 = Value.tuple #[Value.slice q6 n7 n8, Value.bool t9] ∧
             Keeps
               ((w.alloc
                   (Obj.cells #[Value.int IntKind.i64 k, Value.string s, Value.slice dq dn dc, Value.int IntKind.i64 N, Value.slice kq kn kc, Value.int IntKind.i64 nm, Value.int IntKind.u8 fi]
                    (124 : Nat))).alloc
                 (Obj.cells #[Value.int IntKind.i64 e, Value.slice aq an ac, Value.int IntKind.i64 z, Value.slice nq nn nc, Value.slice lq ln lc, Value.bool re, Value.bool po] (126 : Nat))).drew
               w5
               [w.heap.size,
                (w.alloc
                   (Obj.cells #[Value.int IntKind.i64 k, Value.string s, Value.slice dq dn dc, Value.int IntKind.i64 N, Value.slice kq kn kc, Value.int IntKind.i64 nm, Value.int IntKind.u8 fi]
                    (124 : Nat))).heap.size] ∧
              ∃ (s10 : ByteArray),
               s10.size = n7 ∧
                BytesAt w5 q6 s10 ∧
                 ∃ (s11 : ByteArray),
                  s11.size = an ∧
                   BytesAt w5 aq s11 ∧
                    bif s10.toList == s11.toList then
                     Known
                       (w5.setCell
                        {
                         block :=
                          (w.alloc
                             (Obj.cells
                              #[Value.int IntKind.i64 k, Value.string s, Value.slice dq dn dc, Value.int IntKind.i64 N, Value.slice kq kn kc, Value.int IntKind.i64 nm,
                               Value.int IntKind.u8 fi]
                              (124 : Nat))).heap.size,
                         off := (1 : Nat) }
                        (Value.slice none (0 : Nat) (0 : Nat)))
                       [(w.heap.size,
                         [((0 : Nat), Value.int IntKind.i64 k), ((1 : Nat), Value.string s), ((2 : Nat), Value.slice dq dn dc), ((3 : Nat), Value.int IntKind.i64 N),
                          ((4 : Nat), Value.slice kq kn kc), ((5 : Nat), Value.int IntKind.i64 nm), ((6 : Nat), Value.int IntKind.u8 fi)]),
                        ((w.alloc
                            (Obj.cells
                             #[Value.int IntKind.i64 k, Value.string s, Value.slice dq dn dc, Value.int IntKind.i64 N, Value.slice kq kn kc, Value.int IntKind.i64 nm, Value.int IntKind.u8 fi]
                             (124 : Nat))).heap.size,
                         [((0 : Nat), Value.int IntKind.i64 e), ((1 : Nat), Value.slice none (0 : Nat) (0 : Nat)), ((2 : Nat), Value.int IntKind.i64 z), ((3 : Nat), Value.slice nq nn nc),
                          ((4 : Nat), Value.slice lq ln lc), ((5 : Nat), Value.bool re), ((6 : Nat), Value.bool po)])] →
                      Rets Tryd.prog (177 : Nat)
                       #[Value.agg
                         #[Value.int IntKind.i64 e, Value.slice none (0 : Nat) (0 : Nat), Value.int IntKind.i64 z, Value.slice nq nn nc, Value.slice lq ln lc, Value.bool re, Value.bool po]]
                       (w5.setCell
                        {
                         block :=
                          (w.alloc
                             (Obj.cells
                              #[Value.int IntKind.i64 k, Value.string s, Value.slice dq dn dc, Value.int IntKind.i64 N, Value.slice kq kn kc, Value.int IntKind.i64 nm,
                               Value.int IntKind.u8 fi]
                              (124 : Nat))).heap.size,
                         off := (1 : Nat) }
                        (Value.slice none (0 : Nat) (0 : Nat)))
                       fun (v12 : Value) (w13 : World) =>
                       ∃ (t14 : Bool),
                        v12 = Value.bool t14 ∧
                         Keeps
                           (w5.setCell
                            {
                             block :=
                              (w.alloc
                                 (Obj.cells
                                  #[Value.int IntKind.i64 k, Value.string s, Value.slice dq dn dc, Value.int IntKind.i64 N, Value.slice kq kn kc, Value.int IntKind.i64 nm,
                                   Value.int IntKind.u8 fi]
                                  (124 : Nat))).heap.size,
                             off := (1 : Nat) }
                            (Value.slice none (0 : Nat) (0 : Nat)))
                           w13
                           [w.heap.size,
                            (w.alloc
                               (Obj.cells
                                #[Value.int IntKind.i64 k, Value.string s, Value.slice dq dn dc, Value.int IntKind.i64 N, Value.slice kq kn kc, Value.int IntKind.i64 nm,
                                 Value.int IntKind.u8 fi]
                                (124 : Nat))).heap.size] ∧
                          (Known w13
                            [(w.heap.size,
                              [((0 : Nat), Value.int IntKind.i64 k), ((1 : Nat), Value.string s), ((2 : Nat), Value.slice dq dn dc), ((3 : Nat), Value.int IntKind.i64 N),
                               ((4 : Nat), Value.slice kq kn kc), ((5 : Nat), Value.int IntKind.i64 nm), ((6 : Nat), Value.int IntKind.u8 fi)]),
                             ((w.alloc
                                 (Obj.cells
                                  #[Value.int IntKind.i64 k, Value.string s, Value.slice dq dn dc, Value.int IntKind.i64 N, Value.slice kq kn kc, Value.int IntKind.i64 nm,
                                   Value.int IntKind.u8 fi]
                                  (124 : Nat))).heap.size,
                              [((0 : Nat), Value.int IntKind.i64 e), ((1 : Nat), Value.slice none (0 : Nat) (0 : Nat)), ((2 : Nat), Value.int IntKind.i64 z),
                               ((3 : Nat), Value.slice nq nn nc), ((4 : Nat), Value.slice lq ln lc), ((5 : Nat), Value.bool re), ((6 : Nat), Value.bool po)])] →
                           R (Ending.returned (Value.bool t14)) w13)
                    else
                     Known
                       (w5.setCell
                        {
                         block :=
                          (w.alloc
                             (Obj.cells
                              #[Value.int IntKind.i64 k, Value.string s, Value.slice dq dn dc, Value.int IntKind.i64 N, Value.slice kq kn kc, Value.int IntKind.i64 nm,
                               Value.int IntKind.u8 fi]
                              (124 : Nat))).heap.size,
                         off := (1 : Nat) }
                        (Value.slice none (0 : Nat) (0 : Nat)))
                       [(w.heap.size,
                         [((0 : Nat), Value.int IntKind.i64 k), ((1 : Nat), Value.string s), ((2 : Nat), Value.slice dq dn dc), ((3 : Nat), Value.int IntKind.i64 N),
                          ((4 : Nat), Value.slice kq kn kc), ((5 : Nat), Value.int IntKind.i64 nm), ((6 : Nat), Value.int IntKind.u8 fi)]),
                        ((w.alloc
                            (Obj.cells
                             #[Value.int IntKind.i64 k, Value.string s, Value.slice dq dn dc, Value.int IntKind.i64 N, Value.slice kq kn kc, Value.int IntKind.i64 nm, Value.int IntKind.u8 fi]
                             (124 : Nat))).heap.size,
                         [((0 : Nat), Value.int IntKind.i64 e), ((1 : Nat), Value.slice none (0 : Nat) (0 : Nat)), ((2 : Nat), Value.int IntKind.i64 z), ((3 : Nat), Value.slice nq nn nc),
                          ((4 : Nat), Value.slice lq ln lc), ((5 : Nat), Value.bool re), ((6 : Nat), Value.bool po)])] →
                      R (Ending.returned (Value.bool false))
                       (w5.setCell
                        {
                         block :=
                          (w.alloc
                             (Obj.cells
                              #[Value.int IntKind.i64 k, Value.string s, Value.slice dq dn dc, Value.int IntKind.i64 N, Value.slice kq kn kc, Value.int IntKind.i64 nm,
                               Value.int IntKind.u8 fi]
                              (124 : Nat))).heap.size,
                         off := (1 : Nat) }
                        (Value.slice none (0 : Nat) (0 : Nat))))
else
 bif k == (9 : Int) then
  SX.Ptr p fun (a15 : Addr) =>
   ∃ (q16 : Option Addr),
    ∃ (n17 : Nat),
     ∃ (n18 : Nat),
      ((w.alloc (Obj.cells #[Value.int IntKind.i64 k, Value.string s, Value.slice dq dn dc, Value.int IntKind.i64 N, Value.slice kq kn kc, Value.int IntKind.i64 nm, Value.int IntKind.u8 fi] (124 : Nat))).alloc
            (Obj.cells #[Value.int IntKind.i64 e, Value.slice aq an ac, Value.int IntKind.i64 z, Value.slice nq nn nc, Value.slice lq ln lc, Value.bool re, Value.bool po] (126 : Nat))).drew.cell?
         (a15.add (4 : Nat)) =
        some (Value.slice q16 n17 n18) ∧
       (Known
         ((w.alloc
             (Obj.cells #[Value.int IntKind.i64 k, Value.string s, Value.slice dq dn dc, Value.int IntKind.i64 N, Value.slice kq kn kc, Value.int IntKind.i64 nm, Value.int IntKind.u8 fi] (124 : Nat))).alloc
           (Obj.cells #[Value.int IntKind.i64 e, Value.slice aq an ac, Value.int IntKind.i64 z, Value.slice nq nn nc, Value.slice lq ln lc, Value.bool re, Value.bool po] (126 : Nat))).drew
         [(w.heap.size,
           [((0 : Nat), Value.int IntKind.i64 k), ((1 : Nat), Value.string s), ((2 : Nat), Value.slice dq dn dc), ((3 : Nat), Value.int IntKind.i64 N), ((4 : Nat), Value.slice kq kn kc),
            ((5 : Nat), Value.int IntKind.i64 nm), ((6 : Nat), Value.int IntKind.u8 fi)]),
          ((w.alloc
              (Obj.cells #[Value.int IntKind.i64 k, Value.string s, Value.slice dq dn dc, Value.int IntKind.i64 N, Value.slice kq kn kc, Value.int IntKind.i64 nm, Value.int IntKind.u8 fi]
               (124 : Nat))).heap.size,
           [((0 : Nat), Value.int IntKind.i64 e), ((1 : Nat), Value.slice aq an ac), ((2 : Nat), Value.int IntKind.i64 z), ((3 : Nat), Value.slice nq nn nc), ((4 : Nat), Value.slice lq ln lc),
            ((5 : Nat), Value.bool re), ((6 : Nat), Value.bool po)])] →
        Rets Tryd.prog (88 : Nat) #[Value.slice q16 n17 n18, Value.string s]
         ((w.alloc
             (Obj.cells #[Value.int IntKind.i64 k, Value.string s, Value.slice dq dn dc, Value.int IntKind.i64 N, Value.slice kq kn kc, Value.int IntKind.i64 nm, Value.int IntKind.u8 fi] (124 : Nat))).alloc
           (Obj.cells #[Value.int IntKind.i64 e, Value.slice aq an ac, Value.int IntKind.i64 z, Value.slice nq nn nc, Value.slice lq ln lc, Value.bool re, Value.bool po] (126 : Nat))).drew
         fun (v19 : Value) (w20 : World) =>
         ∃ (q21 : Option Addr),
          ∃ (n22 : Nat),
           ∃ (n23 : Nat),
            ∃ (t24 : Bool),
             v19 = Value.tuple #[Value.slice q21 n22 n23, Value.bool t24] ∧
              Keeps
                ((w.alloc
                    (Obj.cells #[Value.int IntKind.i64 k, Value.string s, Value.slice dq dn dc, Value.int IntKind.i64 N, Value.slice kq kn kc, Value.int IntKind.i64 nm, Value.int IntKind.u8 fi]
                     (124 : Nat))).alloc
                  (Obj.cells #[Value.int IntKind.i64 e, Value.slice aq an ac, Value.int IntKind.i64 z, Value.slice nq nn nc, Value.slice lq ln lc, Value.bool re, Value.bool po] (126 : Nat))).drew
                w20
                [w.heap.size,
                 (w.alloc
                    (Obj.cells #[Value.int IntKind.i64 k, Value.string s, Value.slice dq dn dc, Value.int IntKind.i64 N, Value.slice kq kn kc, Value.int IntKind.i64 nm, Value.int IntKind.u8 fi]
                     (124 : Nat))).heap.size] ∧
               bif z == (↑n22 : Int) then
                Known
                  (w20.setCell
                   {
                    block :=
                     (w.alloc
                        (Obj.cells
                         #[Value.int IntKind.i64 k, Value.string s, Value.slice dq dn dc, Value.int IntKind.i64 N, Value.slice kq kn kc, Value.int IntKind.i64 nm, Value.int IntKind.u8 fi]
                         (124 : Nat))).heap.size,
                    off := (2 : Nat) }
                   (Value.int IntKind.i64 (0 : Int)))
                  [(w.heap.size,
                    [((0 : Nat), Value.int IntKind.i64 k), ((1 : Nat), Value.string s), ((2 : Nat), Value.slice dq dn dc), ((3 : Nat), Value.int IntKind.i64 N), ((4 : Nat), Value.slice kq kn kc),
                     ((5 : Nat), Value.int IntKind.i64 nm), ((6 : Nat), Value.int IntKind.u8 fi)]),
                   ((w.alloc
                       (Obj.cells #[Value.int IntKind.i64 k, Value.string s, Value.slice dq dn dc, Value.int IntKind.i64 N, Value.slice kq kn kc, Value.int IntKind.i64 nm, Value.int IntKind.u8 fi]
                        (124 : Nat))).heap.size,
                    [((0 : Nat), Value.int IntKind.i64 e), ((1 : Nat), Value.slice aq an ac), ((2 : Nat), Value.int IntKind.i64 (0 : Int)), ((3 : Nat), Value.slice nq nn nc),
                     ((4 : Nat), Value.slice lq ln lc), ((5 : Nat), Value.bool re), ((6 : Nat), Value.bool po)])] →
                 Rets Tryd.prog (177 : Nat)
                  #[Value.agg #[Value.int IntKind.i64 e, Value.slice aq an ac, Value.int IntKind.i64 (0 : Int), Value.slice nq nn nc, Value.slice lq ln lc, Value.bool re, Value.bool po]]
                  (w20.setCell
                   {
                    block :=
                     (w.alloc
                        (Obj.cells
                         #[Value.int IntKind.i64 k, Value.string s, Value.slice dq dn dc, Value.int IntKind.i64 N, Value.slice kq kn kc, Value.int IntKind.i64 nm, Value.int IntKind.u8 fi]
                         (124 : Nat))).heap.size,
                    off := (2 : Nat) }
                   (Value.int IntKind.i64 (0 : Int)))
                  fun (v25 : Value) (w26 : World) =>
                  ∃ (t27 : Bool),
                   v25 = Value.bool t27 ∧
                    Keeps
                      (w20.setCell
                       {
                        block :=
                         (w.alloc
                            (Obj.cells
                             #[Value.int IntKind.i64 k, Value.string s, Value.slice dq dn dc, Value.int IntKind.i64 N, Value.slice kq kn kc, Value.int IntKind.i64 nm, Value.int IntKind.u8 fi]
                             (124 : Nat))).heap.size,
                        off := (2 : Nat) }
                       (Value.int IntKind.i64 (0 : Int)))
                      w26
                      [w.heap.size,
                       (w.alloc
                          (Obj.cells
                           #[Value.int IntKind.i64 k, Value.string s, Value.slice dq dn dc, Value.int IntKind.i64 N, Value.slice kq kn kc, Value.int IntKind.i64 nm, Value.int IntKind.u8 fi]
                           (124 : Nat))).heap.size] ∧
                     (Known w26
                       [(w.heap.size,
                         [((0 : Nat), Value.int IntKind.i64 k), ((1 : Nat), Value.string s), ((2 : Nat), Value.slice dq dn dc), ((3 : Nat), Value.int IntKind.i64 N),
                          ((4 : Nat), Value.slice kq kn kc), ((5 : Nat), Value.int IntKind.i64 nm), ((6 : Nat), Value.int IntKind.u8 fi)]),
                        ((w.alloc
                            (Obj.cells
                             #[Value.int IntKind.i64 k, Value.string s, Value.slice dq dn dc, Value.int IntKind.i64 N, Value.slice kq kn kc, Value.int IntKind.i64 nm, Value.int IntKind.u8 fi]
                             (124 : Nat))).heap.size,
                         [((0 : Nat), Value.int IntKind.i64 e), ((1 : Nat), Value.slice aq an ac), ((2 : Nat), Value.int IntKind.i64 (0 : Int)), ((3 : Nat), Value.slice nq nn nc),
                          ((4 : Nat), Value.slice lq ln lc), ((5 : Nat), Value.bool re), ((6 : Nat), Value.bool po)])] →
                      R (Ending.returned (Value.bool t27)) w26)
               else
                Known
                  (w20.setCell
                   {
                    block :=
                     (w.alloc
                        (Obj.cells
                         #[Value.int IntKind.i64 k, Value.string s, Value.slice dq dn dc, Value.int IntKind.i64 N, Value.slice kq kn kc, Value.int IntKind.i64 nm, Value.int IntKind.u8 fi]
                         (124 : Nat))).heap.size,
                    off := (2 : Nat) }
                   (Value.int IntKind.i64 (0 : Int)))
                  [(w.heap.size,
                    [((0 : Nat), Value.int IntKind.i64 k), ((1 : Nat), Value.string s), ((2 : Nat), Value.slice dq dn dc), ((3 : Nat), Value.int IntKind.i64 N), ((4 : Nat), Value.slice kq kn kc),
                     ((5 : Nat), Value.int IntKind.i64 nm), ((6 : Nat), Value.int IntKind.u8 fi)]),
                   ((w.alloc
                       (Obj.cells #[Value.int IntKind.i64 k, Value.string s, Value.slice dq dn dc, Value.int IntKind.i64 N, Value.slice kq kn kc, Value.int IntKind.i64 nm, Value.int IntKind.u8 fi]
                        (124 : Nat))).heap.size,
                    [((0 : Nat), Value.int IntKind.i64 e), ((1 : Nat), Value.slice aq an ac), ((2 : Nat), Value.int IntKind.i64 (0 : Int)), ((3 : Nat), Value.slice nq nn nc),
                     ((4 : Nat), Value.slice lq ln lc), ((5 : Nat), Value.bool re), ((6 : Nat), Value.bool po)])] →
                 R (Ending.returned (Value.bool false))
                  (w20.setCell
                   {
                    block :=
                     (w.alloc
                        (Obj.cells
                         #[Value.int IntKind.i64 k, Value.string s, Value.slice dq dn dc, Value.int IntKind.i64 N, Value.slice kq kn kc, Value.int IntKind.i64 nm, Value.int IntKind.u8 fi]
                         (124 : Nat))).heap.size,
                    off := (2 : Nat) }
                   (Value.int IntKind.i64 (0 : Int))))
 else
  bif k == (10 : Int) then
   SX.Ptr p fun (a28 : Addr) =>
    ∃ (q29 : Option Addr),
     ∃ (n30 : Nat),
      ∃ (n31 : Nat),
       ((w.alloc (Obj.cells #[Value.int IntKind.i64 k, Value.string s, Value.slice dq dn dc, Value.int IntKind.i64 N, Value.slice kq kn kc, Value.int IntKind.i64 nm, Value.int IntKind.u8 fi] (124 : Nat))).alloc
             (Obj.cells #[Value.int IntKind.i64 e, Value.slice aq an ac, Value.int IntKind.i64 z, Value.slice nq nn nc, Value.slice lq ln lc, Value.bool re, Value.bool po] (126 : Nat))).drew.cell?
          (a28.add (4 : Nat)) =
         some (Value.slice q29 n30 n31) ∧
        (Known
          ((w.alloc
              (Obj.cells #[Value.int IntKind.i64 k, Value.string s, Value.slice dq dn dc, Value.int IntKind.i64 N, Value.slice kq kn kc, Value.int IntKind.i64 nm, Value.int IntKind.u8 fi]
               (124 : Nat))).alloc
            (Obj.cells #[Value.int IntKind.i64 e, Value.slice aq an ac, Value.int IntKind.i64 z, Value.slice nq nn nc, Value.slice lq ln lc, Value.bool re, Value.bool po] (126 : Nat))).drew
          [(w.heap.size,
            [((0 : Nat), Value.int IntKind.i64 k), ((1 : Nat), Value.string s), ((2 : Nat), Value.slice dq dn dc), ((3 : Nat), Value.int IntKind.i64 N), ((4 : Nat), Value.slice kq kn kc),
             ((5 : Nat), Value.int IntKind.i64 nm), ((6 : Nat), Value.int IntKind.u8 fi)]),
           ((w.alloc
               (Obj.cells #[Value.int IntKind.i64 k, Value.string s, Value.slice dq dn dc, Value.int IntKind.i64 N, Value.slice kq kn kc, Value.int IntKind.i64 nm, Value.int IntKind.u8 fi]
                (124 : Nat))).heap.size,
            [((0 : Nat), Value.int IntKind.i64 e), ((1 : Nat), Value.slice aq an ac), ((2 : Nat), Value.int IntKind.i64 z), ((3 : Nat), Value.slice nq nn nc), ((4 : Nat), Value.slice lq ln lc),
             ((5 : Nat), Value.bool re), ((6 : Nat), Value.bool po)])] →
         Rets Tryd.prog (193 : Nat) #[Value.slice q29 n30 n31, Value.string s]
          ((w.alloc
              (Obj.cells #[Value.int IntKind.i64 k, Value.string s, Value.slice dq dn dc, Value.int IntKind.i64 N, Value.slice kq kn kc, Value.int IntKind.i64 nm, Value.int IntKind.u8 fi]
               (124 : Nat))).alloc
            (Obj.cells #[Value.int IntKind.i64 e, Value.slice aq an ac, Value.int IntKind.i64 z, Value.slice nq nn nc, Value.slice lq ln lc, Value.bool re, Value.bool po] (126 : Nat))).drew
          fun (v32 : Value) (w33 : World) =>
          ∃ (q34 : Option Addr),
           ∃ (n35 : Nat),
            ∃ (n36 : Nat),
             v32 = Value.slice q34 n35 n36 ∧
              Keeps
                ((w.alloc
                    (Obj.cells #[Value.int IntKind.i64 k, Value.string s, Value.slice dq dn dc, Value.int IntKind.i64 N, Value.slice kq kn kc, Value.int IntKind.i64 nm, Value.int IntKind.u8 fi]
                     (124 : Nat))).alloc
                  (Obj.cells #[Value.int IntKind.i64 e, Value.slice aq an ac, Value.int IntKind.i64 z, Value.slice nq nn nc, Value.slice lq ln lc, Value.bool re, Value.bool po] (126 : Nat))).drew
                w33
                [w.heap.size,
                 (w.alloc
                    (Obj.cells #[Value.int IntKind.i64 k, Value.string s, Value.slice dq dn dc, Value.int IntKind.i64 N, Value.slice kq kn kc, Value.int IntKind.i64 nm, Value.int IntKind.u8 fi]
                     (124 : Nat))).heap.size] ∧
               w33.cell?
                  {
                   block :=
                    (w.alloc
                       (Obj.cells #[Value.int IntKind.i64 k, Value.string s, Value.slice dq dn dc, Value.int IntKind.i64 N, Value.slice kq kn kc, Value.int IntKind.i64 nm, Value.int IntKind.u8 fi]
                        (124 : Nat))).heap.size,
                   off := (3 : Nat) } =
                 some (Value.slice nq nn nc) ∧
                (Known w33
                  [(w.heap.size,
                    [((0 : Nat), Value.int IntKind.i64 k), ((1 : Nat), Value.string s), ((2 : Nat), Value.slice dq dn dc), ((3 : Nat), Value.int IntKind.i64 N), ((4 : Nat), Value.slice kq kn kc),
                     ((5 : Nat), Value.int IntKind.i64 nm), ((6 : Nat), Value.int IntKind.u8 fi)]),
                   ((w.alloc
                       (Obj.cells #[Value.int IntKind.i64 k, Value.string s, Value.slice dq dn dc, Value.int IntKind.i64 N, Value.slice kq kn kc, Value.int IntKind.i64 nm, Value.int IntKind.u8 fi]
                        (124 : Nat))).heap.size,
                    [((0 : Nat), Value.int IntKind.i64 e), ((1 : Nat), Value.slice aq an ac), ((2 : Nat), Value.int IntKind.i64 z), ((3 : Nat), Value.slice nq nn nc),
                     ((4 : Nat), Value.slice lq ln lc), ((5 : Nat), Value.bool re), ((6 : Nat), Value.bool po)])] →
                 Rets Tryd.prog (192 : Nat) #[Value.slice nq nn nc, Value.slice q34 n35 n36] w33 fun (v37 : Value) (w38 : World) =>
                  ∃ (t39 : Bool),
                   v37 = Value.bool t39 ∧
                    Keeps w33 w38
                      [w.heap.size,
                       (w.alloc
                          (Obj.cells
                           #[Value.int IntKind.i64 k, Value.string s, Value.slice dq dn dc, Value.int IntKind.i64 N, Value.slice kq kn kc, Value.int IntKind.i64 nm, Value.int IntKind.u8 fi]
                           (124 : Nat))).heap.size] ∧
                     bif t39 then
                      Known
                        (w38.setCell
                         {
                          block :=
                           (w.alloc
                              (Obj.cells
                               #[Value.int IntKind.i64 k, Value.string s, Value.slice dq dn dc, Value.int IntKind.i64 N, Value.slice kq kn kc, Value.int IntKind.i64 nm,
                                Value.int IntKind.u8 fi]
                               (124 : Nat))).heap.size,
                          off := (3 : Nat) }
                         (Value.slice none (0 : Nat) (0 : Nat)))
                        [(w.heap.size,
                          [((0 : Nat), Value.int IntKind.i64 k), ((1 : Nat), Value.string s), ((2 : Nat), Value.slice dq dn dc), ((3 : Nat), Value.int IntKind.i64 N),
                           ((4 : Nat), Value.slice kq kn kc), ((5 : Nat), Value.int IntKind.i64 nm), ((6 : Nat), Value.int IntKind.u8 fi)]),
                         ((w.alloc
                             (Obj.cells
                              #[Value.int IntKind.i64 k, Value.string s, Value.slice dq dn dc, Value.int IntKind.i64 N, Value.slice kq kn kc, Value.int IntKind.i64 nm,
                               Value.int IntKind.u8 fi]
                              (124 : Nat))).heap.size,
                          [((0 : Nat), Value.int IntKind.i64 e), ((1 : Nat), Value.slice aq an ac), ((2 : Nat), Value.int IntKind.i64 z), ((3 : Nat), Value.slice none (0 : Nat) (0 : Nat)),
                           ((4 : Nat), Value.slice lq ln lc), ((5 : Nat), Value.bool re), ((6 : Nat), Value.bool po)])] →
                       Rets Tryd.prog (177 : Nat)
                        #[Value.agg
                          #[Value.int IntKind.i64 e, Value.slice aq an ac, Value.int IntKind.i64 z, Value.slice none (0 : Nat) (0 : Nat), Value.slice lq ln lc, Value.bool re, Value.bool po]]
                        (w38.setCell
                         {
                          block :=
                           (w.alloc
                              (Obj.cells
                               #[Value.int IntKind.i64 k, Value.string s, Value.slice dq dn dc, Value.int IntKind.i64 N, Value.slice kq kn kc, Value.int IntKind.i64 nm,
                                Value.int IntKind.u8 fi]
                               (124 : Nat))).heap.size,
                          off := (3 : Nat) }
                         (Value.slice none (0 : Nat) (0 : Nat)))
                        fun (v40 : Value) (w41 : World) =>
                        ∃ (t42 : Bool),
                         v40 = Value.bool t42 ∧
                          Keeps
                            (w38.setCell
                             {
                              block :=
                               (w.alloc
                                  (Obj.cells
                                   #[Value.int IntKind.i64 k, Value.string s, Value.slice dq dn dc, Value.int IntKind.i64 N, Value.slice kq kn kc, Value.int IntKind.i64 nm,
                                    Value.int IntKind.u8 fi]
                                   (124 : Nat))).heap.size,
                              off := (3 : Nat) }
                             (Value.slice none (0 : Nat) (0 : Nat)))
                            w41
                            [w.heap.size,
                             (w.alloc
                                (Obj.cells
                                 #[Value.int IntKind.i64 k, Value.string s, Value.slice dq dn dc, Value.int IntKind.i64 N, Value.slice kq kn kc, Value.int IntKind.i64 nm,
                                  Value.int IntKind.u8 fi]
                                 (124 : Nat))).heap.size] ∧
                           (Known w41
                             [(w.heap.size,
                               [((0 : Nat), Value.int IntKind.i64 k), ((1 : Nat), Value.string s), ((2 : Nat), Value.slice dq dn dc), ((3 : Nat), Value.int IntKind.i64 N),
                                ((4 : Nat), Value.slice kq kn kc), ((5 : Nat), Value.int IntKind.i64 nm), ((6 : Nat), Value.int IntKind.u8 fi)]),
                              ((w.alloc
                                  (Obj.cells
                                   #[Value.int IntKind.i64 k, Value.string s, Value.slice dq dn dc, Value.int IntKind.i64 N, Value.slice kq kn kc, Value.int IntKind.i64 nm,
                                    Value.int IntKind.u8 fi]
                                   (124 : Nat))).heap.size,
                               [((0 : Nat), Value.int IntKind.i64 e), ((1 : Nat), Value.slice aq an ac), ((2 : Nat), Value.int IntKind.i64 z),
                                ((3 : Nat), Value.slice none (0 : Nat) (0 : Nat)), ((4 : Nat), Value.slice lq ln lc), ((5 : Nat), Value.bool re), ((6 : Nat), Value.bool po)])] →
                            R (Ending.returned (Value.bool t42)) w41)
                     else
                      Known
                        (w38.setCell
                         {
                          block :=
                           (w.alloc
                              (Obj.cells
                               #[Value.int IntKind.i64 k, Value.string s, Value.slice dq dn dc, Value.int IntKind.i64 N, Value.slice kq kn kc, Value.int IntKind.i64 nm,
                                Value.int IntKind.u8 fi]
                               (124 : Nat))).heap.size,
                          off := (3 : Nat) }
                         (Value.slice none (0 : Nat) (0 : Nat)))
                        [(w.heap.size,
                          [((0 : Nat), Value.int IntKind.i64 k), ((1 : Nat), Value.string s), ((2 : Nat), Value.slice dq dn dc), ((3 : Nat), Value.int IntKind.i64 N),
                           ((4 : Nat), Value.slice kq kn kc), ((5 : Nat), Value.int IntKind.i64 nm), ((6 : Nat), Value.int IntKind.u8 fi)]),
                         ((w.alloc
                             (Obj.cells
                              #[Value.int IntKind.i64 k, Value.string s, Value.slice dq dn dc, Value.int IntKind.i64 N, Value.slice kq kn kc, Value.int IntKind.i64 nm,
                               Value.int IntKind.u8 fi]
                              (124 : Nat))).heap.size,
                          [((0 : Nat), Value.int IntKind.i64 e), ((1 : Nat), Value.slice aq an ac), ((2 : Nat), Value.int IntKind.i64 z), ((3 : Nat), Value.slice none (0 : Nat) (0 : Nat)),
                           ((4 : Nat), Value.slice lq ln lc), ((5 : Nat), Value.bool re), ((6 : Nat), Value.bool po)])] →
                       R (Ending.returned (Value.bool false))
                        (w38.setCell
                         {
                          block :=
                           (w.alloc
                              (Obj.cells
                               #[Value.int IntKind.i64 k, Value.string s, Value.slice dq dn dc, Value.int IntKind.i64 N, Value.slice kq kn kc, Value.int IntKind.i64 nm,
                                Value.int IntKind.u8 fi]
                               (124 : Nat))).heap.size,
                          off := (3 : Nat) }
                         (Value.slice none (0 : Nat) (0 : Nat)))))
  else
   bif k == (2 : Int) then
    bif k == (2 : Int) then
     Known
       ((w.alloc (Obj.cells #[Value.int IntKind.i64 k, Value.string s, Value.slice dq dn dc, Value.int IntKind.i64 N, Value.slice kq kn kc, Value.int IntKind.i64 nm, Value.int IntKind.u8 fi] (124 : Nat))).alloc
        (Obj.cells #[Value.int IntKind.i64 e, Value.slice aq an ac, Value.int IntKind.i64 z, Value.slice nq nn nc, Value.slice lq ln lc, Value.bool re, Value.bool po] (126 : Nat)))
       [(w.heap.size,
         [((0 : Nat), Value.int IntKind.i64 k), ((1 : Nat), Value.string s), ((2 : Nat), Value.slice dq dn dc), ((3 : Nat), Value.int IntKind.i64 N), ((4 : Nat), Value.slice kq kn kc),
          ((5 : Nat), Value.int IntKind.i64 nm), ((6 : Nat), Value.int IntKind.u8 fi)]),
        ((w.alloc
            (Obj.cells #[Value.int IntKind.i64 k, Value.string s, Value.slice dq dn dc, Value.int IntKind.i64 N, Value.slice kq kn kc, Value.int IntKind.i64 nm, Value.int IntKind.u8 fi]
             (124 : Nat))).heap.size,
         [((0 : Nat), Value.int IntKind.i64 e), ((1 : Nat), Value.slice aq an ac), ((2 : Nat), Value.int IntKind.i64 z), ((3 : Nat), Value.slice nq nn nc), ((4 : Nat), Value.slice lq ln lc),
          ((5 : Nat), Value.bool re), ((6 : Nat), Value.bool po)])] →
      Rets Tryd.prog (95 : Nat) #[Value.pointer p, Value.agg #[Value.bool true, Value.slice lq ln lc]]
       ((w.alloc (Obj.cells #[Value.int IntKind.i64 k, Value.string s, Value.slice dq dn dc, Value.int IntKind.i64 N, Value.slice kq kn kc, Value.int IntKind.i64 nm, Value.int IntKind.u8 fi] (124 : Nat))).alloc
        (Obj.cells #[Value.int IntKind.i64 e, Value.slice aq an ac, Value.int IntKind.i64 z, Value.slice nq nn nc, Value.slice lq ln lc, Value.bool re, Value.bool po] (126 : Nat)))
       fun (v43 : Value) (w44 : World) =>
       ∃ (t45 : Bool),
        v43 = Value.bool t45 ∧
         Keeps
           ((w.alloc
              (Obj.cells #[Value.int IntKind.i64 k, Value.string s, Value.slice dq dn dc, Value.int IntKind.i64 N, Value.slice kq kn kc, Value.int IntKind.i64 nm, Value.int IntKind.u8 fi]
               (124 : Nat))).alloc
            (Obj.cells #[Value.int IntKind.i64 e, Value.slice aq an ac, Value.int IntKind.i64 z, Value.slice nq nn nc, Value.slice lq ln lc, Value.bool re, Value.bool po] (126 : Nat)))
           w44
           [w.heap.size,
            (w.alloc
               (Obj.cells #[Value.int IntKind.i64 k, Value.string s, Value.slice dq dn dc, Value.int IntKind.i64 N, Value.slice kq kn kc, Value.int IntKind.i64 nm, Value.int IntKind.u8 fi]
                (124 : Nat))).heap.size] ∧
          bif t45 then
           Known
             (w44.setCell
              {
               block :=
                (w.alloc
                   (Obj.cells #[Value.int IntKind.i64 k, Value.string s, Value.slice dq dn dc, Value.int IntKind.i64 N, Value.slice kq kn kc, Value.int IntKind.i64 nm, Value.int IntKind.u8 fi]
                    (124 : Nat))).heap.size,
               off := (4 : Nat) }
              (Value.slice none (0 : Nat) (0 : Nat)))
             [(w.heap.size,
               [((0 : Nat), Value.int IntKind.i64 k), ((1 : Nat), Value.string s), ((2 : Nat), Value.slice dq dn dc), ((3 : Nat), Value.int IntKind.i64 N), ((4 : Nat), Value.slice kq kn kc),
                ((5 : Nat), Value.int IntKind.i64 nm), ((6 : Nat), Value.int IntKind.u8 fi)]),
              ((w.alloc
                  (Obj.cells #[Value.int IntKind.i64 k, Value.string s, Value.slice dq dn dc, Value.int IntKind.i64 N, Value.slice kq kn kc, Value.int IntKind.i64 nm, Value.int IntKind.u8 fi]
                   (124 : Nat))).heap.size,
               [((0 : Nat), Value.int IntKind.i64 e), ((1 : Nat), Value.slice aq an ac), ((2 : Nat), Value.int IntKind.i64 z), ((3 : Nat), Value.slice nq nn nc),
                ((4 : Nat), Value.slice none (0 : Nat) (0 : Nat)), ((5 : Nat), Value.bool re), ((6 : Nat), Value.bool po)])] →
            Rets Tryd.prog (177 : Nat)
             #[Value.agg #[Value.int IntKind.i64 e, Value.slice aq an ac, Value.int IntKind.i64 z, Value.slice nq nn nc, Value.slice none (0 : Nat) (0 : Nat), Value.bool re, Value.bool po]]
             (w44.setCell
              {
               block :=
                (w.alloc
                   (Obj.cells #[Value.int IntKind.i64 k, Value.string s, Value.slice dq dn dc, Value.int IntKind.i64 N, Value.slice kq kn kc, Value.int IntKind.i64 nm, Value.int IntKind.u8 fi]
                    (124 : Nat))).heap.size,
               off := (4 : Nat) }
              (Value.slice none (0 : Nat) (0 : Nat)))
             fun (v46 : Value) (w47 : World) =>
             ∃ (t48 : Bool),
              v46 = Value.bool t48 ∧
               Keeps
                 (w44.setCell
                  {
                   block :=
                    (w.alloc
                       (Obj.cells #[Value.int IntKind.i64 k, Value.string s, Value.slice dq dn dc, Value.int IntKind.i64 N, Value.slice kq kn kc, Value.int IntKind.i64 nm, Value.int IntKind.u8 fi]
                        (124 : Nat))).heap.size,
                   off := (4 : Nat) }
                  (Value.slice none (0 : Nat) (0 : Nat)))
                 w47
                 [w.heap.size,
                  (w.alloc
                     (Obj.cells #[Value.int IntKind.i64 k, Value.string s, Value.slice dq dn dc, Value.int IntKind.i64 N, Value.slice kq kn kc, Value.int IntKind.i64 nm, Value.int IntKind.u8 fi]
                      (124 : Nat))).heap.size] ∧
                (Known w47
                  [(w.heap.size,
                    [((0 : Nat), Value.int IntKind.i64 k), ((1 : Nat), Value.string s), ((2 : Nat), Value.slice dq dn dc), ((3 : Nat), Value.int IntKind.i64 N), ((4 : Nat), Value.slice kq kn kc),
                     ((5 : Nat), Value.int IntKind.i64 nm), ((6 : Nat), Value.int IntKind.u8 fi)]),
                   ((w.alloc
                       (Obj.cells #[Value.int IntKind.i64 k, Value.string s, Value.slice dq dn dc, Value.int IntKind.i64 N, Value.slice kq kn kc, Value.int IntKind.i64 nm, Value.int IntKind.u8 fi]
                        (124 : Nat))).heap.size,
                    [((0 : Nat), Value.int IntKind.i64 e), ((1 : Nat), Value.slice aq an ac), ((2 : Nat), Value.int IntKind.i64 z), ((3 : Nat), Value.slice nq nn nc),
                     ((4 : Nat), Value.slice none (0 : Nat) (0 : Nat)), ((5 : Nat), Value.bool re), ((6 : Nat), Value.bool po)])] →
                 R (Ending.returned (Value.bool t48)) w47)
          else
           Known
             (w44.setCell
              {
               block :=
                (w.alloc
                   (Obj.cells #[Value.int IntKind.i64 k, Value.string s, Value.slice dq dn dc, Value.int IntKind.i64 N, Value.slice kq kn kc, Value.int IntKind.i64 nm, Value.int IntKind.u8 fi]
                    (124 : Nat))).heap.size,
               off := (4 : Nat) }
              (Value.slice none (0 : Nat) (0 : Nat)))
             [(w.heap.size,
               [((0 : Nat), Value.int IntKind.i64 k), ((1 : Nat), Value.string s), ((2 : Nat), Value.slice dq dn dc), ((3 : Nat), Value.int IntKind.i64 N), ((4 : Nat), Value.slice kq kn kc),
                ((5 : Nat), Value.int IntKind.i64 nm), ((6 : Nat), Value.int IntKind.u8 fi)]),
              ((w.alloc
                  (Obj.cells #[Value.int IntKind.i64 k, Value.string s, Value.slice dq dn dc, Value.int IntKind.i64 N, Value.slice kq kn kc, Value.int IntKind.i64 nm, Value.int IntKind.u8 fi]
                   (124 : Nat))).heap.size,
               [((0 : Nat), Value.int IntKind.i64 e), ((1 : Nat), Value.slice aq an ac), ((2 : Nat), Value.int IntKind.i64 z), ((3 : Nat), Value.slice nq nn nc),
                ((4 : Nat), Value.slice none (0 : Nat) (0 : Nat)), ((5 : Nat), Value.bool re), ((6 : Nat), Value.bool po)])] →
            R (Ending.returned (Value.bool false))
             (w44.setCell
              {
               block :=
                (w.alloc
                   (Obj.cells #[Value.int IntKind.i64 k, Value.string s, Value.slice dq dn dc, Value.int IntKind.i64 N, Value.slice kq kn kc, Value.int IntKind.i64 nm, Value.int IntKind.u8 fi]
                    (124 : Nat))).heap.size,
               off := (4 : Nat) }
              (Value.slice none (0 : Nat) (0 : Nat)))
    else
     Known
       ((w.alloc (Obj.cells #[Value.int IntKind.i64 k, Value.string s, Value.slice dq dn dc, Value.int IntKind.i64 N, Value.slice kq kn kc, Value.int IntKind.i64 nm, Value.int IntKind.u8 fi] (124 : Nat))).alloc
        (Obj.cells #[Value.int IntKind.i64 e, Value.slice aq an ac, Value.int IntKind.i64 z, Value.slice nq nn nc, Value.slice lq ln lc, Value.bool re, Value.bool po] (126 : Nat)))
       [(w.heap.size,
         [((0 : Nat), Value.int IntKind.i64 k), ((1 : Nat), Value.string s), ((2 : Nat), Value.slice dq dn dc), ((3 : Nat), Value.int IntKind.i64 N), ((4 : Nat), Value.slice kq kn kc),
          ((5 : Nat), Value.int IntKind.i64 nm), ((6 : Nat), Value.int IntKind.u8 fi)]),
        ((w.alloc
            (Obj.cells #[Value.int IntKind.i64 k, Value.string s, Value.slice dq dn dc, Value.int IntKind.i64 N, Value.slice kq kn kc, Value.int IntKind.i64 nm, Value.int IntKind.u8 fi]
             (124 : Nat))).heap.size,
         [((0 : Nat), Value.int IntKind.i64 e), ((1 : Nat), Value.slice aq an ac), ((2 : Nat), Value.int IntKind.i64 z), ((3 : Nat), Value.slice nq nn nc), ((4 : Nat), Value.slice lq ln lc),
          ((5 : Nat), Value.bool re), ((6 : Nat), Value.bool po)])] →
      Rets Tryd.prog (177 : Nat) #[Value.agg #[Value.int IntKind.i64 e, Value.slice aq an ac, Value.int IntKind.i64 z, Value.slice nq nn nc, Value.slice lq ln lc, Value.bool re, Value.bool po]]
       ((w.alloc (Obj.cells #[Value.int IntKind.i64 k, Value.string s, Value.slice dq dn dc, Value.int IntKind.i64 N, Value.slice kq kn kc, Value.int IntKind.i64 nm, Value.int IntKind.u8 fi] (124 : Nat))).alloc
        (Obj.cells #[Value.int IntKind.i64 e, Value.slice aq an ac, Value.int IntKind.i64 z, Value.slice nq nn nc, Value.slice lq ln lc, Value.bool re, Value.bool po] (126 : Nat)))
       fun (v49 : Value) (w50 : World) =>
       ∃ (t51 : Bool),
        v49 = Value.bool t51 ∧
         Keeps
           ((w.alloc
              (Obj.cells #[Value.int IntKind.i64 k, Value.string s, Value.slice dq dn dc, Value.int IntKind.i64 N, Value.slice kq kn kc, Value.int IntKind.i64 nm, Value.int IntKind.u8 fi]
               (124 : Nat))).alloc
            (Obj.cells #[Value.int IntKind.i64 e, Value.slice aq an ac, Value.int IntKind.i64 z, Value.slice nq nn nc, Value.slice lq ln lc, Value.bool re, Value.bool po] (126 : Nat)))
           w50
           [w.heap.size,
            (w.alloc
               (Obj.cells #[Value.int IntKind.i64 k, Value.string s, Value.slice dq dn dc, Value.int IntKind.i64 N, Value.slice kq kn kc, Value.int IntKind.i64 nm, Value.int IntKind.u8 fi]
                (124 : Nat))).heap.size] ∧
          (Known w50
            [(w.heap.size,
              [((0 : Nat), Value.int IntKind.i64 k), ((1 : Nat), Value.string s), ((2 : Nat), Value.slice dq dn dc), ((3 : Nat), Value.int IntKind.i64 N), ((4 : Nat), Value.slice kq kn kc),
               ((5 : Nat), Value.int IntKind.i64 nm), ((6 : Nat), Value.int IntKind.u8 fi)]),
             ((w.alloc
                 (Obj.cells #[Value.int IntKind.i64 k, Value.string s, Value.slice dq dn dc, Value.int IntKind.i64 N, Value.slice kq kn kc, Value.int IntKind.i64 nm, Value.int IntKind.u8 fi]
                  (124 : Nat))).heap.size,
              [((0 : Nat), Value.int IntKind.i64 e), ((1 : Nat), Value.slice aq an ac), ((2 : Nat), Value.int IntKind.i64 z), ((3 : Nat), Value.slice nq nn nc), ((4 : Nat), Value.slice lq ln lc),
               ((5 : Nat), Value.bool re), ((6 : Nat), Value.bool po)])] →
           R (Ending.returned (Value.bool t51)) w50)
   else
    bif k == (15 : Int) then
     Known
       ((w.alloc (Obj.cells #[Value.int IntKind.i64 k, Value.string s, Value.slice dq dn dc, Value.int IntKind.i64 N, Value.slice kq kn kc, Value.int IntKind.i64 nm, Value.int IntKind.u8 fi] (124 : Nat))).alloc
        (Obj.cells #[Value.int IntKind.i64 e, Value.slice aq an ac, Value.int IntKind.i64 z, Value.slice nq nn nc, Value.slice lq ln lc, Value.bool re, Value.bool po] (126 : Nat)))
       [(w.heap.size,
         [((0 : Nat), Value.int IntKind.i64 k), ((1 : Nat), Value.string s), ((2 : Nat), Value.slice dq dn dc), ((3 : Nat), Value.int IntKind.i64 N), ((4 : Nat), Value.slice kq kn kc),
          ((5 : Nat), Value.int IntKind.i64 nm), ((6 : Nat), Value.int IntKind.u8 fi)]),
        ((w.alloc
            (Obj.cells #[Value.int IntKind.i64 k, Value.string s, Value.slice dq dn dc, Value.int IntKind.i64 N, Value.slice kq kn kc, Value.int IntKind.i64 nm, Value.int IntKind.u8 fi]
             (124 : Nat))).heap.size,
         [((0 : Nat), Value.int IntKind.i64 e), ((1 : Nat), Value.slice aq an ac), ((2 : Nat), Value.int IntKind.i64 z), ((3 : Nat), Value.slice nq nn nc), ((4 : Nat), Value.slice lq ln lc),
          ((5 : Nat), Value.bool re), ((6 : Nat), Value.bool po)])] →
      Rets Tryd.prog (95 : Nat) #[Value.pointer p, Value.agg #[Value.bool true, Value.slice lq ln lc]]
       ((w.alloc (Obj.cells #[Value.int IntKind.i64 k, Value.string s, Value.slice dq dn dc, Value.int IntKind.i64 N, Value.slice kq kn kc, Value.int IntKind.i64 nm, Value.int IntKind.u8 fi] (124 : Nat))).alloc
        (Obj.cells #[Value.int IntKind.i64 e, Value.slice aq an ac, Value.int IntKind.i64 z, Value.slice nq nn nc, Value.slice lq ln lc, Value.bool re, Value.bool po] (126 : Nat)))
       fun (v52 : Value) (w53 : World) =>
       ∃ (t54 : Bool),
        v52 = Value.bool t54 ∧
         Keeps
           ((w.alloc
              (Obj.cells #[Value.int IntKind.i64 k, Value.string s, Value.slice dq dn dc, Value.int IntKind.i64 N, Value.slice kq kn kc, Value.int IntKind.i64 nm, Value.int IntKind.u8 fi]
               (124 : Nat))).alloc
            (Obj.cells #[Value.int IntKind.i64 e, Value.slice aq an ac, Value.int IntKind.i64 z, Value.slice nq nn nc, Value.slice lq ln lc, Value.bool re, Value.bool po] (126 : Nat)))
           w53
           [w.heap.size,
            (w.alloc
               (Obj.cells #[Value.int IntKind.i64 k, Value.string s, Value.slice dq dn dc, Value.int IntKind.i64 N, Value.slice kq kn kc, Value.int IntKind.i64 nm, Value.int IntKind.u8 fi]
                (124 : Nat))).heap.size] ∧
          bif t54 then
           Known
             (w53.setCell
              {
               block :=
                (w.alloc
                   (Obj.cells #[Value.int IntKind.i64 k, Value.string s, Value.slice dq dn dc, Value.int IntKind.i64 N, Value.slice kq kn kc, Value.int IntKind.i64 nm, Value.int IntKind.u8 fi]
                    (124 : Nat))).heap.size,
               off := (4 : Nat) }
              (Value.slice none (0 : Nat) (0 : Nat)))
             [(w.heap.size,
               [((0 : Nat), Value.int IntKind.i64 k), ((1 : Nat), Value.string s), ((2 : Nat), Value.slice dq dn dc), ((3 : Nat), Value.int IntKind.i64 N), ((4 : Nat), Value.slice kq kn kc),
                ((5 : Nat), Value.int IntKind.i64 nm), ((6 : Nat), Value.int IntKind.u8 fi)]),
              ((w.alloc
                  (Obj.cells #[Value.int IntKind.i64 k, Value.string s, Value.slice dq dn dc, Value.int IntKind.i64 N, Value.slice kq kn kc, Value.int IntKind.i64 nm, Value.int IntKind.u8 fi]
                   (124 : Nat))).heap.size,
               [((0 : Nat), Value.int IntKind.i64 e), ((1 : Nat), Value.slice aq an ac), ((2 : Nat), Value.int IntKind.i64 z), ((3 : Nat), Value.slice nq nn nc),
                ((4 : Nat), Value.slice none (0 : Nat) (0 : Nat)), ((5 : Nat), Value.bool re), ((6 : Nat), Value.bool po)])] →
            Rets Tryd.prog (177 : Nat)
             #[Value.agg #[Value.int IntKind.i64 e, Value.slice aq an ac, Value.int IntKind.i64 z, Value.slice nq nn nc, Value.slice none (0 : Nat) (0 : Nat), Value.bool re, Value.bool po]]
             (w53.setCell
              {
               block :=
                (w.alloc
                   (Obj.cells #[Value.int IntKind.i64 k, Value.string s, Value.slice dq dn dc, Value.int IntKind.i64 N, Value.slice kq kn kc, Value.int IntKind.i64 nm, Value.int IntKind.u8 fi]
                    (124 : Nat))).heap.size,
               off := (4 : Nat) }
              (Value.slice none (0 : Nat) (0 : Nat)))
             fun (v55 : Value) (w56 : World) =>
             ∃ (t57 : Bool),
              v55 = Value.bool t57 ∧
               Keeps
                 (w53.setCell
                  {
                   block :=
                    (w.alloc
                       (Obj.cells #[Value.int IntKind.i64 k, Value.string s, Value.slice dq dn dc, Value.int IntKind.i64 N, Value.slice kq kn kc, Value.int IntKind.i64 nm, Value.int IntKind.u8 fi]
                        (124 : Nat))).heap.size,
                   off := (4 : Nat) }
                  (Value.slice none (0 : Nat) (0 : Nat)))
                 w56
                 [w.heap.size,
                  (w.alloc
                     (Obj.cells #[Value.int IntKind.i64 k, Value.string s, Value.slice dq dn dc, Value.int IntKind.i64 N, Value.slice kq kn kc, Value.int IntKind.i64 nm, Value.int IntKind.u8 fi]
                      (124 : Nat))).heap.size] ∧
                (Known w56
                  [(w.heap.size,
                    [((0 : Nat), Value.int IntKind.i64 k), ((1 : Nat), Value.string s), ((2 : Nat), Value.slice dq dn dc), ((3 : Nat), Value.int IntKind.i64 N), ((4 : Nat), Value.slice kq kn kc),
                     ((5 : Nat), Value.int IntKind.i64 nm), ((6 : Nat), Value.int IntKind.u8 fi)]),
                   ((w.alloc
                       (Obj.cells #[Value.int IntKind.i64 k, Value.string s, Value.slice dq dn dc, Value.int IntKind.i64 N, Value.slice kq kn kc, Value.int IntKind.i64 nm, Value.int IntKind.u8 fi]
                        (124 : Nat))).heap.size,
                    [((0 : Nat), Value.int IntKind.i64 e), ((1 : Nat), Value.slice aq an ac), ((2 : Nat), Value.int IntKind.i64 z), ((3 : Nat), Value.slice nq nn nc),
                     ((4 : Nat), Value.slice none (0 : Nat) (0 : Nat)), ((5 : Nat), Value.bool re), ((6 : Nat), Value.bool po)])] →
                 R (Ending.returned (Value.bool t57)) w56)
          else
           Known
             (w53.setCell
              {
               block :=
                (w.alloc
                   (Obj.cells #[Value.int IntKind.i64 k, Value.string s, Value.slice dq dn dc, Value.int IntKind.i64 N, Value.slice kq kn kc, Value.int IntKind.i64 nm, Value.int IntKind.u8 fi]
                    (124 : Nat))).heap.size,
               off := (4 : Nat) }
              (Value.slice none (0 : Nat) (0 : Nat)))
             [(w.heap.size,
               [((0 : Nat), Value.int IntKind.i64 k), ((1 : Nat), Value.string s), ((2 : Nat), Value.slice dq dn dc), ((3 : Nat), Value.int IntKind.i64 N), ((4 : Nat), Value.slice kq kn kc),
                ((5 : Nat), Value.int IntKind.i64 nm), ((6 : Nat), Value.int IntKind.u8 fi)]),
              ((w.alloc
                  (Obj.cells #[Value.int IntKind.i64 k, Value.string s, Value.slice dq dn dc, Value.int IntKind.i64 N, Value.slice kq kn kc, Value.int IntKind.i64 nm, Value.int IntKind.u8 fi]
                   (124 : Nat))).heap.size,
               [((0 : Nat), Value.int IntKind.i64 e), ((1 : Nat), Value.slice aq an ac), ((2 : Nat), Value.int IntKind.i64 z), ((3 : Nat), Value.slice nq nn nc),
                ((4 : Nat), Value.slice none (0 : Nat) (0 : Nat)), ((5 : Nat), Value.bool re), ((6 : Nat), Value.bool po)])] →
            R (Ending.returned (Value.bool false))
             (w53.setCell
              {
               block :=
                (w.alloc
                   (Obj.cells #[Value.int IntKind.i64 k, Value.string s, Value.slice dq dn dc, Value.int IntKind.i64 N, Value.slice kq kn kc, Value.int IntKind.i64 nm, Value.int IntKind.u8 fi]
                    (124 : Nat))).heap.size,
               off := (4 : Nat) }
              (Value.slice none (0 : Nat) (0 : Nat)))
    else
     Known
       ((w.alloc (Obj.cells #[Value.int IntKind.i64 k, Value.string s, Value.slice dq dn dc, Value.int IntKind.i64 N, Value.slice kq kn kc, Value.int IntKind.i64 nm, Value.int IntKind.u8 fi] (124 : Nat))).alloc
        (Obj.cells #[Value.int IntKind.i64 e, Value.slice aq an ac, Value.int IntKind.i64 z, Value.slice nq nn nc, Value.slice lq ln lc, Value.bool re, Value.bool po] (126 : Nat)))
       [(w.heap.size,
         [((0 : Nat), Value.int IntKind.i64 k), ((1 : Nat), Value.string s), ((2 : Nat), Value.slice dq dn dc), ((3 : Nat), Value.int IntKind.i64 N), ((4 : Nat), Value.slice kq kn kc),
          ((5 : Nat), Value.int IntKind.i64 nm), ((6 : Nat), Value.int IntKind.u8 fi)]),
        ((w.alloc
            (Obj.cells #[Value.int IntKind.i64 k, Value.string s, Value.slice dq dn dc, Value.int IntKind.i64 N, Value.slice kq kn kc, Value.int IntKind.i64 nm, Value.int IntKind.u8 fi]
             (124 : Nat))).heap.size,
         [((0 : Nat), Value.int IntKind.i64 e), ((1 : Nat), Value.slice aq an ac), ((2 : Nat), Value.int IntKind.i64 z), ((3 : Nat), Value.slice nq nn nc), ((4 : Nat), Value.slice lq ln lc),
          ((5 : Nat), Value.bool re), ((6 : Nat), Value.bool po)])] →
      Rets Tryd.prog (177 : Nat) #[Value.agg #[Value.int IntKind.i64 e, Value.slice aq an ac, Value.int IntKind.i64 z, Value.slice nq nn nc, Value.slice lq ln lc, Value.bool re, Value.bool po]]
       ((w.alloc (Obj.cells #[Value.int IntKind.i64 k, Value.string s, Value.slice dq dn dc, Value.int IntKind.i64 N, Value.slice kq kn kc, Value.int IntKind.i64 nm, Value.int IntKind.u8 fi] (124 : Nat))).alloc
        (Obj.cells #[Value.int IntKind.i64 e, Value.slice aq an ac, Value.int IntKind.i64 z, Value.slice nq nn nc, Value.slice lq ln lc, Value.bool re, Value.bool po] (126 : Nat)))
       fun (v58 : Value) (w59 : World) =>
       ∃ (t60 : Bool),
        v58 = Value.bool t60 ∧
         Keeps
           ((w.alloc
              (Obj.cells #[Value.int IntKind.i64 k, Value.string s, Value.slice dq dn dc, Value.int IntKind.i64 N, Value.slice kq kn kc, Value.int IntKind.i64 nm, Value.int IntKind.u8 fi]
               (124 : Nat))).alloc
            (Obj.cells #[Value.int IntKind.i64 e, Value.slice aq an ac, Value.int IntKind.i64 z, Value.slice nq nn nc, Value.slice lq ln lc, Value.bool re, Value.bool po] (126 : Nat)))
           w59
           [w.heap.size,
            (w.alloc
               (Obj.cells #[Value.int IntKind.i64 k, Value.string s, Value.slice dq dn dc, Value.int IntKind.i64 N, Value.slice kq kn kc, Value.int IntKind.i64 nm, Value.int IntKind.u8 fi]
                (124 : Nat))).heap.size] ∧
          (Known w59
            [(w.heap.size,
              [((0 : Nat), Value.int IntKind.i64 k), ((1 : Nat), Value.string s), ((2 : Nat), Value.slice dq dn dc), ((3 : Nat), Value.int IntKind.i64 N), ((4 : Nat), Value.slice kq kn kc),
               ((5 : Nat), Value.int IntKind.i64 nm), ((6 : Nat), Value.int IntKind.u8 fi)]),
             ((w.alloc
                 (Obj.cells #[Value.int IntKind.i64 k, Value.string s, Value.slice dq dn dc, Value.int IntKind.i64 N, Value.slice kq kn kc, Value.int IntKind.i64 nm, Value.int IntKind.u8 fi]
                  (124 : Nat))).heap.size,
              [((0 : Nat), Value.int IntKind.i64 e), ((1 : Nat), Value.slice aq an ac), ((2 : Nat), Value.int IntKind.i64 z), ((3 : Nat), Value.slice nq nn nc), ((4 : Nat), Value.slice lq ln lc),
               ((5 : Nat), Value.bool re), ((6 : Nat), Value.bool po)])] →
           R (Ending.returned (Value.bool t60)) w59)
theorem vcTryd178 (p : Option Addr) (k : Int) (s : ByteArray) (dq : Option Addr) (dn dc : Nat) (N : Int) (kq : Option Addr) (kn kc : Nat) (nm fi : Int) (e : Int) (aq : Option Addr) (an ac : Nat) (z : Int) (nq : Option Addr) (nn nc : Nat) (lq : Option Addr) (ln lc : Nat) (re po : Bool) (w : World) (R : Ending → World → Prop) : SX.vcFn Tryd.prog [] Tryd.f178 [.v (.pointer p), .v (.agg #[.int .i64 k, .string s, .slice dq dn dc, .int .i64 N, .slice kq kn kc, .int .i64 nm, .int .u8 fi]), .v (.agg #[.int .i64 e, .slice aq an ac, .int .i64 z, .slice nq nn nc, .slice lq ln lc, .bool re, .bool po])] [] w R = VCTryd178 p k s dq dn dc N kq kn kc nm fi e aq an ac z nq nn nc lq ln lc re po w R := by kernel_rfl
def VCTryd142 (p : Option Addr) (k : Int) (s : ByteArray) (dq : Option Addr) (dn dc : Nat) (N : Int) (kq : Option Addr) (kn kc : Nat) (nm fi : Int) (e : Int) (aq : Option Addr) (an ac : Nat) (z : Int) (nq : Option Addr) (nn nc : Nat) (lq : Option Addr) (ln lc : Nat) (re po : Bool) (w : World) (R : Ending → World → Prop) : Prop :=
bif re then
 Known
   ((w.alloc (Obj.cells #[Value.int IntKind.i64 k, Value.string s, Value.slice dq dn dc, Value.int IntKind.i64 N, Value.slice kq kn kc, Value.int IntKind.i64 nm, Value.int IntKind.u8 fi] (124 : Nat))).alloc
    (Obj.cells #[Value.int IntKind.i64 e, Value.slice aq an ac, Value.int IntKind.i64 z, Value.slice nq nn nc, Value.slice lq ln lc, Value.bool re, Value.bool po] (126 : Nat)))
   [(w.heap.size,
     [((0 : Nat), Value.int IntKind.i64 k), ((1 : Nat), Value.string s), ((2 : Nat), Value.slice dq dn dc), ((3 : Nat), Value.int IntKind.i64 N), ((4 : Nat), Value.slice kq kn kc),
      ((5 : Nat), Value.int IntKind.i64 nm), ((6 : Nat), Value.int IntKind.u8 fi)]),
    ((w.alloc (Obj.cells #[Value.int IntKind.i64 k, Value.string s, Value.slice dq dn dc, Value.int IntKind.i64 N, Value.slice kq kn kc, Value.int IntKind.i64 nm, Value.int IntKind.u8 fi] (124 : Nat))).heap.size,
     [((0 : Nat), Value.int IntKind.i64 e), ((1 : Nat), Value.slice aq an ac), ((2 : Nat), Value.int IntKind.i64 z), ((3 : Nat), Value.slice nq nn nc), ((4 : Nat), Value.slice lq ln lc), ((5 : Nat), Value.bool re),
      ((6 : Nat), Value.bool po)])] →
  Rets Tryd.prog (175 : Nat) #[Value.int IntKind.i64 k]
   ((w.alloc (Obj.cells #[Value.int IntKind.i64 k, Value.string s, Value.slice dq dn dc, Value.int IntKind.i64 N, Value.slice kq kn kc, Value.int IntKind.i64 nm, Value.int IntKind.u8 fi] (124 : Nat))).alloc
    (Obj.cells #[Value.int IntKind.i64 e, Value.slice aq an ac, Value.int IntKind.i64 z, Value.slice nq nn nc, Value.slice lq ln lc, Value.bool re, Value.bool po] (126 : Nat)))
   fun (v0 : Value) (w1 : World) =>
   ∃ (t2 : Bool),
    v0 = Value.bool t2 ∧
     Keeps
       ((w.alloc (Obj.cells #[Value.int IntKind.i64 k, Value.string s, Value.slice dq dn dc, Value.int IntKind.i64 N, Value.slice kq kn kc, Value.int IntKind.i64 nm, Value.int IntKind.u8 fi] (124 : Nat))).alloc
        (Obj.cells #[Value.int IntKind.i64 e, Value.slice aq an ac, Value.int IntKind.i64 z, Value.slice nq nn nc, Value.slice lq ln lc, Value.bool re, Value.bool po] (126 : Nat)))
       w1
       [w.heap.size,
        (w.alloc
           (Obj.cells #[Value.int IntKind.i64 k, Value.string s, Value.slice dq dn dc, Value.int IntKind.i64 N, Value.slice kq kn kc, Value.int IntKind.i64 nm, Value.int IntKind.u8 fi]
            (124 : Nat))).heap.size] ∧
      bif t2 then
       Known w1
         [(w.heap.size,
           [((0 : Nat), Value.int IntKind.i64 k), ((1 : Nat), Value.string s), ((2 : Nat), Value.slice dq dn dc), ((3 : Nat), Value.int IntKind.i64 N), ((4 : Nat), Value.slice kq kn kc),
            ((5 : Nat), Value.int IntKind.i64 nm), ((6 : Nat), Value.int IntKind.u8 fi)]),
          ((w.alloc
              (Obj.cells #[Value.int IntKind.i64 k, Value.string s, Value.slice dq dn dc, Value.int IntKind.i64 N, Value.slice kq kn kc, Value.int IntKind.i64 nm, Value.int IntKind.u8 fi]
               (124 : Nat))).heap.size,
           [((0 : Nat), Value.int IntKind.i64 e), ((1 : Nat), Value.slice aq an ac), ((2 : Nat), Value.int IntKind.i64 z), ((3 : Nat), Value.slice nq nn nc), ((4 : Nat), Value.slice lq ln lc),
            ((5 : Nat), Value.bool re), ((6 : Nat), Value.bool po)])] →
        Rets Tryd.prog (176 : Nat)
         #[Value.pointer p, Value.agg #[Value.int IntKind.i64 k, Value.string s, Value.slice dq dn dc, Value.int IntKind.i64 N, Value.slice kq kn kc, Value.int IntKind.i64 nm, Value.int IntKind.u8 fi],
          Value.int IntKind.i64 (0 : Int)]
         w1 fun (v3 : Value) (w4 : World) =>
         ∃ (t5 : Bool),
          v3 = Value.bool t5 ∧
           Keeps w1 w4
             [w.heap.size,
              (w.alloc
                 (Obj.cells #[Value.int IntKind.i64 k, Value.string s, Value.slice dq dn dc, Value.int IntKind.i64 N, Value.slice kq kn kc, Value.int IntKind.i64 nm, Value.int IntKind.u8 fi]
                  (124 : Nat))).heap.size] ∧
            bif t5 then
             bif e == (10 : Int) then
              Known w4
                [(w.heap.size,
                  [((0 : Nat), Value.int IntKind.i64 k), ((1 : Nat), Value.string s), ((2 : Nat), Value.slice dq dn dc), ((3 : Nat), Value.int IntKind.i64 N), ((4 : Nat), Value.slice kq kn kc),
                   ((5 : Nat), Value.int IntKind.i64 nm), ((6 : Nat), Value.int IntKind.u8 fi)]),
                 ((w.alloc
                     (Obj.cells #[Value.int IntKind.i64 k, Value.string s, Value.slice dq dn dc, Value.int IntKind.i64 N, Value.slice kq kn kc, Value.int IntKind.i64 nm, Value.int IntKind.u8 fi]
                      (124 : Nat))).heap.size,
                  [((0 : Nat), Value.int IntKind.i64 e), ((1 : Nat), Value.slice aq an ac), ((2 : Nat), Value.int IntKind.i64 z), ((3 : Nat), Value.slice nq nn nc), ((4 : Nat), Value.slice lq ln lc),
                   ((5 : Nat), Value.bool re), ((6 : Nat), Value.bool po)])] →
               Rets Tryd.prog (177 : Nat) #[Value.agg #[Value.int IntKind.i64 e, Value.slice aq an ac, Value.int IntKind.i64 z, Value.slice nq nn nc, Value.slice lq ln lc, Value.bool re, Value.bool po]] w4
                fun (v6 : Value) (w7 : World) =>
                ∃ (t8 : Bool),
                 v6 = Value.bool t8 ∧
                  Keeps w4 w7
                    [w.heap.size,
                     (w.alloc
                        (Obj.cells
                         #[Value.int IntKind.i64 k, Value.string s, Value.slice dq dn dc, Value.int IntKind.i64 N, Value.slice kq kn kc, Value.int IntKind.i64 nm, Value.int IntKind.u8 fi]
                         (124 : Nat))).heap.size] ∧
                   (Known w7
                     [(w.heap.size,
                       [((0 : Nat), Value.int IntKind.i64 k), ((1 : Nat), Value.string s), ((2 : Nat), Value.slice dq dn dc), ((3 : Nat), Value.int IntKind.i64 N),
                        ((4 : Nat), Value.slice kq kn kc), ((5 : Nat), Value.int IntKind.i64 nm), ((6 : Nat), Value.int IntKind.u8 fi)]),
                      ((w.alloc
                          (Obj.cells
                           #[Value.int IntKind.i64 k, Value.string s, Value.slice dq dn dc, Value.int IntKind.i64 N, Value.slice kq kn kc, Value.int IntKind.i64 nm, Value.int IntKind.u8 fi]
                           (124 : Nat))).heap.size,
                       [((0 : Nat), Value.int IntKind.i64 e), ((1 : Nat), Value.slice aq an ac), ((2 : Nat), Value.int IntKind.i64 z), ((3 : Nat), Value.slice nq nn nc),
                        ((4 : Nat), Value.slice lq ln lc), ((5 : Nat), Value.bool re), ((6 : Nat), Value.bool po)])] →
                    R (Ending.returned (Value.bool t8)) w7)
             else
              bif e == (9 : Int) then
               Known w4
                 [(w.heap.size,
                   [((0 : Nat), Value.int IntKind.i64 k), ((1 : Nat), Value.string s), ((2 : Nat), Value.slice dq dn dc), ((3 : Nat), Value.int IntKind.i64 N), ((4 : Nat), Value.slice kq kn kc),
                    ((5 : Nat), Value.int IntKind.i64 nm), ((6 : Nat), Value.int IntKind.u8 fi)]),
                  ((w.alloc
                      (Obj.cells #[Value.int IntKind.i64 k, Value.string s, Value.slice dq dn dc, Value.int IntKind.i64 N, Value.slice kq kn kc, Value.int IntKind.i64 nm, Value.int IntKind.u8 fi]
                       (124 : Nat))).heap.size,
                   [((0 : Nat), Value.int IntKind.i64 e), ((1 : Nat), Value.slice aq an ac), ((2 : Nat), Value.int IntKind.i64 z), ((3 : Nat), Value.slice nq nn nc), ((4 : Nat), Value.slice lq ln lc),
                    ((5 : Nat), Value.bool re), ((6 : Nat), Value.bool po)])] →
                Rets Tryd.prog (177 : Nat) #[Value.agg #[Value.int IntKind.i64 e, Value.slice aq an ac, Value.int IntKind.i64 z, Value.slice nq nn nc, Value.slice lq ln lc, Value.bool re, Value.bool po]]
                 w4 fun (v9 : Value) (w10 : World) =>
                 ∃ (t11 : Bool),
                  v9 = Value.bool t11 ∧
                   Keeps w4 w10
                     [w.heap.size,
                      (w.alloc
                         (Obj.cells
                          #[Value.int IntKind.i64 k, Value.string s, Value.slice dq dn dc, Value.int IntKind.i64 N, Value.slice kq kn kc, Value.int IntKind.i64 nm, Value.int IntKind.u8 fi]
                          (124 : Nat))).heap.size] ∧
                    (Known w10
                      [(w.heap.size,
                        [((0 : Nat), Value.int IntKind.i64 k), ((1 : Nat), Value.string s), ((2 : Nat), Value.slice dq dn dc), ((3 : Nat), Value.int IntKind.i64 N),
                         ((4 : Nat), Value.slice kq kn kc), ((5 : Nat), Value.int IntKind.i64 nm), ((6 : Nat), Value.int IntKind.u8 fi)]),
                       ((w.alloc
                           (Obj.cells
                            #[Value.int IntKind.i64 k, Value.string s, Value.slice dq dn dc, Value.int IntKind.i64 N, Value.slice kq kn kc, Value.int IntKind.i64 nm, Value.int IntKind.u8 fi]
                            (124 : Nat))).heap.size,
                        [((0 : Nat), Value.int IntKind.i64 e), ((1 : Nat), Value.slice aq an ac), ((2 : Nat), Value.int IntKind.i64 z), ((3 : Nat), Value.slice nq nn nc),
                         ((4 : Nat), Value.slice lq ln lc), ((5 : Nat), Value.bool re), ((6 : Nat), Value.bool po)])] →
                     R (Ending.returned (Value.bool t11)) w10)
              else
               Known w4
                 [(w.heap.size,
                   [((0 : Nat), Value.int IntKind.i64 k), ((1 : Nat), Value.string s), ((2 : Nat), Value.slice dq dn dc), ((3 : Nat), Value.int IntKind.i64 N), ((4 : Nat), Value.slice kq kn kc),
                    ((5 : Nat), Value.int IntKind.i64 nm), ((6 : Nat), Value.int IntKind.u8 fi)]),
                  ((w.alloc
                      (Obj.cells #[Value.int IntKind.i64 k, Value.string s, Value.slice dq dn dc, Value.int IntKind.i64 N, Value.slice kq kn kc, Value.int IntKind.i64 nm, Value.int IntKind.u8 fi]
                       (124 : Nat))).heap.size,
                   [((0 : Nat), Value.int IntKind.i64 e), ((1 : Nat), Value.slice aq an ac), ((2 : Nat), Value.int IntKind.i64 z), ((3 : Nat), Value.slice nq nn nc), ((4 : Nat), Value.slice lq ln lc),
                    ((5 : Nat), Value.bool re), ((6 : Nat), Value.bool po)])] →
                R (Ending.returned (Value.bool false)) w4
            else
             Known w4
               [(w.heap.size,
                 [((0 : Nat), Value.int IntKind.i64 k), ((1 : Nat), Value.string s), ((2 : Nat), Value.slice dq dn dc), ((3 : Nat), Value.int IntKind.i64 N), ((4 : Nat), Value.slice kq kn kc),
                  ((5 : Nat), Value.int IntKind.i64 nm), ((6 : Nat), Value.int IntKind.u8 fi)]),
                ((w.alloc
                    (Obj.cells #[Value.int IntKind.i64 k, Value.string s, Value.slice dq dn dc, Value.int IntKind.i64 N, Value.slice kq kn kc, Value.int IntKind.i64 nm, Value.int IntKind.u8 fi]
                     (124 : Nat))).heap.size,
                 [((0 : Nat), Value.int IntKind.i64 e), ((1 : Nat), Value.slice aq an ac), ((2 : Nat), Value.int IntKind.i64 z), ((3 : Nat), Value.slice nq nn nc), ((4 : Nat), Value.slice lq ln lc),
                  ((5 : Nat), Value.bool re), ((6 : Nat), Value.bool po)])] →
              R (Ending.returned (Value.bool false)) w4
      else
       Known w1
         [(w.heap.size,
           [((0 : Nat), Value.int IntKind.i64 k), ((1 : Nat), Value.string s), ((2 : Nat), Value.slice dq dn dc), ((3 : Nat), Value.int IntKind.i64 N), ((4 : Nat), Value.slice kq kn kc),
            ((5 : Nat), Value.int IntKind.i64 nm), ((6 : Nat), Value.int IntKind.u8 fi)]),
          ((w.alloc
              (Obj.cells #[Value.int IntKind.i64 k, Value.string s, Value.slice dq dn dc, Value.int IntKind.i64 N, Value.slice kq kn kc, Value.int IntKind.i64 nm, Value.int IntKind.u8 fi]
               (124 : Nat))).heap.size,
           [((0 : Nat), Value.int IntKind.i64 e), ((1 : Nat), Value.slice aq an ac), ((2 : Nat), Value.int IntKind.i64 z), ((3 : Nat), Value.slice nq nn nc), ((4 : Nat), Value.slice lq ln lc),
            ((5 : Nat), Value.bool re), ((6 : Nat), Value.bool po)])] →
        R (Ending.returned (Value.bool false)) w1
else
 Known
   ((w.alloc (Obj.cells #[Value.int IntKind.i64 k, Value.string s, Value.slice dq dn dc, Value.int IntKind.i64 N, Value.slice kq kn kc, Value.int IntKind.i64 nm, Value.int IntKind.u8 fi] (124 : Nat))).alloc
    (Obj.cells #[Value.int IntKind.i64 e, Value.slice aq an ac, Value.int IntKind.i64 z, Value.slice nq nn nc, Value.slice lq ln lc, Value.bool re, Value.bool po] (126 : Nat)))
   [(w.heap.size,
     [((0 : Nat), Value.int IntKind.i64 k), ((1 : Nat), Value.string s), ((2 : Nat), Value.slice dq dn dc), ((3 : Nat), Value.int IntKind.i64 N), ((4 : Nat), Value.slice kq kn kc),
      ((5 : Nat), Value.int IntKind.i64 nm), ((6 : Nat), Value.int IntKind.u8 fi)]),
    ((w.alloc (Obj.cells #[Value.int IntKind.i64 k, Value.string s, Value.slice dq dn dc, Value.int IntKind.i64 N, Value.slice kq kn kc, Value.int IntKind.i64 nm, Value.int IntKind.u8 fi] (124 : Nat))).heap.size,
     [((0 : Nat), Value.int IntKind.i64 e), ((1 : Nat), Value.slice aq an ac), ((2 : Nat), Value.int IntKind.i64 z), ((3 : Nat), Value.slice nq nn nc), ((4 : Nat), Value.slice lq ln lc), ((5 : Nat), Value.bool re),
      ((6 : Nat), Value.bool po)])] →
  Rets Tryd.prog (176 : Nat)
   #[Value.pointer p, Value.agg #[Value.int IntKind.i64 k, Value.string s, Value.slice dq dn dc, Value.int IntKind.i64 N, Value.slice kq kn kc, Value.int IntKind.i64 nm, Value.int IntKind.u8 fi],
    Value.int IntKind.i64 e]
   ((w.alloc (Obj.cells #[Value.int IntKind.i64 k, Value.string s, Value.slice dq dn dc, Value.int IntKind.i64 N, Value.slice kq kn kc, Value.int IntKind.i64 nm, Value.int IntKind.u8 fi] (124 : Nat))).alloc
    (Obj.cells #[Value.int IntKind.i64 e, Value.slice aq an ac, Value.int IntKind.i64 z, Value.slice nq nn nc, Value.slice lq ln lc, Value.bool re, Value.bool po] (126 : Nat)))
   fun (v12 : Value) (w13 : World) =>
   ∃ (t14 : Bool),
    v12 = Value.bool t14 ∧
     Keeps
       ((w.alloc (Obj.cells #[Value.int IntKind.i64 k, Value.string s, Value.slice dq dn dc, Value.int IntKind.i64 N, Value.slice kq kn kc, Value.int IntKind.i64 nm, Value.int IntKind.u8 fi] (124 : Nat))).alloc
        (Obj.cells #[Value.int IntKind.i64 e, Value.slice aq an ac, Value.int IntKind.i64 z, Value.slice nq nn nc, Value.slice lq ln lc, Value.bool re, Value.bool po] (126 : Nat)))
       w13
       [w.heap.size,
        (w.alloc
           (Obj.cells #[Value.int IntKind.i64 k, Value.string s, Value.slice dq dn dc, Value.int IntKind.i64 N, Value.slice kq kn kc, Value.int IntKind.i64 nm, Value.int IntKind.u8 fi]
            (124 : Nat))).heap.size] ∧
      bif !t14 then
       Known w13
         [(w.heap.size,
           [((0 : Nat), Value.int IntKind.i64 k), ((1 : Nat), Value.string s), ((2 : Nat), Value.slice dq dn dc), ((3 : Nat), Value.int IntKind.i64 N), ((4 : Nat), Value.slice kq kn kc),
            ((5 : Nat), Value.int IntKind.i64 nm), ((6 : Nat), Value.int IntKind.u8 fi)]),
          ((w.alloc
              (Obj.cells #[Value.int IntKind.i64 k, Value.string s, Value.slice dq dn dc, Value.int IntKind.i64 N, Value.slice kq kn kc, Value.int IntKind.i64 nm, Value.int IntKind.u8 fi]
               (124 : Nat))).heap.size,
           [((0 : Nat), Value.int IntKind.i64 e), ((1 : Nat), Value.slice aq an ac), ((2 : Nat), Value.int IntKind.i64 z), ((3 : Nat), Value.slice nq nn nc), ((4 : Nat), Value.slice lq ln lc),
            ((5 : Nat), Value.bool re), ((6 : Nat), Value.bool po)])] →
        R (Ending.returned (Value.bool false)) w13
      else
       bif e != (0 : Int) then
        Known w13
          [(w.heap.size,
            [((0 : Nat), Value.int IntKind.i64 k), ((1 : Nat), Value.string s), ((2 : Nat), Value.slice dq dn dc), ((3 : Nat), Value.int IntKind.i64 N), ((4 : Nat), Value.slice kq kn kc),
             ((5 : Nat), Value.int IntKind.i64 nm), ((6 : Nat), Value.int IntKind.u8 fi)]),
           ((w.alloc
               (Obj.cells #[Value.int IntKind.i64 k, Value.string s, Value.slice dq dn dc, Value.int IntKind.i64 N, Value.slice kq kn kc, Value.int IntKind.i64 nm, Value.int IntKind.u8 fi]
                (124 : Nat))).heap.size,
            [((0 : Nat), Value.int IntKind.i64 e), ((1 : Nat), Value.slice aq an ac), ((2 : Nat), Value.int IntKind.i64 z), ((3 : Nat), Value.slice nq nn nc), ((4 : Nat), Value.slice lq ln lc),
             ((5 : Nat), Value.bool re), ((6 : Nat), Value.bool po)])] →
         Rets Tryd.prog (177 : Nat) #[Value.agg #[Value.int IntKind.i64 e, Value.slice aq an ac, Value.int IntKind.i64 z, Value.slice nq nn nc, Value.slice lq ln lc, Value.bool re, Value.bool po]] w13
          fun (v15 : Value) (w16 : World) =>
          ∃ (t17 : Bool),
           v15 = Value.bool t17 ∧
            Keeps w13 w16
              [w.heap.size,
               (w.alloc
                  (Obj.cells #[Value.int IntKind.i64 k, Value.string s, Value.slice dq dn dc, Value.int IntKind.i64 N, Value.slice kq kn kc, Value.int IntKind.i64 nm, Value.int IntKind.u8 fi]
                   (124 : Nat))).heap.size] ∧
             (Known w16
               [(w.heap.size,
                 [((0 : Nat), Value.int IntKind.i64 k), ((1 : Nat), Value.string s), ((2 : Nat), Value.slice dq dn dc), ((3 : Nat), Value.int IntKind.i64 N), ((4 : Nat), Value.slice kq kn kc),
                  ((5 : Nat), Value.int IntKind.i64 nm), ((6 : Nat), Value.int IntKind.u8 fi)]),
                ((w.alloc
                    (Obj.cells #[Value.int IntKind.i64 k, Value.string s, Value.slice dq dn dc, Value.int IntKind.i64 N, Value.slice kq kn kc, Value.int IntKind.i64 nm, Value.int IntKind.u8 fi]
                     (124 : Nat))).heap.size,
                 [((0 : Nat), Value.int IntKind.i64 e), ((1 : Nat), Value.slice aq an ac), ((2 : Nat), Value.int IntKind.i64 z), ((3 : Nat), Value.slice nq nn nc), ((4 : Nat), Value.slice lq ln lc),
                  ((5 : Nat), Value.bool re), ((6 : Nat), Value.bool po)])] →
              R (Ending.returned (Value.bool t17)) w16)
       else
        Known w13
          [(w.heap.size,
            [((0 : Nat), Value.int IntKind.i64 k), ((1 : Nat), Value.string s), ((2 : Nat), Value.slice dq dn dc), ((3 : Nat), Value.int IntKind.i64 N), ((4 : Nat), Value.slice kq kn kc),
             ((5 : Nat), Value.int IntKind.i64 nm), ((6 : Nat), Value.int IntKind.u8 fi)]),
           ((w.alloc
               (Obj.cells #[Value.int IntKind.i64 k, Value.string s, Value.slice dq dn dc, Value.int IntKind.i64 N, Value.slice kq kn kc, Value.int IntKind.i64 nm, Value.int IntKind.u8 fi]
                (124 : Nat))).heap.size,
            [((0 : Nat), Value.int IntKind.i64 e), ((1 : Nat), Value.slice aq an ac), ((2 : Nat), Value.int IntKind.i64 z), ((3 : Nat), Value.slice nq nn nc), ((4 : Nat), Value.slice lq ln lc),
             ((5 : Nat), Value.bool re), ((6 : Nat), Value.bool po)])] →
         Rets Tryd.prog (178 : Nat)
          #[Value.pointer p, Value.agg #[Value.int IntKind.i64 k, Value.string s, Value.slice dq dn dc, Value.int IntKind.i64 N, Value.slice kq kn kc, Value.int IntKind.i64 nm, Value.int IntKind.u8 fi],
           Value.agg #[Value.int IntKind.i64 e, Value.slice aq an ac, Value.int IntKind.i64 z, Value.slice nq nn nc, Value.slice lq ln lc, Value.bool re, Value.bool po]]
          w13 fun (v18 : Value) (w19 : World) =>
          ∃ (t20 : Bool),
           v18 = Value.bool t20 ∧
            Keeps w13 w19
              [w.heap.size,
               (w.alloc
                  (Obj.cells #[Value.int IntKind.i64 k, Value.string s, Value.slice dq dn dc, Value.int IntKind.i64 N, Value.slice kq kn kc, Value.int IntKind.i64 nm, Value.int IntKind.u8 fi]
                   (124 : Nat))).heap.size] ∧
             (Known w19
               [(w.heap.size,
                 [((0 : Nat), Value.int IntKind.i64 k), ((1 : Nat), Value.string s), ((2 : Nat), Value.slice dq dn dc), ((3 : Nat), Value.int IntKind.i64 N), ((4 : Nat), Value.slice kq kn kc),
                  ((5 : Nat), Value.int IntKind.i64 nm), ((6 : Nat), Value.int IntKind.u8 fi)]),
                ((w.alloc
                    (Obj.cells #[Value.int IntKind.i64 k, Value.string s, Value.slice dq dn dc, Value.int IntKind.i64 N, Value.slice kq kn kc, Value.int IntKind.i64 nm, Value.int IntKind.u8 fi]
                     (124 : Nat))).heap.size,
                 [((0 : Nat), Value.int IntKind.i64 e), ((1 : Nat), Value.slice aq an ac), ((2 : Nat), Value.int IntKind.i64 z), ((3 : Nat), Value.slice nq nn nc), ((4 : Nat), Value.slice lq ln lc),
                  ((5 : Nat), Value.bool re), ((6 : Nat), Value.bool po)])] →
              R (Ending.returned (Value.bool t20)) w19)
theorem vcTryd142 (p : Option Addr) (k : Int) (s : ByteArray) (dq : Option Addr) (dn dc : Nat) (N : Int) (kq : Option Addr) (kn kc : Nat) (nm fi : Int) (e : Int) (aq : Option Addr) (an ac : Nat) (z : Int) (nq : Option Addr) (nn nc : Nat) (lq : Option Addr) (ln lc : Nat) (re po : Bool) (w : World) (R : Ending → World → Prop) : SX.vcFn Tryd.prog [] Tryd.f142 [.v (.pointer p), .v (.agg #[.int .i64 k, .string s, .slice dq dn dc, .int .i64 N, .slice kq kn kc, .int .i64 nm, .int .u8 fi]), .v (.agg #[.int .i64 e, .slice aq an ac, .int .i64 z, .slice nq nn nc, .slice lq ln lc, .bool re, .bool po])] [] w R = VCTryd142 p k s dq dn dc N kq kn kc nm fi e aq an ac z nq nn nc lq ln lc re po w R := by kernel_rfl
def VCTryd143 (p : Option Addr) (k : Int) (s : ByteArray) (dq : Option Addr) (dn dc : Nat) (N : Int) (kq : Option Addr) (kn kc : Nat) (nm fi : Int) (e : Int) (aq : Option Addr) (an ac : Nat) (z : Int) (nq : Option Addr) (nn nc : Nat) (lq : Option Addr) (ln lc : Nat) (re po : Bool) (w : World) (R : Ending → World → Prop) : Prop :=
Known
  ((w.alloc (Obj.cells #[Value.int IntKind.i64 k, Value.string s, Value.slice dq dn dc, Value.int IntKind.i64 N, Value.slice kq kn kc, Value.int IntKind.i64 nm, Value.int IntKind.u8 fi] (124 : Nat))).alloc
   (Obj.cells #[Value.int IntKind.i64 e, Value.slice aq an ac, Value.int IntKind.i64 z, Value.slice nq nn nc, Value.slice lq ln lc, Value.bool re, Value.bool po] (126 : Nat)))
  [(w.heap.size,
    [((0 : Nat), Value.int IntKind.i64 k), ((1 : Nat), Value.string s), ((2 : Nat), Value.slice dq dn dc), ((3 : Nat), Value.int IntKind.i64 N), ((4 : Nat), Value.slice kq kn kc),
     ((5 : Nat), Value.int IntKind.i64 nm), ((6 : Nat), Value.int IntKind.u8 fi)]),
   ((w.alloc (Obj.cells #[Value.int IntKind.i64 k, Value.string s, Value.slice dq dn dc, Value.int IntKind.i64 N, Value.slice kq kn kc, Value.int IntKind.i64 nm, Value.int IntKind.u8 fi] (124 : Nat))).heap.size,
    [((0 : Nat), Value.int IntKind.i64 e), ((1 : Nat), Value.slice aq an ac), ((2 : Nat), Value.int IntKind.i64 z), ((3 : Nat), Value.slice nq nn nc), ((4 : Nat), Value.slice lq ln lc), ((5 : Nat), Value.bool re),
     ((6 : Nat), Value.bool po)])] →
 Rets Tryd.prog (144 : Nat)
  #[Value.pointer p, Value.agg #[Value.int IntKind.i64 k, Value.string s, Value.slice dq dn dc, Value.int IntKind.i64 N, Value.slice kq kn kc, Value.int IntKind.i64 nm, Value.int IntKind.u8 fi],
   Value.agg #[Value.int IntKind.i64 e, Value.slice aq an ac, Value.int IntKind.i64 z, Value.slice nq nn nc, Value.slice lq ln lc, Value.bool re, Value.bool po]]
  ((w.alloc (Obj.cells #[Value.int IntKind.i64 k, Value.string s, Value.slice dq dn dc, Value.int IntKind.i64 N, Value.slice kq kn kc, Value.int IntKind.i64 nm, Value.int IntKind.u8 fi] (124 : Nat))).alloc
   (Obj.cells #[Value.int IntKind.i64 e, Value.slice aq an ac, Value.int IntKind.i64 z, Value.slice nq nn nc, Value.slice lq ln lc, Value.bool re, Value.bool po] (126 : Nat)))
  fun (v0 : Value) (w1 : World) =>
  ∃ (t2 : Bool),
   v0 = Value.bool t2 ∧
    Keeps
      ((w.alloc (Obj.cells #[Value.int IntKind.i64 k, Value.string s, Value.slice dq dn dc, Value.int IntKind.i64 N, Value.slice kq kn kc, Value.int IntKind.i64 nm, Value.int IntKind.u8 fi] (124 : Nat))).alloc
       (Obj.cells #[Value.int IntKind.i64 e, Value.slice aq an ac, Value.int IntKind.i64 z, Value.slice nq nn nc, Value.slice lq ln lc, Value.bool re, Value.bool po] (126 : Nat)))
      w1
      [w.heap.size,
       (w.alloc
          (Obj.cells #[Value.int IntKind.i64 k, Value.string s, Value.slice dq dn dc, Value.int IntKind.i64 N, Value.slice kq kn kc, Value.int IntKind.i64 nm, Value.int IntKind.u8 fi] (124 : Nat))).heap.size] ∧
     bif t2 then
      Known w1
        [(w.heap.size,
          [((0 : Nat), Value.int IntKind.i64 k), ((1 : Nat), Value.string s), ((2 : Nat), Value.slice dq dn dc), ((3 : Nat), Value.int IntKind.i64 N), ((4 : Nat), Value.slice kq kn kc),
           ((5 : Nat), Value.int IntKind.i64 nm), ((6 : Nat), Value.int IntKind.u8 fi)]),
         ((w.alloc
             (Obj.cells #[Value.int IntKind.i64 k, Value.string s, Value.slice dq dn dc, Value.int IntKind.i64 N, Value.slice kq kn kc, Value.int IntKind.i64 nm, Value.int IntKind.u8 fi]
              (124 : Nat))).heap.size,
          [((0 : Nat), Value.int IntKind.i64 e), ((1 : Nat), Value.slice aq an ac), ((2 : Nat), Value.int IntKind.i64 z), ((3 : Nat), Value.slice nq nn nc), ((4 : Nat), Value.slice lq ln lc),
           ((5 : Nat), Value.bool re), ((6 : Nat), Value.bool po)])] →
       R (Ending.returned (Value.bool !po)) w1
     else
      SX.Ptr p fun (a3 : Addr) =>
       ∃ (t4 : Bool),
        w1.cell? (a3.add (1 : Nat)) = some (Value.bool t4) ∧
         bif !t4 then
          Known w1
            [(w.heap.size,
              [((0 : Nat), Value.int IntKind.i64 k), ((1 : Nat), Value.string s), ((2 : Nat), Value.slice dq dn dc), ((3 : Nat), Value.int IntKind.i64 N), ((4 : Nat), Value.slice kq kn kc),
               ((5 : Nat), Value.int IntKind.i64 nm), ((6 : Nat), Value.int IntKind.u8 fi)]),
             ((w.alloc
                 (Obj.cells #[Value.int IntKind.i64 k, Value.string s, Value.slice dq dn dc, Value.int IntKind.i64 N, Value.slice kq kn kc, Value.int IntKind.i64 nm, Value.int IntKind.u8 fi]
                  (124 : Nat))).heap.size,
              [((0 : Nat), Value.int IntKind.i64 e), ((1 : Nat), Value.slice aq an ac), ((2 : Nat), Value.int IntKind.i64 z), ((3 : Nat), Value.slice nq nn nc), ((4 : Nat), Value.slice lq ln lc),
               ((5 : Nat), Value.bool re), ((6 : Nat), Value.bool po)])] →
           R (Ending.returned (Value.bool !po)) w1
         else
          bif re then
           bif k == (12 : Int) then
            Known w1
              [(w.heap.size,
                [((0 : Nat), Value.int IntKind.i64 k), ((1 : Nat), Value.string s), ((2 : Nat), Value.slice dq dn dc), ((3 : Nat), Value.int IntKind.i64 N), ((4 : Nat), Value.slice kq kn kc),
                 ((5 : Nat), Value.int IntKind.i64 nm), ((6 : Nat), Value.int IntKind.u8 fi)]),
               ((w.alloc
                   (Obj.cells #[Value.int IntKind.i64 k, Value.string s, Value.slice dq dn dc, Value.int IntKind.i64 N, Value.slice kq kn kc, Value.int IntKind.i64 nm, Value.int IntKind.u8 fi]
                    (124 : Nat))).heap.size,
                [((0 : Nat), Value.int IntKind.i64 e), ((1 : Nat), Value.slice aq an ac), ((2 : Nat), Value.int IntKind.i64 z), ((3 : Nat), Value.slice nq nn nc), ((4 : Nat), Value.slice lq ln lc),
                 ((5 : Nat), Value.bool re), ((6 : Nat), Value.bool po)])] →
             R (Ending.returned (Value.bool po)) w1
           else
            bif re then
             bif k == (13 : Int) then
              Known w1
                [(w.heap.size,
                  [((0 : Nat), Value.int IntKind.i64 k), ((1 : Nat), Value.string s), ((2 : Nat), Value.slice dq dn dc), ((3 : Nat), Value.int IntKind.i64 N), ((4 : Nat), Value.slice kq kn kc),
                   ((5 : Nat), Value.int IntKind.i64 nm), ((6 : Nat), Value.int IntKind.u8 fi)]),
                 ((w.alloc
                     (Obj.cells #[Value.int IntKind.i64 k, Value.string s, Value.slice dq dn dc, Value.int IntKind.i64 N, Value.slice kq kn kc, Value.int IntKind.i64 nm, Value.int IntKind.u8 fi]
                      (124 : Nat))).heap.size,
                  [((0 : Nat), Value.int IntKind.i64 e), ((1 : Nat), Value.slice aq an ac), ((2 : Nat), Value.int IntKind.i64 z), ((3 : Nat), Value.slice nq nn nc), ((4 : Nat), Value.slice lq ln lc),
                   ((5 : Nat), Value.bool re), ((6 : Nat), Value.bool po)])] →
               R (Ending.returned (Value.bool true)) w1
             else
              SX.Ptr p fun (a5 : Addr) =>
               ∃ (t6 : Bool),
                w1.drew.cell? (a5.add (2 : Nat)) = some (Value.bool t6) ∧
                 (Known w1.drew
                   [(w.heap.size,
                     [((0 : Nat), Value.int IntKind.i64 k), ((1 : Nat), Value.string s), ((2 : Nat), Value.slice dq dn dc), ((3 : Nat), Value.int IntKind.i64 N), ((4 : Nat), Value.slice kq kn kc),
                      ((5 : Nat), Value.int IntKind.i64 nm), ((6 : Nat), Value.int IntKind.u8 fi)]),
                    ((w.alloc
                        (Obj.cells
                         #[Value.int IntKind.i64 k, Value.string s, Value.slice dq dn dc, Value.int IntKind.i64 N, Value.slice kq kn kc, Value.int IntKind.i64 nm, Value.int IntKind.u8 fi]
                         (124 : Nat))).heap.size,
                     [((0 : Nat), Value.int IntKind.i64 e), ((1 : Nat), Value.slice aq an ac), ((2 : Nat), Value.int IntKind.i64 z), ((3 : Nat), Value.slice nq nn nc),
                      ((4 : Nat), Value.slice lq ln lc), ((5 : Nat), Value.bool re), ((6 : Nat), Value.bool po)])] →
                  R (Ending.returned (Value.bool (po == t6))) w1.drew)
            else
             SX.Ptr p fun (a7 : Addr) =>
              ∃ (t8 : Bool),
               w1.drew.cell? (a7.add (2 : Nat)) = some (Value.bool t8) ∧
                (Known w1.drew
                  [(w.heap.size,
                    [((0 : Nat), Value.int IntKind.i64 k), ((1 : Nat), Value.string s), ((2 : Nat), Value.slice dq dn dc), ((3 : Nat), Value.int IntKind.i64 N), ((4 : Nat), Value.slice kq kn kc),
                     ((5 : Nat), Value.int IntKind.i64 nm), ((6 : Nat), Value.int IntKind.u8 fi)]),
                   ((w.alloc
                       (Obj.cells #[Value.int IntKind.i64 k, Value.string s, Value.slice dq dn dc, Value.int IntKind.i64 N, Value.slice kq kn kc, Value.int IntKind.i64 nm, Value.int IntKind.u8 fi]
                        (124 : Nat))).heap.size,
                    [((0 : Nat), Value.int IntKind.i64 e), ((1 : Nat), Value.slice aq an ac), ((2 : Nat), Value.int IntKind.i64 z), ((3 : Nat), Value.slice nq nn nc),
                     ((4 : Nat), Value.slice lq ln lc), ((5 : Nat), Value.bool re), ((6 : Nat), Value.bool po)])] →
                 R (Ending.returned (Value.bool (po == t8))) w1.drew)
          else
           bif re then
            bif k == (13 : Int) then
             Known w1
               [(w.heap.size,
                 [((0 : Nat), Value.int IntKind.i64 k), ((1 : Nat), Value.string s), ((2 : Nat), Value.slice dq dn dc), ((3 : Nat), Value.int IntKind.i64 N), ((4 : Nat), Value.slice kq kn kc),
                  ((5 : Nat), Value.int IntKind.i64 nm), ((6 : Nat), Value.int IntKind.u8 fi)]),
                ((w.alloc
                    (Obj.cells #[Value.int IntKind.i64 k, Value.string s, Value.slice dq dn dc, Value.int IntKind.i64 N, Value.slice kq kn kc, Value.int IntKind.i64 nm, Value.int IntKind.u8 fi]
                     (124 : Nat))).heap.size,
                 [((0 : Nat), Value.int IntKind.i64 e), ((1 : Nat), Value.slice aq an ac), ((2 : Nat), Value.int IntKind.i64 z), ((3 : Nat), Value.slice nq nn nc), ((4 : Nat), Value.slice lq ln lc),
                  ((5 : Nat), Value.bool re), ((6 : Nat), Value.bool po)])] →
              R (Ending.returned (Value.bool true)) w1
            else
             SX.Ptr p fun (a9 : Addr) =>
              ∃ (t10 : Bool),
               w1.drew.cell? (a9.add (2 : Nat)) = some (Value.bool t10) ∧
                (Known w1.drew
                  [(w.heap.size,
                    [((0 : Nat), Value.int IntKind.i64 k), ((1 : Nat), Value.string s), ((2 : Nat), Value.slice dq dn dc), ((3 : Nat), Value.int IntKind.i64 N), ((4 : Nat), Value.slice kq kn kc),
                     ((5 : Nat), Value.int IntKind.i64 nm), ((6 : Nat), Value.int IntKind.u8 fi)]),
                   ((w.alloc
                       (Obj.cells #[Value.int IntKind.i64 k, Value.string s, Value.slice dq dn dc, Value.int IntKind.i64 N, Value.slice kq kn kc, Value.int IntKind.i64 nm, Value.int IntKind.u8 fi]
                        (124 : Nat))).heap.size,
                    [((0 : Nat), Value.int IntKind.i64 e), ((1 : Nat), Value.slice aq an ac), ((2 : Nat), Value.int IntKind.i64 z), ((3 : Nat), Value.slice nq nn nc),
                     ((4 : Nat), Value.slice lq ln lc), ((5 : Nat), Value.bool re), ((6 : Nat), Value.bool po)])] →
                 R (Ending.returned (Value.bool (po == t10))) w1.drew)
           else
            SX.Ptr p fun (a11 : Addr) =>
             ∃ (t12 : Bool),
              w1.drew.cell? (a11.add (2 : Nat)) = some (Value.bool t12) ∧
               (Known w1.drew
                 [(w.heap.size,
                   [((0 : Nat), Value.int IntKind.i64 k), ((1 : Nat), Value.string s), ((2 : Nat), Value.slice dq dn dc), ((3 : Nat), Value.int IntKind.i64 N), ((4 : Nat), Value.slice kq kn kc),
                    ((5 : Nat), Value.int IntKind.i64 nm), ((6 : Nat), Value.int IntKind.u8 fi)]),
                  ((w.alloc
                      (Obj.cells #[Value.int IntKind.i64 k, Value.string s, Value.slice dq dn dc, Value.int IntKind.i64 N, Value.slice kq kn kc, Value.int IntKind.i64 nm, Value.int IntKind.u8 fi]
                       (124 : Nat))).heap.size,
                   [((0 : Nat), Value.int IntKind.i64 e), ((1 : Nat), Value.slice aq an ac), ((2 : Nat), Value.int IntKind.i64 z), ((3 : Nat), Value.slice nq nn nc), ((4 : Nat), Value.slice lq ln lc),
                    ((5 : Nat), Value.bool re), ((6 : Nat), Value.bool po)])] →
                R (Ending.returned (Value.bool (po == t12))) w1.drew)
theorem vcTryd143 (p : Option Addr) (k : Int) (s : ByteArray) (dq : Option Addr) (dn dc : Nat) (N : Int) (kq : Option Addr) (kn kc : Nat) (nm fi : Int) (e : Int) (aq : Option Addr) (an ac : Nat) (z : Int) (nq : Option Addr) (nn nc : Nat) (lq : Option Addr) (ln lc : Nat) (re po : Bool) (w : World) (R : Ending → World → Prop) : SX.vcFn Tryd.prog [] Tryd.f143 [.v (.pointer p), .v (.agg #[.int .i64 k, .string s, .slice dq dn dc, .int .i64 N, .slice kq kn kc, .int .i64 nm, .int .u8 fi]), .v (.agg #[.int .i64 e, .slice aq an ac, .int .i64 z, .slice nq nn nc, .slice lq ln lc, .bool re, .bool po])] [] w R = VCTryd143 p k s dq dn dc N kq kn kc nm fi e aq an ac z nq nn nc lq ln lc re po w R := by kernel_rfl
def VCTryd144 (p : Option Addr) (k : Int) (s : ByteArray) (dq : Option Addr) (dn dc : Nat) (N : Int) (kq : Option Addr) (kn kc : Nat) (nm fi : Int) (e : Int) (aq : Option Addr) (an ac : Nat) (z : Int) (nq : Option Addr) (nn nc : Nat) (lq : Option Addr) (ln lc : Nat) (re po : Bool) (w : World) (R : Ending → World → Prop) : Prop :=
bif k == (18 : Int) then
 Known
   ((w.alloc (Obj.cells #[Value.int IntKind.i64 k, Value.string s, Value.slice dq dn dc, Value.int IntKind.i64 N, Value.slice kq kn kc, Value.int IntKind.i64 nm, Value.int IntKind.u8 fi] (124 : Nat))).alloc
    (Obj.cells #[Value.int IntKind.i64 e, Value.slice aq an ac, Value.int IntKind.i64 z, Value.slice nq nn nc, Value.slice lq ln lc, Value.bool re, Value.bool po] (126 : Nat)))
   [(w.heap.size,
     [((0 : Nat), Value.int IntKind.i64 k), ((1 : Nat), Value.string s), ((2 : Nat), Value.slice dq dn dc), ((3 : Nat), Value.int IntKind.i64 N), ((4 : Nat), Value.slice kq kn kc),
      ((5 : Nat), Value.int IntKind.i64 nm), ((6 : Nat), Value.int IntKind.u8 fi)]),
    ((w.alloc (Obj.cells #[Value.int IntKind.i64 k, Value.string s, Value.slice dq dn dc, Value.int IntKind.i64 N, Value.slice kq kn kc, Value.int IntKind.i64 nm, Value.int IntKind.u8 fi] (124 : Nat))).heap.size,
     [((0 : Nat), Value.int IntKind.i64 e), ((1 : Nat), Value.slice aq an ac), ((2 : Nat), Value.int IntKind.i64 z), ((3 : Nat), Value.slice nq nn nc), ((4 : Nat), Value.slice lq ln lc), ((5 : Nat), Value.bool re),
      ((6 : Nat), Value.bool po)])] →
  R (Ending.returned (Value.bool true))
   ((w.alloc (Obj.cells #[Value.int IntKind.i64 k, Value.string s, Value.slice dq dn dc, Value.int IntKind.i64 N, Value.slice kq kn kc, Value.int IntKind.i64 nm, Value.int IntKind.u8 fi] (124 : Nat))).alloc
    (Obj.cells #[Value.int IntKind.i64 e, Value.slice aq an ac, Value.int IntKind.i64 z, Value.slice nq nn nc, Value.slice lq ln lc, Value.bool re, Value.bool po] (126 : Nat)))
else
 bif k == (14 : Int) then
  SX.Ptr p fun (a0 : Addr) =>
   ∃ (t1 : Bool),
    ((w.alloc (Obj.cells #[Value.int IntKind.i64 k, Value.string s, Value.slice dq dn dc, Value.int IntKind.i64 N, Value.slice kq kn kc, Value.int IntKind.i64 nm, Value.int IntKind.u8 fi] (124 : Nat))).alloc
         (Obj.cells #[Value.int IntKind.i64 e, Value.slice aq an ac, Value.int IntKind.i64 z, Value.slice nq nn nc, Value.slice lq ln lc, Value.bool re, Value.bool po] (126 : Nat))).cell?
       (a0.add (1 : Nat)) =
      some (Value.bool t1) ∧
     bif !t1 then
      Known
        ((w.alloc (Obj.cells #[Value.int IntKind.i64 k, Value.string s, Value.slice dq dn dc, Value.int IntKind.i64 N, Value.slice kq kn kc, Value.int IntKind.i64 nm, Value.int IntKind.u8 fi] (124 : Nat))).alloc
         (Obj.cells #[Value.int IntKind.i64 e, Value.slice aq an ac, Value.int IntKind.i64 z, Value.slice nq nn nc, Value.slice lq ln lc, Value.bool re, Value.bool po] (126 : Nat)))
        [(w.heap.size,
          [((0 : Nat), Value.int IntKind.i64 k), ((1 : Nat), Value.string s), ((2 : Nat), Value.slice dq dn dc), ((3 : Nat), Value.int IntKind.i64 N), ((4 : Nat), Value.slice kq kn kc),
           ((5 : Nat), Value.int IntKind.i64 nm), ((6 : Nat), Value.int IntKind.u8 fi)]),
         ((w.alloc
             (Obj.cells #[Value.int IntKind.i64 k, Value.string s, Value.slice dq dn dc, Value.int IntKind.i64 N, Value.slice kq kn kc, Value.int IntKind.i64 nm, Value.int IntKind.u8 fi]
              (124 : Nat))).heap.size,
          [((0 : Nat), Value.int IntKind.i64 e), ((1 : Nat), Value.slice aq an ac), ((2 : Nat), Value.int IntKind.i64 z), ((3 : Nat), Value.slice nq nn nc), ((4 : Nat), Value.slice lq ln lc),
           ((5 : Nat), Value.bool re), ((6 : Nat), Value.bool po)])] →
       R (Ending.returned (Value.bool true))
        ((w.alloc (Obj.cells #[Value.int IntKind.i64 k, Value.string s, Value.slice dq dn dc, Value.int IntKind.i64 N, Value.slice kq kn kc, Value.int IntKind.i64 nm, Value.int IntKind.u8 fi] (124 : Nat))).alloc
         (Obj.cells #[Value.int IntKind.i64 e, Value.slice aq an ac, Value.int IntKind.i64 z, Value.slice nq nn nc, Value.slice lq ln lc, Value.bool re, Value.bool po] (126 : Nat)))
     else
      Known
        ((w.alloc (Obj.cells #[Value.int IntKind.i64 k, Value.string s, Value.slice dq dn dc, Value.int IntKind.i64 N, Value.slice kq kn kc, Value.int IntKind.i64 nm, Value.int IntKind.u8 fi] (124 : Nat))).alloc
         (Obj.cells #[Value.int IntKind.i64 e, Value.slice aq an ac, Value.int IntKind.i64 z, Value.slice nq nn nc, Value.slice lq ln lc, Value.bool re, Value.bool po] (126 : Nat)))
        [(w.heap.size,
          [((0 : Nat), Value.int IntKind.i64 k), ((1 : Nat), Value.string s), ((2 : Nat), Value.slice dq dn dc), ((3 : Nat), Value.int IntKind.i64 N), ((4 : Nat), Value.slice kq kn kc),
           ((5 : Nat), Value.int IntKind.i64 nm), ((6 : Nat), Value.int IntKind.u8 fi)]),
         ((w.alloc
             (Obj.cells #[Value.int IntKind.i64 k, Value.string s, Value.slice dq dn dc, Value.int IntKind.i64 N, Value.slice kq kn kc, Value.int IntKind.i64 nm, Value.int IntKind.u8 fi]
              (124 : Nat))).heap.size,
          [((0 : Nat), Value.int IntKind.i64 e), ((1 : Nat), Value.slice aq an ac), ((2 : Nat), Value.int IntKind.i64 z), ((3 : Nat), Value.slice nq nn nc), ((4 : Nat), Value.slice lq ln lc),
           ((5 : Nat), Value.bool re), ((6 : Nat), Value.bool po)])] →
       R (Ending.returned (Value.bool (e != (8 : Int))))
        ((w.alloc (Obj.cells #[Value.int IntKind.i64 k, Value.string s, Value.slice dq dn dc, Value.int IntKind.i64 N, Value.slice kq kn kc, Value.int IntKind.i64 nm, Value.int IntKind.u8 fi] (124 : Nat))).alloc
         (Obj.cells #[Value.int IntKind.i64 e, Value.slice aq an ac, Value.int IntKind.i64 z, Value.slice nq nn nc, Value.slice lq ln lc, Value.bool re, Value.bool po] (126 : Nat)))
 else
  bif k == (2 : Int) then
   SX.Ptr p fun (a2 : Addr) =>
    ∃ (t3 : Bool),
     ((w.alloc (Obj.cells #[Value.int IntKind.i64 k, Value.string s, Value.slice dq dn dc, Value.int IntKind.i64 N, Value.slice kq kn kc, Value.int IntKind.i64 nm, Value.int IntKind.u8 fi] (124 : Nat))).alloc
          (Obj.cells #[Value.int IntKind.i64 e, Value.slice aq an ac, Value.int IntKind.i64 z, Value.slice nq nn nc, Value.slice lq ln lc, Value.bool re, Value.bool po] (126 : Nat))).cell?
        (a2.add (1 : Nat)) =
       some (Value.bool t3) ∧
      bif !t3 then
       Known
         ((w.alloc
            (Obj.cells #[Value.int IntKind.i64 k, Value.string s, Value.slice dq dn dc, Value.int IntKind.i64 N, Value.slice kq kn kc, Value.int IntKind.i64 nm, Value.int IntKind.u8 fi] (124 : Nat))).alloc
          (Obj.cells #[Value.int IntKind.i64 e, Value.slice aq an ac, Value.int IntKind.i64 z, Value.slice nq nn nc, Value.slice lq ln lc, Value.bool re, Value.bool po] (126 : Nat)))
         [(w.heap.size,
           [((0 : Nat), Value.int IntKind.i64 k), ((1 : Nat), Value.string s), ((2 : Nat), Value.slice dq dn dc), ((3 : Nat), Value.int IntKind.i64 N), ((4 : Nat), Value.slice kq kn kc),
            ((5 : Nat), Value.int IntKind.i64 nm), ((6 : Nat), Value.int IntKind.u8 fi)]),
          ((w.alloc
              (Obj.cells #[Value.int IntKind.i64 k, Value.string s, Value.slice dq dn dc, Value.int IntKind.i64 N, Value.slice kq kn kc, Value.int IntKind.i64 nm, Value.int IntKind.u8 fi]
               (124 : Nat))).heap.size,
           [((0 : Nat), Value.int IntKind.i64 e), ((1 : Nat), Value.slice aq an ac), ((2 : Nat), Value.int IntKind.i64 z), ((3 : Nat), Value.slice nq nn nc), ((4 : Nat), Value.slice lq ln lc),
            ((5 : Nat), Value.bool re), ((6 : Nat), Value.bool po)])] →
        R (Ending.returned (Value.bool (e != (0 : Int))))
         ((w.alloc
            (Obj.cells #[Value.int IntKind.i64 k, Value.string s, Value.slice dq dn dc, Value.int IntKind.i64 N, Value.slice kq kn kc, Value.int IntKind.i64 nm, Value.int IntKind.u8 fi] (124 : Nat))).alloc
          (Obj.cells #[Value.int IntKind.i64 e, Value.slice aq an ac, Value.int IntKind.i64 z, Value.slice nq nn nc, Value.slice lq ln lc, Value.bool re, Value.bool po] (126 : Nat)))
      else
       Known
         ((w.alloc
            (Obj.cells #[Value.int IntKind.i64 k, Value.string s, Value.slice dq dn dc, Value.int IntKind.i64 N, Value.slice kq kn kc, Value.int IntKind.i64 nm, Value.int IntKind.u8 fi] (124 : Nat))).alloc
          (Obj.cells #[Value.int IntKind.i64 e, Value.slice aq an ac, Value.int IntKind.i64 z, Value.slice nq nn nc, Value.slice lq ln lc, Value.bool re, Value.bool po] (126 : Nat)))
         [(w.heap.size,
           [((0 : Nat), Value.int IntKind.i64 k), ((1 : Nat), Value.string s), ((2 : Nat), Value.slice dq dn dc), ((3 : Nat), Value.int IntKind.i64 N), ((4 : Nat), Value.slice kq kn kc),
            ((5 : Nat), Value.int IntKind.i64 nm), ((6 : Nat), Value.int IntKind.u8 fi)]),
          ((w.alloc
              (Obj.cells #[Value.int IntKind.i64 k, Value.string s, Value.slice dq dn dc, Value.int IntKind.i64 N, Value.slice kq kn kc, Value.int IntKind.i64 nm, Value.int IntKind.u8 fi]
               (124 : Nat))).heap.size,
           [((0 : Nat), Value.int IntKind.i64 e), ((1 : Nat), Value.slice aq an ac), ((2 : Nat), Value.int IntKind.i64 z), ((3 : Nat), Value.slice nq nn nc), ((4 : Nat), Value.slice lq ln lc),
            ((5 : Nat), Value.bool re), ((6 : Nat), Value.bool po)])] →
        R (Ending.returned (Value.bool false))
         ((w.alloc
            (Obj.cells #[Value.int IntKind.i64 k, Value.string s, Value.slice dq dn dc, Value.int IntKind.i64 N, Value.slice kq kn kc, Value.int IntKind.i64 nm, Value.int IntKind.u8 fi] (124 : Nat))).alloc
          (Obj.cells #[Value.int IntKind.i64 e, Value.slice aq an ac, Value.int IntKind.i64 z, Value.slice nq nn nc, Value.slice lq ln lc, Value.bool re, Value.bool po] (126 : Nat)))
  else
   SX.Ptr p fun (a4 : Addr) =>
    ∃ (t5 : Bool),
     ((w.alloc (Obj.cells #[Value.int IntKind.i64 k, Value.string s, Value.slice dq dn dc, Value.int IntKind.i64 N, Value.slice kq kn kc, Value.int IntKind.i64 nm, Value.int IntKind.u8 fi] (124 : Nat))).alloc
          (Obj.cells #[Value.int IntKind.i64 e, Value.slice aq an ac, Value.int IntKind.i64 z, Value.slice nq nn nc, Value.slice lq ln lc, Value.bool re, Value.bool po] (126 : Nat))).cell?
        (a4.add (1 : Nat)) =
       some (Value.bool t5) ∧
      (Known
        ((w.alloc (Obj.cells #[Value.int IntKind.i64 k, Value.string s, Value.slice dq dn dc, Value.int IntKind.i64 N, Value.slice kq kn kc, Value.int IntKind.i64 nm, Value.int IntKind.u8 fi] (124 : Nat))).alloc
         (Obj.cells #[Value.int IntKind.i64 e, Value.slice aq an ac, Value.int IntKind.i64 z, Value.slice nq nn nc, Value.slice lq ln lc, Value.bool re, Value.bool po] (126 : Nat)))
        [(w.heap.size,
          [((0 : Nat), Value.int IntKind.i64 k), ((1 : Nat), Value.string s), ((2 : Nat), Value.slice dq dn dc), ((3 : Nat), Value.int IntKind.i64 N), ((4 : Nat), Value.slice kq kn kc),
           ((5 : Nat), Value.int IntKind.i64 nm), ((6 : Nat), Value.int IntKind.u8 fi)]),
         ((w.alloc
             (Obj.cells #[Value.int IntKind.i64 k, Value.string s, Value.slice dq dn dc, Value.int IntKind.i64 N, Value.slice kq kn kc, Value.int IntKind.i64 nm, Value.int IntKind.u8 fi]
              (124 : Nat))).heap.size,
          [((0 : Nat), Value.int IntKind.i64 e), ((1 : Nat), Value.slice aq an ac), ((2 : Nat), Value.int IntKind.i64 z), ((3 : Nat), Value.slice nq nn nc), ((4 : Nat), Value.slice lq ln lc),
           ((5 : Nat), Value.bool re), ((6 : Nat), Value.bool po)])] →
       R (Ending.returned (Value.bool !t5))
        ((w.alloc (Obj.cells #[Value.int IntKind.i64 k, Value.string s, Value.slice dq dn dc, Value.int IntKind.i64 N, Value.slice kq kn kc, Value.int IntKind.i64 nm, Value.int IntKind.u8 fi] (124 : Nat))).alloc
         (Obj.cells #[Value.int IntKind.i64 e, Value.slice aq an ac, Value.int IntKind.i64 z, Value.slice nq nn nc, Value.slice lq ln lc, Value.bool re, Value.bool po] (126 : Nat))))
theorem vcTryd144 (p : Option Addr) (k : Int) (s : ByteArray) (dq : Option Addr) (dn dc : Nat) (N : Int) (kq : Option Addr) (kn kc : Nat) (nm fi : Int) (e : Int) (aq : Option Addr) (an ac : Nat) (z : Int) (nq : Option Addr) (nn nc : Nat) (lq : Option Addr) (ln lc : Nat) (re po : Bool) (w : World) (R : Ending → World → Prop) : SX.vcFn Tryd.prog [] Tryd.f144 [.v (.pointer p), .v (.agg #[.int .i64 k, .string s, .slice dq dn dc, .int .i64 N, .slice kq kn kc, .int .i64 nm, .int .u8 fi]), .v (.agg #[.int .i64 e, .slice aq an ac, .int .i64 z, .slice nq nn nc, .slice lq ln lc, .bool re, .bool po])] [] w R = VCTryd144 p k s dq dn dc N kq kn kc nm fi e aq an ac z nq nn nc lq ln lc re po w R := by kernel_rfl
end Go.Proofs.YtbpknjldphckgaaDoor
