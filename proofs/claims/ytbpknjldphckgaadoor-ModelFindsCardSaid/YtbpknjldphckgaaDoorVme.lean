/- The conditions of functions, as the executor computes them: each is equal to what 'vcFn' says. -/
import Derived.Test.YtbpknjldphckgaaDoorSxLib
import Derived.Test.YtbpknjldphckgaaDoorProg
namespace Go.Proofs.YtbpknjldphckgaaDoor
open Go Go.SX Go.Proofs
set_option maxRecDepth 100000
set_option linter.unusedVariables false
def VCTryd83 (w : World) (R : Ending → World → Prop) : Prop :=
Rets Tryd.prog (97 : Nat) #[] w fun (v0 : Value) (w1 : World) =>
 ∃ (q2 : Option Addr),
  v0 = Value.pointer q2 ∧
   Keeps w w1 [] ∧
    bif !q2.isNone then
     Rets Tryd.prog (94 : Nat)
      #[Value.pointer q2,
       Value.agg
        #[Value.int IntKind.i64 (2 : Int), Value.string { data := #[] }, Value.slice none (0 : Nat) (0 : Nat), Value.int IntKind.i64 (0 : Int), Value.slice none (0 : Nat) (0 : Nat),
         Value.int IntKind.i64 (0 : Int), Value.int IntKind.u8 (0 : Int)],
       Value.agg
        #[Value.int IntKind.i64 (7 : Int), Value.slice none (0 : Nat) (0 : Nat), Value.int IntKind.i64 (0 : Int), Value.slice none (0 : Nat) (0 : Nat), Value.slice none (0 : Nat) (0 : Nat), Value.bool false,
         Value.bool false]]
      w1 fun (v3 : Value) (w4 : World) =>
      ∃ (t5 : Bool),
       v3 = Value.bool t5 ∧
        Keeps w1 w4 [] ∧
         bif t5 then
          Rets Tryd.prog (94 : Nat)
           #[Value.pointer q2,
            Value.agg
             #[Value.int IntKind.i64 (2 : Int), Value.string { data := #[] }, Value.slice none (0 : Nat) (0 : Nat), Value.int IntKind.i64 (0 : Int), Value.slice none (0 : Nat) (0 : Nat),
              Value.int IntKind.i64 (0 : Int), Value.int IntKind.u8 (0 : Int)],
            Value.agg
             #[Value.int IntKind.i64 (0 : Int), Value.slice none (0 : Nat) (0 : Nat), Value.int IntKind.i64 (0 : Int), Value.slice none (0 : Nat) (0 : Nat), Value.slice none (0 : Nat) (0 : Nat),
              Value.bool false, Value.bool false]]
           w4 fun (v6 : Value) (w7 : World) =>
           ∃ (t8 : Bool),
            v6 = Value.bool t8 ∧
             Keeps w4 w7 [] ∧
              bif !t8 then
               Rets Tryd.prog (95 : Nat) #[Value.pointer q2, Value.agg #[Value.bool true, Value.slice none (0 : Nat) (0 : Nat)]] w7 fun (v9 : Value) (w10 : World) =>
                ∃ (t11 : Bool), v9 = Value.bool t11 ∧ Keeps w7 w10 [] ∧ R (Ending.returned (Value.bool !t11)) w10
              else R (Ending.returned (Value.bool false)) w7
         else R (Ending.returned (Value.bool false)) w4
    else R (Ending.returned (Value.bool false)) w1
theorem vcTryd83 (w : World) (R : Ending → World → Prop) : SX.vcFn Tryd.prog [] Tryd.f83 [] [] w R = VCTryd83  w R := by kernel_rfl
def VCTryd24 (k : Int) (s : ByteArray) (dq : Option Addr) (dn dc : Nat) (N : Int) (kq : Option Addr) (kn kc : Nat) (nm fi : Int) (e : Int) (aq : Option Addr) (an ac : Nat) (z : Int) (nq : Option Addr) (nn nc : Nat) (lq : Option Addr) (ln lc : Nat) (re po : Bool) (th : Bool) (sq : Option Addr) (sn sc : Nat) (w : World) (R : Ending → World → Prop) : Prop :=
Known
  (((w.alloc (Obj.cells #[Value.int IntKind.i64 k, Value.string s, Value.slice dq dn dc, Value.int IntKind.i64 N, Value.slice kq kn kc, Value.int IntKind.i64 nm, Value.int IntKind.u8 fi] (124 : Nat))).alloc
     (Obj.cells #[Value.int IntKind.i64 e, Value.slice aq an ac, Value.int IntKind.i64 z, Value.slice nq nn nc, Value.slice lq ln lc, Value.bool re, Value.bool po] (126 : Nat))).alloc
   (Obj.cells #[Value.bool th, Value.slice sq sn sc] (130 : Nat)))
  [(w.heap.size,
    [((0 : Nat), Value.int IntKind.i64 k), ((1 : Nat), Value.string s), ((2 : Nat), Value.slice dq dn dc), ((3 : Nat), Value.int IntKind.i64 N), ((4 : Nat), Value.slice kq kn kc),
     ((5 : Nat), Value.int IntKind.i64 nm), ((6 : Nat), Value.int IntKind.u8 fi)]),
   ((w.alloc (Obj.cells #[Value.int IntKind.i64 k, Value.string s, Value.slice dq dn dc, Value.int IntKind.i64 N, Value.slice kq kn kc, Value.int IntKind.i64 nm, Value.int IntKind.u8 fi] (124 : Nat))).heap.size,
    [((0 : Nat), Value.int IntKind.i64 e), ((1 : Nat), Value.slice aq an ac), ((2 : Nat), Value.int IntKind.i64 z), ((3 : Nat), Value.slice nq nn nc), ((4 : Nat), Value.slice lq ln lc), ((5 : Nat), Value.bool re),
     ((6 : Nat), Value.bool po)]),
   (((w.alloc (Obj.cells #[Value.int IntKind.i64 k, Value.string s, Value.slice dq dn dc, Value.int IntKind.i64 N, Value.slice kq kn kc, Value.int IntKind.i64 nm, Value.int IntKind.u8 fi] (124 : Nat))).alloc
       (Obj.cells #[Value.int IntKind.i64 e, Value.slice aq an ac, Value.int IntKind.i64 z, Value.slice nq nn nc, Value.slice lq ln lc, Value.bool re, Value.bool po] (126 : Nat))).heap.size,
    [((0 : Nat), Value.bool th), ((1 : Nat), Value.slice sq sn sc)])] →
 Rets Tryd.prog (101 : Nat) #[Value.pointer none]
  (((w.alloc (Obj.cells #[Value.int IntKind.i64 k, Value.string s, Value.slice dq dn dc, Value.int IntKind.i64 N, Value.slice kq kn kc, Value.int IntKind.i64 nm, Value.int IntKind.u8 fi] (124 : Nat))).alloc
     (Obj.cells #[Value.int IntKind.i64 e, Value.slice aq an ac, Value.int IntKind.i64 z, Value.slice nq nn nc, Value.slice lq ln lc, Value.bool re, Value.bool po] (126 : Nat))).alloc
   (Obj.cells #[Value.bool th, Value.slice sq sn sc] (130 : Nat)))
  fun (v0 : Value) (w1 : World) =>
  ∃ (q2 : Option Addr),
   ∃ (n3 : Nat),
    ∃ (n4 : Nat),
     ∃ (t5 : Bool),
      v0 = Value.tuple #[Value.slice q2 n3 n4, Value.bool t5] ∧
       Keeps
         (((w.alloc
              (Obj.cells #[Value.int IntKind.i64 k, Value.string s, Value.slice dq dn dc, Value.int IntKind.i64 N, Value.slice kq kn kc, Value.int IntKind.i64 nm, Value.int IntKind.u8 fi]
               (124 : Nat))).alloc
            (Obj.cells #[Value.int IntKind.i64 e, Value.slice aq an ac, Value.int IntKind.i64 z, Value.slice nq nn nc, Value.slice lq ln lc, Value.bool re, Value.bool po] (126 : Nat))).alloc
          (Obj.cells #[Value.bool th, Value.slice sq sn sc] (130 : Nat)))
         w1
         [w.heap.size,
          (w.alloc
             (Obj.cells #[Value.int IntKind.i64 k, Value.string s, Value.slice dq dn dc, Value.int IntKind.i64 N, Value.slice kq kn kc, Value.int IntKind.i64 nm, Value.int IntKind.u8 fi]
              (124 : Nat))).heap.size,
          ((w.alloc
               (Obj.cells #[Value.int IntKind.i64 k, Value.string s, Value.slice dq dn dc, Value.int IntKind.i64 N, Value.slice kq kn kc, Value.int IntKind.i64 nm, Value.int IntKind.u8 fi]
                (124 : Nat))).alloc
             (Obj.cells #[Value.int IntKind.i64 e, Value.slice aq an ac, Value.int IntKind.i64 z, Value.slice nq nn nc, Value.slice lq ln lc, Value.bool re, Value.bool po] (126 : Nat))).heap.size] ∧
        (Known w1
          [(w.heap.size,
            [((0 : Nat), Value.int IntKind.i64 k), ((1 : Nat), Value.string s), ((2 : Nat), Value.slice dq dn dc), ((3 : Nat), Value.int IntKind.i64 N), ((4 : Nat), Value.slice kq kn kc),
             ((5 : Nat), Value.int IntKind.i64 nm), ((6 : Nat), Value.int IntKind.u8 fi)]),
           ((w.alloc
               (Obj.cells #[Value.int IntKind.i64 k, Value.string s, Value.slice dq dn dc, Value.int IntKind.i64 N, Value.slice kq kn kc, Value.int IntKind.i64 nm, Value.int IntKind.u8 fi]
                (124 : Nat))).heap.size,
            [((0 : Nat), Value.int IntKind.i64 e), ((1 : Nat), Value.slice aq an ac), ((2 : Nat), Value.int IntKind.i64 z), ((3 : Nat), Value.slice nq nn nc), ((4 : Nat), Value.slice lq ln lc),
             ((5 : Nat), Value.bool re), ((6 : Nat), Value.bool po)]),
           (((w.alloc
                 (Obj.cells #[Value.int IntKind.i64 k, Value.string s, Value.slice dq dn dc, Value.int IntKind.i64 N, Value.slice kq kn kc, Value.int IntKind.i64 nm, Value.int IntKind.u8 fi]
                  (124 : Nat))).alloc
               (Obj.cells #[Value.int IntKind.i64 e, Value.slice aq an ac, Value.int IntKind.i64 z, Value.slice nq nn nc, Value.slice lq ln lc, Value.bool re, Value.bool po] (126 : Nat))).heap.size,
            [((0 : Nat), Value.bool th), ((1 : Nat), Value.slice sq sn sc)])] →
         Rets Tryd.prog (94 : Nat)
          #[Value.pointer none, Value.agg #[Value.int IntKind.i64 k, Value.string s, Value.slice dq dn dc, Value.int IntKind.i64 N, Value.slice kq kn kc, Value.int IntKind.i64 nm, Value.int IntKind.u8 fi],
           Value.agg #[Value.int IntKind.i64 e, Value.slice aq an ac, Value.int IntKind.i64 z, Value.slice nq nn nc, Value.slice lq ln lc, Value.bool re, Value.bool po]]
          w1 fun (v6 : Value) (w7 : World) =>
          ∃ (t8 : Bool),
           v6 = Value.bool t8 ∧
            Keeps w1 w7
              [w.heap.size,
               (w.alloc
                  (Obj.cells #[Value.int IntKind.i64 k, Value.string s, Value.slice dq dn dc, Value.int IntKind.i64 N, Value.slice kq kn kc, Value.int IntKind.i64 nm, Value.int IntKind.u8 fi]
                   (124 : Nat))).heap.size,
               ((w.alloc
                    (Obj.cells #[Value.int IntKind.i64 k, Value.string s, Value.slice dq dn dc, Value.int IntKind.i64 N, Value.slice kq kn kc, Value.int IntKind.i64 nm, Value.int IntKind.u8 fi]
                     (124 : Nat))).alloc
                  (Obj.cells #[Value.int IntKind.i64 e, Value.slice aq an ac, Value.int IntKind.i64 z, Value.slice nq nn nc, Value.slice lq ln lc, Value.bool re, Value.bool po]
                   (126 : Nat))).heap.size] ∧
             bif !t8 then
              Known w7
                [(w.heap.size,
                  [((0 : Nat), Value.int IntKind.i64 k), ((1 : Nat), Value.string s), ((2 : Nat), Value.slice dq dn dc), ((3 : Nat), Value.int IntKind.i64 N), ((4 : Nat), Value.slice kq kn kc),
                   ((5 : Nat), Value.int IntKind.i64 nm), ((6 : Nat), Value.int IntKind.u8 fi)]),
                 ((w.alloc
                     (Obj.cells #[Value.int IntKind.i64 k, Value.string s, Value.slice dq dn dc, Value.int IntKind.i64 N, Value.slice kq kn kc, Value.int IntKind.i64 nm, Value.int IntKind.u8 fi]
                      (124 : Nat))).heap.size,
                  [((0 : Nat), Value.int IntKind.i64 e), ((1 : Nat), Value.slice aq an ac), ((2 : Nat), Value.int IntKind.i64 z), ((3 : Nat), Value.slice nq nn nc), ((4 : Nat), Value.slice lq ln lc),
                   ((5 : Nat), Value.bool re), ((6 : Nat), Value.bool po)]),
                 (((w.alloc
                       (Obj.cells #[Value.int IntKind.i64 k, Value.string s, Value.slice dq dn dc, Value.int IntKind.i64 N, Value.slice kq kn kc, Value.int IntKind.i64 nm, Value.int IntKind.u8 fi]
                        (124 : Nat))).alloc
                     (Obj.cells #[Value.int IntKind.i64 e, Value.slice aq an ac, Value.int IntKind.i64 z, Value.slice nq nn nc, Value.slice lq ln lc, Value.bool re, Value.bool po]
                      (126 : Nat))).heap.size,
                  [((0 : Nat), Value.bool th), ((1 : Nat), Value.slice sq sn sc)])] →
               Rets Tryd.prog (95 : Nat) #[Value.pointer none, Value.agg #[Value.bool th, Value.slice sq sn sc]] w7 fun (v9 : Value) (w10 : World) =>
                ∃ (t11 : Bool),
                 v9 = Value.bool t11 ∧
                  Keeps w7 w10
                    [w.heap.size,
                     (w.alloc
                        (Obj.cells
                         #[Value.int IntKind.i64 k, Value.string s, Value.slice dq dn dc, Value.int IntKind.i64 N, Value.slice kq kn kc, Value.int IntKind.i64 nm, Value.int IntKind.u8 fi]
                         (124 : Nat))).heap.size,
                     ((w.alloc
                          (Obj.cells
                           #[Value.int IntKind.i64 k, Value.string s, Value.slice dq dn dc, Value.int IntKind.i64 N, Value.slice kq kn kc, Value.int IntKind.i64 nm, Value.int IntKind.u8 fi]
                           (124 : Nat))).alloc
                        (Obj.cells #[Value.int IntKind.i64 e, Value.slice aq an ac, Value.int IntKind.i64 z, Value.slice nq nn nc, Value.slice lq ln lc, Value.bool re, Value.bool po]
                         (126 : Nat))).heap.size] ∧
                   bif !t11 then
                    bif !t5 then
                     bif (↑n3 : Int) == (0 : Int) then
                      Known w10
                        [(w.heap.size,
                          [((0 : Nat), Value.int IntKind.i64 k), ((1 : Nat), Value.string s), ((2 : Nat), Value.slice dq dn dc), ((3 : Nat), Value.int IntKind.i64 N),
                           ((4 : Nat), Value.slice kq kn kc), ((5 : Nat), Value.int IntKind.i64 nm), ((6 : Nat), Value.int IntKind.u8 fi)]),
                         ((w.alloc
                             (Obj.cells
                              #[Value.int IntKind.i64 k, Value.string s, Value.slice dq dn dc, Value.int IntKind.i64 N, Value.slice kq kn kc, Value.int IntKind.i64 nm,
                               Value.int IntKind.u8 fi]
                              (124 : Nat))).heap.size,
                          [((0 : Nat), Value.int IntKind.i64 e), ((1 : Nat), Value.slice aq an ac), ((2 : Nat), Value.int IntKind.i64 z), ((3 : Nat), Value.slice nq nn nc),
                           ((4 : Nat), Value.slice lq ln lc), ((5 : Nat), Value.bool re), ((6 : Nat), Value.bool po)]),
                         (((w.alloc
                               (Obj.cells
                                #[Value.int IntKind.i64 k, Value.string s, Value.slice dq dn dc, Value.int IntKind.i64 N, Value.slice kq kn kc, Value.int IntKind.i64 nm,
                                 Value.int IntKind.u8 fi]
                                (124 : Nat))).alloc
                             (Obj.cells #[Value.int IntKind.i64 e, Value.slice aq an ac, Value.int IntKind.i64 z, Value.slice nq nn nc, Value.slice lq ln lc, Value.bool re, Value.bool po]
                              (126 : Nat))).heap.size,
                          [((0 : Nat), Value.bool th), ((1 : Nat), Value.slice sq sn sc)])] →
                       Rets Tryd.prog (83 : Nat) #[] w10 fun (v12 : Value) (w13 : World) =>
                        ∃ (t14 : Bool),
                         v12 = Value.bool t14 ∧
                          Keeps w10 w13
                            [w.heap.size,
                             (w.alloc
                                (Obj.cells
                                 #[Value.int IntKind.i64 k, Value.string s, Value.slice dq dn dc, Value.int IntKind.i64 N, Value.slice kq kn kc, Value.int IntKind.i64 nm,
                                  Value.int IntKind.u8 fi]
                                 (124 : Nat))).heap.size,
                             ((w.alloc
                                  (Obj.cells
                                   #[Value.int IntKind.i64 k, Value.string s, Value.slice dq dn dc, Value.int IntKind.i64 N, Value.slice kq kn kc, Value.int IntKind.i64 nm,
                                    Value.int IntKind.u8 fi]
                                   (124 : Nat))).alloc
                                (Obj.cells
                                 #[Value.int IntKind.i64 e, Value.slice aq an ac, Value.int IntKind.i64 z, Value.slice nq nn nc, Value.slice lq ln lc, Value.bool re, Value.bool po]
                                 (126 : Nat))).heap.size] ∧
                           (Known w13
                             [(w.heap.size,
                               [((0 : Nat), Value.int IntKind.i64 k), ((1 : Nat), Value.string s), ((2 : Nat), Value.slice dq dn dc), ((3 : Nat), Value.int IntKind.i64 N),
                                ((4 : Nat), Value.slice kq kn kc), ((5 : Nat), Value.int IntKind.i64 nm), ((6 : Nat), Value.int IntKind.u8 fi)]),
                              ((w.alloc
                                  (Obj.cells
                                   #[Value.int IntKind.i64 k, Value.string s, Value.slice dq dn dc, Value.int IntKind.i64 N, Value.slice kq kn kc, Value.int IntKind.i64 nm,
                                    Value.int IntKind.u8 fi]
                                   (124 : Nat))).heap.size,
                               [((0 : Nat), Value.int IntKind.i64 e), ((1 : Nat), Value.slice aq an ac), ((2 : Nat), Value.int IntKind.i64 z), ((3 : Nat), Value.slice nq nn nc),
                                ((4 : Nat), Value.slice lq ln lc), ((5 : Nat), Value.bool re), ((6 : Nat), Value.bool po)]),
                              (((w.alloc
                                    (Obj.cells
                                     #[Value.int IntKind.i64 k, Value.string s, Value.slice dq dn dc, Value.int IntKind.i64 N, Value.slice kq kn kc, Value.int IntKind.i64 nm,
                                      Value.int IntKind.u8 fi]
                                     (124 : Nat))).alloc
                                  (Obj.cells
                                   #[Value.int IntKind.i64 e, Value.slice aq an ac, Value.int IntKind.i64 z, Value.slice nq nn nc, Value.slice lq ln lc, Value.bool re, Value.bool po]
                                   (126 : Nat))).heap.size,
                               [((0 : Nat), Value.bool th), ((1 : Nat), Value.slice sq sn sc)])] →
                            R (Ending.returned (Value.bool t14)) w13)
                     else
                      Known w10
                        [(w.heap.size,
                          [((0 : Nat), Value.int IntKind.i64 k), ((1 : Nat), Value.string s), ((2 : Nat), Value.slice dq dn dc), ((3 : Nat), Value.int IntKind.i64 N),
                           ((4 : Nat), Value.slice kq kn kc), ((5 : Nat), Value.int IntKind.i64 nm), ((6 : Nat), Value.int IntKind.u8 fi)]),
                         ((w.alloc
                             (Obj.cells
                              #[Value.int IntKind.i64 k, Value.string s, Value.slice dq dn dc, Value.int IntKind.i64 N, Value.slice kq kn kc, Value.int IntKind.i64 nm,
                               Value.int IntKind.u8 fi]
                              (124 : Nat))).heap.size,
                          [((0 : Nat), Value.int IntKind.i64 e), ((1 : Nat), Value.slice aq an ac), ((2 : Nat), Value.int IntKind.i64 z), ((3 : Nat), Value.slice nq nn nc),
                           ((4 : Nat), Value.slice lq ln lc), ((5 : Nat), Value.bool re), ((6 : Nat), Value.bool po)]),
                         (((w.alloc
                               (Obj.cells
                                #[Value.int IntKind.i64 k, Value.string s, Value.slice dq dn dc, Value.int IntKind.i64 N, Value.slice kq kn kc, Value.int IntKind.i64 nm,
                                 Value.int IntKind.u8 fi]
                                (124 : Nat))).alloc
                             (Obj.cells #[Value.int IntKind.i64 e, Value.slice aq an ac, Value.int IntKind.i64 z, Value.slice nq nn nc, Value.slice lq ln lc, Value.bool re, Value.bool po]
                              (126 : Nat))).heap.size,
                          [((0 : Nat), Value.bool th), ((1 : Nat), Value.slice sq sn sc)])] →
                       R (Ending.returned (Value.bool false)) w10
                    else
                     Known w10
                       [(w.heap.size,
                         [((0 : Nat), Value.int IntKind.i64 k), ((1 : Nat), Value.string s), ((2 : Nat), Value.slice dq dn dc), ((3 : Nat), Value.int IntKind.i64 N),
                          ((4 : Nat), Value.slice kq kn kc), ((5 : Nat), Value.int IntKind.i64 nm), ((6 : Nat), Value.int IntKind.u8 fi)]),
                        ((w.alloc
                            (Obj.cells
                             #[Value.int IntKind.i64 k, Value.string s, Value.slice dq dn dc, Value.int IntKind.i64 N, Value.slice kq kn kc, Value.int IntKind.i64 nm, Value.int IntKind.u8 fi]
                             (124 : Nat))).heap.size,
                         [((0 : Nat), Value.int IntKind.i64 e), ((1 : Nat), Value.slice aq an ac), ((2 : Nat), Value.int IntKind.i64 z), ((3 : Nat), Value.slice nq nn nc),
                          ((4 : Nat), Value.slice lq ln lc), ((5 : Nat), Value.bool re), ((6 : Nat), Value.bool po)]),
                        (((w.alloc
                              (Obj.cells
                               #[Value.int IntKind.i64 k, Value.string s, Value.slice dq dn dc, Value.int IntKind.i64 N, Value.slice kq kn kc, Value.int IntKind.i64 nm,
                                Value.int IntKind.u8 fi]
                               (124 : Nat))).alloc
                            (Obj.cells #[Value.int IntKind.i64 e, Value.slice aq an ac, Value.int IntKind.i64 z, Value.slice nq nn nc, Value.slice lq ln lc, Value.bool re, Value.bool po]
                             (126 : Nat))).heap.size,
                         [((0 : Nat), Value.bool th), ((1 : Nat), Value.slice sq sn sc)])] →
                      R (Ending.returned (Value.bool false)) w10
                   else
                    Known w10
                      [(w.heap.size,
                        [((0 : Nat), Value.int IntKind.i64 k), ((1 : Nat), Value.string s), ((2 : Nat), Value.slice dq dn dc), ((3 : Nat), Value.int IntKind.i64 N),
                         ((4 : Nat), Value.slice kq kn kc), ((5 : Nat), Value.int IntKind.i64 nm), ((6 : Nat), Value.int IntKind.u8 fi)]),
                       ((w.alloc
                           (Obj.cells
                            #[Value.int IntKind.i64 k, Value.string s, Value.slice dq dn dc, Value.int IntKind.i64 N, Value.slice kq kn kc, Value.int IntKind.i64 nm, Value.int IntKind.u8 fi]
                            (124 : Nat))).heap.size,
                        [((0 : Nat), Value.int IntKind.i64 e), ((1 : Nat), Value.slice aq an ac), ((2 : Nat), Value.int IntKind.i64 z), ((3 : Nat), Value.slice nq nn nc),
                         ((4 : Nat), Value.slice lq ln lc), ((5 : Nat), Value.bool re), ((6 : Nat), Value.bool po)]),
                       (((w.alloc
                             (Obj.cells
                              #[Value.int IntKind.i64 k, Value.string s, Value.slice dq dn dc, Value.int IntKind.i64 N, Value.slice kq kn kc, Value.int IntKind.i64 nm,
                               Value.int IntKind.u8 fi]
                              (124 : Nat))).alloc
                           (Obj.cells #[Value.int IntKind.i64 e, Value.slice aq an ac, Value.int IntKind.i64 z, Value.slice nq nn nc, Value.slice lq ln lc, Value.bool re, Value.bool po]
                            (126 : Nat))).heap.size,
                        [((0 : Nat), Value.bool th), ((1 : Nat), Value.slice sq sn sc)])] →
                     R (Ending.returned (Value.bool false)) w10
             else
              Known w7
                [(w.heap.size,
                  [((0 : Nat), Value.int IntKind.i64 k), ((1 : Nat), Value.string s), ((2 : Nat), Value.slice dq dn dc), ((3 : Nat), Value.int IntKind.i64 N), ((4 : Nat), Value.slice kq kn kc),
                   ((5 : Nat), Value.int IntKind.i64 nm), ((6 : Nat), Value.int IntKind.u8 fi)]),
                 ((w.alloc
                     (Obj.cells #[Value.int IntKind.i64 k, Value.string s, Value.slice dq dn dc, Value.int IntKind.i64 N, Value.slice kq kn kc, Value.int IntKind.i64 nm, Value.int IntKind.u8 fi]
                      (124 : Nat))).heap.size,
                  [((0 : Nat), Value.int IntKind.i64 e), ((1 : Nat), Value.slice aq an ac), ((2 : Nat), Value.int IntKind.i64 z), ((3 : Nat), Value.slice nq nn nc), ((4 : Nat), Value.slice lq ln lc),
                   ((5 : Nat), Value.bool re), ((6 : Nat), Value.bool po)]),
                 (((w.alloc
                       (Obj.cells #[Value.int IntKind.i64 k, Value.string s, Value.slice dq dn dc, Value.int IntKind.i64 N, Value.slice kq kn kc, Value.int IntKind.i64 nm, Value.int IntKind.u8 fi]
                        (124 : Nat))).alloc
                     (Obj.cells #[Value.int IntKind.i64 e, Value.slice aq an ac, Value.int IntKind.i64 z, Value.slice nq nn nc, Value.slice lq ln lc, Value.bool re, Value.bool po]
                      (126 : Nat))).heap.size,
                  [((0 : Nat), Value.bool th), ((1 : Nat), Value.slice sq sn sc)])] →
               R (Ending.returned (Value.bool false)) w7)
theorem vcTryd24 (k : Int) (s : ByteArray) (dq : Option Addr) (dn dc : Nat) (N : Int) (kq : Option Addr) (kn kc : Nat) (nm fi : Int) (e : Int) (aq : Option Addr) (an ac : Nat) (z : Int) (nq : Option Addr) (nn nc : Nat) (lq : Option Addr) (ln lc : Nat) (re po : Bool) (th : Bool) (sq : Option Addr) (sn sc : Nat) (w : World) (R : Ending → World → Prop) : SX.vcFn Tryd.prog [] Tryd.f24 [.v (.agg #[.int .i64 k, .string s, .slice dq dn dc, .int .i64 N, .slice kq kn kc, .int .i64 nm, .int .u8 fi]), .v (.agg #[.int .i64 e, .slice aq an ac, .int .i64 z, .slice nq nn nc, .slice lq ln lc, .bool re, .bool po]), .v (.agg #[.bool th, .slice sq sn sc])] [] w R = VCTryd24 k s dq dn dc N kq kn kc nm fi e aq an ac z nq nn nc lq ln lc re po th sq sn sc w R := by kernel_rfl
end Go.Proofs.YtbpknjldphckgaaDoor
